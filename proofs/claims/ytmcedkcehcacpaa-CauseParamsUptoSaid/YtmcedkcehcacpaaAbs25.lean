/- Rows of the call's own inside boxes; variables made in drawn regions; guards in drawn regions; literals that grow. No condition. -/
import Derived.Test.YtmcedkcehcacpaaAbs24
namespace Go.Abs
set_option linter.unusedVariables false
set_option linter.unusedSectionVars false
set_option linter.unusedSimpArgs false
set_option linter.unnecessarySimpa false

mutual
/-- row k read as r -/
def AV.osub (k : Nat) (r : AV) : AV → AV
  | .val v => .val v
  | .any => .any
  | .agg l => .agg (AV.osubL k r l)
  | .tup l => .tup (AV.osubL k r l)
  | .sl nw sz xs => .sl nw sz xs
  | .own j => if j = k then r else .own j
  | .ptr j o => .ptr j o
  | .ept j o => .ept j o
  | .ref nw x => .ref nw x
  | .ifc t x => .ifc t (if x.idsOk (· != k) = true then x else AV.osub k r x)
  | .fn f l m => .fn f (AV.osubL k r l) (AV.osubL k r m)
def AV.osubL (k : Nat) (r : AV) : List AV → List AV
  | [] => []
  | x :: xs => (if x.idsOk (· != k) = true then x else AV.osub k r x) :: AV.osubL k r xs
end
def AV.osub1 (k : Nat) (r : AV) (x : AV) : AV := if x.idsOk (· != k) = true then x else AV.osub k r x

def Ob.osub (k : Nat) (r : AV) : Ob → Ob
  | .box T cs => .box T (AV.osubL k r cs)
  | o => o
def frOsub (k : Nat) (r : AV) (fr : List (Nat × AV)) : List (Nat × AV) := fr.map fun p => (p.1, AV.osub1 k r p.2)

section
variable {P : Program} {ops : Array Oper} {E : Env} {s s' : AS} {ρ : List Value} {B : Nat → Prop} {a : Act} {w w' : World} {o : Oper} {rest : List Oper} {Q : AS → Prop} {R : Exit → AS → Prop}

mutual
theorem Rel.osub {k : Nat} {r : AV} {u : Value} {bs : Nat} (hu : ρ[k]? = some u) (hr : Rel w B bs ρ r u) : ∀ {x : AV} {v : Value}, Rel w B bs ρ x v → Rel w B bs ρ (AV.osub k r x) v
  | _, _, .val v => .val v
  | _, _, .agg h => .agg (RelL.osub hu hr h)
  | _, _, .tup h => .tup (RelL.osub hu hr h)
  | _, _, .slE nw sz A cap => .slE nw sz A cap
  | _, _, .sl h hc => .sl h hc
  | .own j, _, .own h h1 => by
    simp only [AV.osub]
    split
    · rename_i e
      subst e
      rw [hu] at h
      have := Option.some.inj h
      subst this
      exact hr
    · exact .own h h1
  | _, _, .ptr h => .ptr h
  | _, _, .ept h => .ept h
  | _, _, .ref h hn => .ref h hn
  | .ifc t x, _, .ifc h => by
    simp only [AV.osub]
    refine .ifc ?_
    split
    · exact h
    · exact Rel.osub hu hr h
  | _, _, .fn h h2 => .fn (RelL.osub hu hr h) (RelL.osub hu hr h2)
  | _, _, .any v => .any v
theorem RelL.osub {k : Nat} {r : AV} {u : Value} {bs : Nat} (hu : ρ[k]? = some u) (hr : Rel w B bs ρ r u) : ∀ {xs : List AV} {vs : List Value}, RelL w B bs ρ xs vs → RelL w B bs ρ (AV.osubL k r xs) vs
  | _, _, .nil => .nil
  | x :: xs, _, .cons h h2 => by
    simp only [AV.osubL]
    refine .cons ?_ (RelL.osub hu hr h2)
    split
    · exact h
    · exact Rel.osub hu hr h
end

theorem Rel.osub1 {k : Nat} {r : AV} {u : Value} {bs : Nat} (hu : ρ[k]? = some u) (hr : Rel w B bs ρ r u) {x : AV} {v : Value} (h : Rel w B bs ρ x v) : Rel w B bs ρ (AV.osub1 k r x) v := by
  unfold AV.osub1
  split
  · exact h
  · exact Rel.osub hu hr h

theorem AV.osub_oc {k : Nat} {r : AV} (hr : r.one = true) {x : AV} (h : x.oc = true) : (if x.idsOk (· != k) = true then x else AV.osub k r x).oc = true := by
  split
  · exact h
  · cases x with
    | own j =>
      simp only [AV.osub]
      split
      · exact AV.oc_of hr
      · rfl
    | _ => simp_all [AV.osub, AV.oc, AV.one]

theorem AV.osubL_oc {k : Nat} {r : AV} (hr : r.one = true) : ∀ {l : List AV}, (∀ c ∈ l, c.oc = true) → ∀ c ∈ AV.osubL k r l, c.oc = true
  | [], _, c, hc => by simp [AV.osubL] at hc
  | x :: l, h, c, hc => by
    simp only [AV.osubL] at hc
    rcases List.mem_cons.1 hc with rfl | hc
    · exact AV.osub_oc hr (h x (by simp))
    · exact AV.osubL_oc hr (fun c hc => h c (by simp [hc])) c hc

theorem Ob.osub_live {k : Nat} {r : AV} {o : Ob} : (o.osub k r).live = o.live := by cases o <;> rfl

theorem RO.osub {k j : Nat} {r : AV} {u : Value} {bs : Nat} {o : Ob} (hu : ρ[k]? = some u) (hr : Rel w B bs ρ r u) (h1 : r.one = true) (h : RO w B bs ρ j o) : RO w B bs ρ j (o.osub k r) := by
  cases o with
  | box T cs =>
    obtain ⟨b, vs, fz, a1, a2, a3, a4, a5⟩ := h
    exact ⟨b, vs, fz, a1, a2, a3, RelL.osub hu hr a4, AV.osubL_oc h1 a5⟩
  | _ => exact h

theorem get_map_osub {k : Nat} {r : AV} {ob : List Ob} {i : Nat} {o : Ob} (h : (ob.map (Ob.osub k r))[i]? = some o) : ∃ o2, ob[i]? = some o2 ∧ o = o2.osub k r := by
  rw [List.getElem?_map] at h
  simp only [Option.map_eq_some_iff] at h
  obtain ⟨o2, h1, h2⟩ := h
  exact ⟨o2, h1, h2.symm⟩

theorem RW.osub {ob : List Ob} {k : Nat} {r : AV} {u : Value} (h : RW E ob ρ B w) (hu : ρ[k]? = some u) (hr : Rel w B E.bs ρ r u) (h1 : r.one = true) : RW E (ob.map (Ob.osub k r)) ρ B w := by
  refine { os := h.os, tape := h.tape, output := h.output, size := h.size, block := h.block, pre := h.pre, bsub := h.bsub, bnew := h.bnew, blt := h.blt, len := by simpa using h.len, obs := ?_, dis := ?_, prv := ?_ }
  · intro i o hi
    obtain ⟨o2, hi2, rfl⟩ := get_map_osub hi
    exact (h.obs i o2 hi2).osub hu hr h1
  · intro i j o o' u v b hij a1 l1 a2 l2
    obtain ⟨o2, b1, rfl⟩ := get_map_osub a1
    obtain ⟨o3, b2, rfl⟩ := get_map_osub a2
    rw [Ob.osub_live] at l1 l2
    exact h.dis i j o2 o3 u v b hij b1 l1 b2 l2
  · intro i o v b a1 l1
    obtain ⟨o2, b1, rfl⟩ := get_map_osub a1
    rw [Ob.osub_live] at l1
    exact h.prv i o2 v b b1 l1

theorem Dof.osub {k : Nat} {r : AV} {ob : List Ob} {b : Nat} (h : Dof (ob.map (Ob.osub k r)) ρ b) : Dof ob ρ b := by
  obtain ⟨i, o, v, a1, a2, a3, a4⟩ := h
  obtain ⟨o2, b1, rfl⟩ := get_map_osub a1
  rw [Ob.osub_live] at a2
  exact ⟨i, o2, v, b1, a2, a3, a4⟩

/-- a row of the call's own is only read from now on, wherever it stands -/
theorem Le.pubD {k : Nat} {e : TypeId} {sz : Nat} {xs : List AV} (hk : s.ob[k]? = some (.row e sz xs)) (hm : s.m ≤ k) :
    Le s { s with ob := (s.ob.set k .gone).map (Ob.osub k (.sl true sz xs)), fr := frOsub k (.sl true sz xs) s.fr } := by
  intro E ρ B a w hs
  obtain ⟨B', v, h1, h2, h3, h4, h5⟩ := hs.rw_.publish hk (Nat.le_trans hs.m.1 hm)
  have h3' := h3.osub h2 h4 rfl
  refine ⟨ρ, B', h3', ?_, hs.n, hs.df, hs.jj.chg ⟨rfl, rfl, rfl, Nat.le_refl _, fun _ _ _ => rfl, fun b hd => .inl (Dof.set hk rfl b (Dof.osub hd)), h1, fun b hb => (h5 b hb).elim .inl fun h => .inr (.inl h)⟩ h3'.bd, ?_⟩
  · simpa using hs.m
  intro t x hmem
  simp only [frOsub, List.mem_map] at hmem
  obtain ⟨⟨t', x'⟩, hmem, he⟩ := hmem
  simp only [Prod.mk.injEq] at he
  obtain ⟨rfl, rfl⟩ := he
  obtain ⟨r1, r2⟩ := hs.rf t' x' hmem
  exact ⟨r1, Rel.osub1 h2 h4 (r2.mono (B' := B') (ρ' := ρ) h1 (fun _ _ => rfl) (Nat.le_refl _) (fun _ _ h => h))⟩

theorem AWp.pubD {c : Code} (k : Nat) {e : TypeId} {sz : Nat} {xs : List AV} {s' : AS} (K : AWp P c s' R) (hk : s.ob[k]? = some (.row e sz xs) := by rfl) (hm : decide (s.m ≤ k) = true := by first | rfl | decide)
    (h : ({ s with ob := (s.ob.set k .gone).map (Ob.osub k (.sl true sz xs)), fr := frOsub k (.sl true sz xs) s.fr } : AS) = s' := by
        try simp only [push_cast, reduceIte, Nat.reduceEqDiff, Nat.reduceLT, Nat.reduceAdd, Nat.reduceSub, Nat.reduceMul, Nat.reduceLeDiff, Nat.reducePow, Int.reduceLT, Int.reduceToNat, reduceCtorEq, Int.reduceNeg, Int.reduceEq, Nat.reduceBEq, Nat.reduceBNe, Int.reduceBEq, Int.reduceBNe, String.reduceEq]
        try simp (disch := omega) only [w_nat, w_add, w_addl, w_addr, w_sub, w_subl, w_mul, w_mull, w_mulr, w_u32, w_u16, w_u8, w_u32a, N_zero]
        try simp only [push_cast, reduceIte, Nat.reduceEqDiff, Nat.reduceLT, Nat.reduceAdd, Nat.reduceSub, Nat.reduceMul, Nat.reduceLeDiff, Nat.reducePow, Int.reduceLT, Int.reduceToNat, reduceCtorEq, Int.reduceNeg, Int.reduceEq, Nat.reduceBEq, Nat.reduceBNe, Int.reduceBEq, Int.reduceBNe, String.reduceEq]
        rfl) : AWp P c s R :=
  AWp.weak (Le.pubD hk (of_decide_eq_true hm)) (h ▸ K)
theorem ARun2.pubD {l : List Oper} (k : Nat) {e : TypeId} {sz : Nat} {xs : List AV} {p : List Oper × AS} (K : ARun2 P ops p Q) (hk : s.ob[k]? = some (.row e sz xs) := by rfl) (hm : decide (s.m ≤ k) = true := by first | rfl | decide)
    (h : Abs.srun P ops l ({ s with ob := (s.ob.set k .gone).map (Ob.osub k (.sl true sz xs)), fr := frOsub k (.sl true sz xs) s.fr } : AS) = p := by
        try simp only [push_cast, reduceIte, Nat.reduceEqDiff, Nat.reduceLT, Nat.reduceAdd, Nat.reduceSub, Nat.reduceMul, Nat.reduceLeDiff, Nat.reducePow, Int.reduceLT, Int.reduceToNat, reduceCtorEq, Int.reduceNeg, Int.reduceEq, Nat.reduceBEq, Nat.reduceBNe, Int.reduceBEq, Int.reduceBNe, String.reduceEq]
        try simp (disch := omega) only [w_nat, w_add, w_addl, w_addr, w_sub, w_subl, w_mul, w_mull, w_mulr, w_u32, w_u16, w_u8, w_u32a, N_zero]
        try simp only [push_cast, reduceIte, Nat.reduceEqDiff, Nat.reduceLT, Nat.reduceAdd, Nat.reduceSub, Nat.reduceMul, Nat.reduceLeDiff, Nat.reducePow, Int.reduceLT, Int.reduceToNat, reduceCtorEq, Int.reduceNeg, Int.reduceEq, Nat.reduceBEq, Nat.reduceBNe, Int.reduceBEq, Int.reduceBNe, String.reduceEq]
        rfl) : ARun2 P ops (l, s) Q :=
  ARun2.weak (Le.pubD hk (of_decide_eq_true hm)) (ARun.srun (h ▸ K))

/-- a literal that is kept as a row of the call's own -/
theorem ARun.ownM {l : List Oper} {T e : TypeId} {len sz : Nat} {parts : Array (Nat × Operand)} {s' : AS} (K : ARun P ops rest s' Q) (hlr : l = o :: rest := by rfl)
    (ho : o.op = .buildSlice T len parts := by rfl) (hg : gd ops s o = some true := by first | with_reducible rfl | (simp only [push_cast, reduceIte, Nat.reduceEqDiff, Nat.reduceLT, Nat.reduceAdd, Nat.reduceSub, Nat.reduceMul, Nat.reduceLeDiff, Nat.reducePow, Int.reduceLT, Int.reduceToNat, reduceCtorEq, Int.reduceNeg, Int.reduceEq, Nat.reduceBEq, Nat.reduceBNe, Int.reduceBEq, Int.reduceBNe, String.reduceEq]; first | done | rfl | (simp (disch := omega) only [w_nat, w_add, w_addl, w_addr, w_sub, w_subl, w_mul, w_mull, w_mulr, w_u32, w_u16, w_u8, w_u32a, N_zero]; first | done | rfl | (simp only [push_cast, reduceIte, Nat.reduceEqDiff, Nat.reduceLT, Nat.reduceAdd, Nat.reduceSub, Nat.reduceMul, Nat.reduceLeDiff, Nat.reducePow, Int.reduceLT, Int.reduceToNat, reduceCtorEq, Int.reduceNeg, Int.reduceEq, Nat.reduceBEq, Nat.reduceBNe, Int.reduceBEq, Int.reduceBNe, String.reduceEq]; first | done | rfl)))) (hz : elSz P T = some sz := by first | with_reducible rfl | (simp only [push_cast, reduceIte, Nat.reduceEqDiff, Nat.reduceLT, Nat.reduceAdd, Nat.reduceSub, Nat.reduceMul, Nat.reduceLeDiff, Nat.reducePow, Int.reduceLT, Int.reduceToNat, reduceCtorEq, Int.reduceNeg, Int.reduceEq, Nat.reduceBEq, Nat.reduceBNe, Int.reduceBEq, Int.reduceBNe, String.reduceEq]; first | done | rfl | (simp (disch := omega) only [w_nat, w_add, w_addl, w_addr, w_sub, w_subl, w_mul, w_mull, w_mulr, w_u32, w_u16, w_u8, w_u32a, N_zero]; first | done | rfl | (simp only [push_cast, reduceIte, Nat.reduceEqDiff, Nat.reduceLT, Nat.reduceAdd, Nat.reduceSub, Nat.reduceMul, Nat.reduceLeDiff, Nat.reducePow, Int.reduceLT, Int.reduceToNat, reduceCtorEq, Int.reduceNeg, Int.reduceEq, Nat.reduceBEq, Nat.reduceBNe, Int.reduceBEq, Int.reduceBNe, String.reduceEq]; first | done | rfl)))) (he : elT P T = some e := by first | with_reducible rfl | (simp only [push_cast, reduceIte, Nat.reduceEqDiff, Nat.reduceLT, Nat.reduceAdd, Nat.reduceSub, Nat.reduceMul, Nat.reduceLeDiff, Nat.reducePow, Int.reduceLT, Int.reduceToNat, reduceCtorEq, Int.reduceNeg, Int.reduceEq, Nat.reduceBEq, Nat.reduceBNe, Int.reduceBEq, Int.reduceBNe, String.reduceEq]; first | done | rfl | (simp (disch := omega) only [w_nat, w_add, w_addl, w_addr, w_sub, w_subl, w_mul, w_mull, w_mulr, w_u32, w_u16, w_u8, w_u32a, N_zero]; first | done | rfl | (simp only [push_cast, reduceIte, Nat.reduceEqDiff, Nat.reduceLT, Nat.reduceAdd, Nat.reduceSub, Nat.reduceMul, Nat.reduceLeDiff, Nat.reducePow, Int.reduceLT, Int.reduceToNat, reduceCtorEq, Int.reduceNeg, Int.reduceEq, Nat.reduceBEq, Nat.reduceBNe, Int.reduceBEq, Int.reduceBNe, String.reduceEq]; first | done | rfl))))
    (hp : parts.toList.map (·.1) = List.range len := by rfl) (hx : ∀ p ∈ parts.toList, (s.ev p.2).flat = true ∧ (s.ev p.2).cells.length = sz := by first | with_reducible rfl | (simp only [push_cast, reduceIte, Nat.reduceEqDiff, Nat.reduceLT, Nat.reduceAdd, Nat.reduceSub, Nat.reduceMul, Nat.reduceLeDiff, Nat.reducePow, Int.reduceLT, Int.reduceToNat, reduceCtorEq, Int.reduceNeg, Int.reduceEq, Nat.reduceBEq, Nat.reduceBNe, Int.reduceBEq, Int.reduceBNe, String.reduceEq]; first | done | rfl | (simp (disch := omega) only [w_nat, w_add, w_addl, w_addr, w_sub, w_subl, w_mul, w_mull, w_mulr, w_u32, w_u16, w_u8, w_u32a, N_zero]; first | done | rfl | (simp only [push_cast, reduceIte, Nat.reduceEqDiff, Nat.reduceLT, Nat.reduceAdd, Nat.reduceSub, Nat.reduceMul, Nat.reduceLeDiff, Nat.reducePow, Int.reduceLT, Int.reduceToNat, reduceCtorEq, Int.reduceNeg, Int.reduceEq, Nat.reduceBEq, Nat.reduceBNe, Int.reduceBEq, Int.reduceBNe, String.reduceEq]; first | done | rfl)))) (hle : decide (len * sz ≤ 2 ^ 24) = true := by first | rfl | decide)
    (h : (({ s with ob := s.ob ++ [Ob.row e sz (parts.toList.map fun p => s.ev p.2)] } : AS).put o.dst (.own s.ob.length)) = s' := by
        try simp only [push_cast, reduceIte, Nat.reduceEqDiff, Nat.reduceLT, Nat.reduceAdd, Nat.reduceSub, Nat.reduceMul, Nat.reduceLeDiff, Nat.reducePow, Int.reduceLT, Int.reduceToNat, reduceCtorEq, Int.reduceNeg, Int.reduceEq, Nat.reduceBEq, Nat.reduceBNe, Int.reduceBEq, Int.reduceBNe, String.reduceEq]
        try simp (disch := omega) only [w_nat, w_add, w_addl, w_addr, w_sub, w_subl, w_mul, w_mull, w_mulr, w_u32, w_u16, w_u8, w_u32a, N_zero]
        try simp only [push_cast, reduceIte, Nat.reduceEqDiff, Nat.reduceLT, Nat.reduceAdd, Nat.reduceSub, Nat.reduceMul, Nat.reduceLeDiff, Nat.reducePow, Int.reduceLT, Int.reduceToNat, reduceCtorEq, Int.reduceNeg, Int.reduceEq, Nat.reduceBEq, Nat.reduceBNe, Int.reduceBEq, Int.reduceBNe, String.reduceEq]
        rfl) : ARun P ops l s Q := by
  subst hlr
  exact ARun2.buildOwn hg ho hz he hp hx (of_decide_eq_true hle) (h ▸ K)

section dr
variable {nds : List (List (Nat × Option Nat))} {vals : List AV} {G : Prop}

theorem Dr.al (k : Dr P ops s nds (vals ++ [.ptr s.ob.length 0]) G) (hn : ndsB nds = true := by first | rfl | decide) (hol : ops[vals.length]? = some o := by first | with_reducible rfl | (simp only [push_cast, reduceIte, Nat.reduceEqDiff, Nat.reduceLT, Nat.reduceAdd, Nat.reduceSub, Nat.reduceMul, Nat.reduceLeDiff, Nat.reducePow, Int.reduceLT, Int.reduceToNat, reduceCtorEq, Int.reduceNeg, Int.reduceEq, Nat.reduceBEq, Nat.reduceBNe, Int.reduceBEq, Int.reduceBNe, String.reduceEq]; first | done | rfl | (simp (disch := omega) only [w_nat, w_add, w_addl, w_addr, w_sub, w_subl, w_mul, w_mull, w_mulr, w_u32, w_u16, w_u8, w_u32a, N_zero]; first | done | rfl | (simp only [push_cast, reduceIte, Nat.reduceEqDiff, Nat.reduceLT, Nat.reduceAdd, Nat.reduceSub, Nat.reduceMul, Nat.reduceLeDiff, Nat.reducePow, Int.reduceLT, Int.reduceToNat, reduceCtorEq, Int.reduceNeg, Int.reduceEq, Nat.reduceBEq, Nat.reduceBNe, Int.reduceBEq, Int.reduceBNe, String.reduceEq]; first | done | rfl)))) (ho : isAl o.op = true := by rfl) : Dr P ops s nds vals G :=
  Dr.step' hn hol (fun h => by rw [ho] at h; cases h) k

theorem Dr.finA {id : Nat} {n : Nat} {y : Code} (i0 : Nat) {T : TypeId} {z : List Value} {p : List Oper × AS} (new : List (Nat × Nat)) (old : List Nat) (hG : ∀ vals, PSpec P ops s nds vals → AWp P (.region id ops true) s (thenQ (fun s' => AWp P y s' R) R) → G) (hm : P.follows .mixedOrders = true)
    (k : ∀ K : AS → Prop, (∀ s', AWp P y s' R → K s') → ARun2 P ops p K)
    (hl : vals.length = n := by rfl) (hB : drawnB ops n s.n nds = true := by kernel_rfl) (hk : drB ops n s.n s.fr new old = true := by kernel_rfl) (ha : noAl ops n (some i0) = true := by kernel_rfl)
    (h0 : ops[i0]? = some o := by first | with_reducible rfl | (simp only [push_cast, reduceIte, Nat.reduceEqDiff, Nat.reduceLT, Nat.reduceAdd, Nat.reduceSub, Nat.reduceMul, Nat.reduceLeDiff, Nat.reducePow, Int.reduceLT, Int.reduceToNat, reduceCtorEq, Int.reduceNeg, Int.reduceEq, Nat.reduceBEq, Nat.reduceBNe, Int.reduceBEq, Int.reduceBNe, String.reduceEq]; first | done | rfl | (simp (disch := omega) only [w_nat, w_add, w_addl, w_addr, w_sub, w_subl, w_mul, w_mull, w_mulr, w_u32, w_u16, w_u8, w_u32a, N_zero]; first | done | rfl | (simp only [push_cast, reduceIte, Nat.reduceEqDiff, Nat.reduceLT, Nat.reduceAdd, Nat.reduceSub, Nat.reduceMul, Nat.reduceLeDiff, Nat.reducePow, Int.reduceLT, Int.reduceToNat, reduceCtorEq, Int.reduceNeg, Int.reduceEq, Nat.reduceBEq, Nat.reduceBNe, Int.reduceBEq, Int.reduceBNe, String.reduceEq]; first | done | rfl)))) (ho : o.op = .alloc T := by rfl) (hg : o.guard = none := by rfl) (hz : zc P T = some z := by first | with_reducible rfl | (simp only [push_cast, reduceIte, Nat.reduceEqDiff, Nat.reduceLT, Nat.reduceAdd, Nat.reduceSub, Nat.reduceMul, Nat.reduceLeDiff, Nat.reducePow, Int.reduceLT, Int.reduceToNat, reduceCtorEq, Int.reduceNeg, Int.reduceEq, Nat.reduceBEq, Nat.reduceBNe, Int.reduceBEq, Int.reduceBNe, String.reduceEq]; first | done | rfl | (simp (disch := omega) only [w_nat, w_add, w_addl, w_addr, w_sub, w_subl, w_mul, w_mull, w_mulr, w_u32, w_u16, w_u8, w_u32a, N_zero]; first | done | rfl | (simp only [push_cast, reduceIte, Nat.reduceEqDiff, Nat.reduceLT, Nat.reduceAdd, Nat.reduceSub, Nat.reduceMul, Nat.reduceLeDiff, Nat.reducePow, Int.reduceLT, Int.reduceToNat, reduceCtorEq, Int.reduceNeg, Int.reduceEq, Nat.reduceBEq, Nat.reduceBNe, Int.reduceBEq, Int.reduceBNe, String.reduceEq]; first | done | rfl)))) (hlt : decide (i0 < n) = true := by first | rfl | decide) (hv : vals.getD i0 .any = .ptr s.ob.length 0 := by rfl)
    (h : srun P ops (ops.toList.drop n) { s with fr := (new.map fun p => (p.1, vals.getD p.2 .any)) ++ keepFr s.fr old, ob := s.ob ++ [.box T (z.map AV.val)] } = p := by
        try simp only [push_cast, reduceIte, Nat.reduceEqDiff, Nat.reduceLT, Nat.reduceAdd, Nat.reduceSub, Nat.reduceMul, Nat.reduceLeDiff, Nat.reducePow, Int.reduceLT, Int.reduceToNat, reduceCtorEq, Int.reduceNeg, Int.reduceEq, Nat.reduceBEq, Nat.reduceBNe, Int.reduceBEq, Int.reduceBNe, String.reduceEq]
        try simp (disch := omega) only [w_nat, w_add, w_addl, w_addr, w_sub, w_subl, w_mul, w_mull, w_mulr, w_u32, w_u16, w_u8, w_u32a, N_zero]
        try simp only [push_cast, reduceIte, Nat.reduceEqDiff, Nat.reduceLT, Nat.reduceAdd, Nat.reduceSub, Nat.reduceMul, Nat.reduceLeDiff, Nat.reducePow, Int.reduceLT, Int.reduceToNat, reduceCtorEq, Int.reduceNeg, Int.reduceEq, Nat.reduceBEq, Nat.reduceBNe, Int.reduceBEq, Int.reduceBNe, String.reduceEq]
        rfl) : Dr P ops s nds vals G := by
  intro hp
  exact hG vals hp (AWp.drA i0 nds new old vals hm hB hk ha hl hp h0 ho hg hz (of_decide_eq_true hlt) hv (ARun.srun (h ▸ k _ fun _ h => h)))

theorem Dr.callg {f : FuncId} {args : Array Operand} {ts : Array TypeId} {ys : List AV} {r : AV} {g : Bool} (hp : g = true → PC P f ys r) (k : Dr P ops s nds (vals ++ [bif g then r else .val (.tuple #[])]) G) (hn : ndsB nds = true := by first | rfl | decide) (hol : ops[vals.length]? = some o := by first | with_reducible rfl | (simp only [push_cast, reduceIte, Nat.reduceEqDiff, Nat.reduceLT, Nat.reduceAdd, Nat.reduceSub, Nat.reduceMul, Nat.reduceLeDiff, Nat.reducePow, Int.reduceLT, Int.reduceToNat, reduceCtorEq, Int.reduceNeg, Int.reduceEq, Nat.reduceBEq, Nat.reduceBNe, Int.reduceBEq, Int.reduceBNe, String.reduceEq]; first | done | rfl | (simp (disch := omega) only [w_nat, w_add, w_addl, w_addr, w_sub, w_subl, w_mul, w_mull, w_mulr, w_u32, w_u16, w_u8, w_u32a, N_zero]; first | done | rfl | (simp only [push_cast, reduceIte, Nat.reduceEqDiff, Nat.reduceLT, Nat.reduceAdd, Nat.reduceSub, Nat.reduceMul, Nat.reduceLeDiff, Nat.reducePow, Int.reduceLT, Int.reduceToNat, reduceCtorEq, Int.reduceNeg, Int.reduceEq, Nat.reduceBEq, Nat.reduceBNe, Int.reduceBEq, Int.reduceBNe, String.reduceEq]; first | done | rfl))))
    (ho : o.op = .call { callee := .value (.func f), args := args, argTypes := ts } := by rfl) (hg : gd ops { s with fr := needFr s.fr vals (nds.getD vals.length []) } o = some g := by first | with_reducible rfl | (simp only [push_cast, reduceIte, Nat.reduceEqDiff, Nat.reduceLT, Nat.reduceAdd, Nat.reduceSub, Nat.reduceMul, Nat.reduceLeDiff, Nat.reducePow, Int.reduceLT, Int.reduceToNat, reduceCtorEq, Int.reduceNeg, Int.reduceEq, Nat.reduceBEq, Nat.reduceBNe, Int.reduceBEq, Int.reduceBNe, String.reduceEq]; first | done | rfl | (simp (disch := omega) only [w_nat, w_add, w_addl, w_addr, w_sub, w_subl, w_mul, w_mull, w_mulr, w_u32, w_u16, w_u8, w_u32a, N_zero]; first | done | rfl | (simp only [push_cast, reduceIte, Nat.reduceEqDiff, Nat.reduceLT, Nat.reduceAdd, Nat.reduceSub, Nat.reduceMul, Nat.reduceLeDiff, Nat.reducePow, Int.reduceLT, Int.reduceToNat, reduceCtorEq, Int.reduceNeg, Int.reduceEq, Nat.reduceBEq, Nat.reduceBNe, Int.reduceBEq, Int.reduceBNe, String.reduceEq]; first | done | rfl)))) (hc : callable P f = true := by first | assumption | first | with_reducible rfl | (simp only [push_cast, reduceIte, Nat.reduceEqDiff, Nat.reduceLT, Nat.reduceAdd, Nat.reduceSub, Nat.reduceMul, Nat.reduceLeDiff, Nat.reducePow, Int.reduceLT, Int.reduceToNat, reduceCtorEq, Int.reduceNeg, Int.reduceEq, Nat.reduceBEq, Nat.reduceBNe, Int.reduceBEq, Int.reduceBNe, String.reduceEq]; first | done | rfl | (simp (disch := omega) only [w_nat, w_add, w_addl, w_addr, w_sub, w_subl, w_mul, w_mull, w_mulr, w_u32, w_u16, w_u8, w_u32a, N_zero]; first | done | rfl | (simp only [push_cast, reduceIte, Nat.reduceEqDiff, Nat.reduceLT, Nat.reduceAdd, Nat.reduceSub, Nat.reduceMul, Nat.reduceLeDiff, Nat.reducePow, Int.reduceLT, Int.reduceToNat, reduceCtorEq, Int.reduceNeg, Int.reduceEq, Nat.reduceBEq, Nat.reduceBNe, Int.reduceBEq, Int.reduceBNe, String.reduceEq]; first | done | rfl))))
    (hsub : g = true → HandL [] (args.toList.map (AS.ev { s with fr := needFr s.fr vals (nds.getD vals.length []) })) ys := by
      intro hg
      try simp only [hg]
      try simp only [push_cast, reduceIte, Nat.reduceEqDiff, Nat.reduceLT, Nat.reduceAdd, Nat.reduceSub, Nat.reduceMul, Nat.reduceLeDiff, Nat.reducePow, Int.reduceLT, Int.reduceToNat, reduceCtorEq, Int.reduceNeg, Int.reduceEq, Nat.reduceBEq, Nat.reduceBNe, Int.reduceBEq, Int.reduceBNe, String.reduceEq]
      try simp (disch := omega) only [w_nat, w_add, w_addl, w_addr, w_sub, w_subl, w_mul, w_mull, w_mulr, w_u32, w_u16, w_u8, w_u32a, N_zero]
      repeat' (first | assumption | exact HandL.nil | exact Hand.nil | exact Hand.any | exact Hand.eq (by first | with_reducible rfl | (simp only [push_cast, reduceIte, Nat.reduceEqDiff, Nat.reduceLT, Nat.reduceAdd, Nat.reduceSub, Nat.reduceMul, Nat.reduceLeDiff, Nat.reducePow, Int.reduceLT, Int.reduceToNat, reduceCtorEq, Int.reduceNeg, Int.reduceEq, Nat.reduceBEq, Nat.reduceBNe, Int.reduceBEq, Int.reduceBNe, String.reduceEq]; first | done | rfl | (simp (disch := omega) only [w_nat, w_add, w_addl, w_addr, w_sub, w_subl, w_mul, w_mull, w_mulr, w_u32, w_u16, w_u8, w_u32a, N_zero]; first | done | rfl | (simp only [push_cast, reduceIte, Nat.reduceEqDiff, Nat.reduceLT, Nat.reduceAdd, Nat.reduceSub, Nat.reduceMul, Nat.reduceLeDiff, Nat.reducePow, Int.reduceLT, Int.reduceToNat, reduceCtorEq, Int.reduceNeg, Int.reduceEq, Nat.reduceBEq, Nat.reduceBNe, Int.reduceBEq, Int.reduceBNe, String.reduceEq]; first | done | rfl)))) (by first | with_reducible rfl | (simp only [push_cast, reduceIte, Nat.reduceEqDiff, Nat.reduceLT, Nat.reduceAdd, Nat.reduceSub, Nat.reduceMul, Nat.reduceLeDiff, Nat.reducePow, Int.reduceLT, Int.reduceToNat, reduceCtorEq, Int.reduceNeg, Int.reduceEq, Nat.reduceBEq, Nat.reduceBNe, Int.reduceBEq, Int.reduceBNe, String.reduceEq]; first | done | rfl | (simp (disch := omega) only [w_nat, w_add, w_addl, w_addr, w_sub, w_subl, w_mul, w_mull, w_mulr, w_u32, w_u16, w_u8, w_u32a, N_zero]; first | done | rfl | (simp only [push_cast, reduceIte, Nat.reduceEqDiff, Nat.reduceLT, Nat.reduceAdd, Nat.reduceSub, Nat.reduceMul, Nat.reduceLeDiff, Nat.reducePow, Int.reduceLT, Int.reduceToNat, reduceCtorEq, Int.reduceNeg, Int.reduceEq, Nat.reduceBEq, Nat.reduceBNe, Int.reduceBEq, Int.reduceBNe, String.reduceEq]; first | done | rfl)))) | refine HandL.cons ?_ ?_ | refine Hand.agg ?_ | refine Hand.tup ?_ | refine Hand.fn ?_ ?_)) : Dr P ops s nds vals G :=
  Dr.step hn hol (NSpec.grd hg fun e => NSpec.callA (hp e) (e ▸ hg) ho hc (hsub e)) k

theorem Dr.idxg {T : TypeId} {x i : Operand} {nw : Bool} {sz : Nat} {xs : List AV} {kk : IntKind} {g : Bool} (n : Nat) (y : AV) (hy : g = true → xs[n]? = some y) (k : Dr P ops s nds (vals ++ [bif g then .ref nw y else .val (.tuple #[])]) G) (hn : ndsB nds = true := by first | rfl | decide) (hol : ops[vals.length]? = some o := by first | with_reducible rfl | (simp only [push_cast, reduceIte, Nat.reduceEqDiff, Nat.reduceLT, Nat.reduceAdd, Nat.reduceSub, Nat.reduceMul, Nat.reduceLeDiff, Nat.reducePow, Int.reduceLT, Int.reduceToNat, reduceCtorEq, Int.reduceNeg, Int.reduceEq, Nat.reduceBEq, Nat.reduceBNe, Int.reduceBEq, Int.reduceBNe, String.reduceEq]; first | done | rfl | (simp (disch := omega) only [w_nat, w_add, w_addl, w_addr, w_sub, w_subl, w_mul, w_mull, w_mulr, w_u32, w_u16, w_u8, w_u32a, N_zero]; first | done | rfl | (simp only [push_cast, reduceIte, Nat.reduceEqDiff, Nat.reduceLT, Nat.reduceAdd, Nat.reduceSub, Nat.reduceMul, Nat.reduceLeDiff, Nat.reducePow, Int.reduceLT, Int.reduceToNat, reduceCtorEq, Int.reduceNeg, Int.reduceEq, Nat.reduceBEq, Nat.reduceBNe, Int.reduceBEq, Int.reduceBNe, String.reduceEq]; first | done | rfl))))
    (ho : o.op = .indexAddr T x i := by rfl) (hg : gd ops { s with fr := needFr s.fr vals (nds.getD vals.length []) } o = some g := by first | with_reducible rfl | (simp only [push_cast, reduceIte, Nat.reduceEqDiff, Nat.reduceLT, Nat.reduceAdd, Nat.reduceSub, Nat.reduceMul, Nat.reduceLeDiff, Nat.reducePow, Int.reduceLT, Int.reduceToNat, reduceCtorEq, Int.reduceNeg, Int.reduceEq, Nat.reduceBEq, Nat.reduceBNe, Int.reduceBEq, Int.reduceBNe, String.reduceEq]; first | done | rfl | (simp (disch := omega) only [w_nat, w_add, w_addl, w_addr, w_sub, w_subl, w_mul, w_mull, w_mulr, w_u32, w_u16, w_u8, w_u32a, N_zero]; first | done | rfl | (simp only [push_cast, reduceIte, Nat.reduceEqDiff, Nat.reduceLT, Nat.reduceAdd, Nat.reduceSub, Nat.reduceMul, Nat.reduceLeDiff, Nat.reducePow, Int.reduceLT, Int.reduceToNat, reduceCtorEq, Int.reduceNeg, Int.reduceEq, Nat.reduceBEq, Nat.reduceBNe, Int.reduceBEq, Int.reduceBNe, String.reduceEq]; first | done | rfl)))) (hx : g = true → AS.ev { s with fr := needFr s.fr vals (nds.getD vals.length []) } x = .sl nw sz xs := by intro hg; (try simp only [hg]); first | with_reducible rfl | (simp only [push_cast, reduceIte, Nat.reduceEqDiff, Nat.reduceLT, Nat.reduceAdd, Nat.reduceSub, Nat.reduceMul, Nat.reduceLeDiff, Nat.reducePow, Int.reduceLT, Int.reduceToNat, reduceCtorEq, Int.reduceNeg, Int.reduceEq, Nat.reduceBEq, Nat.reduceBNe, Int.reduceBEq, Int.reduceBNe, String.reduceEq]; first | done | rfl | (simp (disch := omega) only [w_nat, w_add, w_addl, w_addr, w_sub, w_subl, w_mul, w_mull, w_mulr, w_u32, w_u16, w_u8, w_u32a, N_zero]; first | done | rfl | (simp only [push_cast, reduceIte, Nat.reduceEqDiff, Nat.reduceLT, Nat.reduceAdd, Nat.reduceSub, Nat.reduceMul, Nat.reduceLeDiff, Nat.reducePow, Int.reduceLT, Int.reduceToNat, reduceCtorEq, Int.reduceNeg, Int.reduceEq, Nat.reduceBEq, Nat.reduceBNe, Int.reduceBEq, Int.reduceBNe, String.reduceEq]; first | done | rfl))))
    (hi : g = true → AS.ev { s with fr := needFr s.fr vals (nds.getD vals.length []) } i = .val (.int kk (N n)) := by intro hg; (try simp only [hg]); first | with_reducible rfl | (simp only [push_cast, reduceIte, Nat.reduceEqDiff, Nat.reduceLT, Nat.reduceAdd, Nat.reduceSub, Nat.reduceMul, Nat.reduceLeDiff, Nat.reducePow, Int.reduceLT, Int.reduceToNat, reduceCtorEq, Int.reduceNeg, Int.reduceEq, Nat.reduceBEq, Nat.reduceBNe, Int.reduceBEq, Int.reduceBNe, String.reduceEq]; first | done | rfl | (simp (disch := omega) only [w_nat, w_add, w_addl, w_addr, w_sub, w_subl, w_mul, w_mull, w_mulr, w_u32, w_u16, w_u8, w_u32a, N_zero]; first | done | rfl | (simp only [push_cast, reduceIte, Nat.reduceEqDiff, Nat.reduceLT, Nat.reduceAdd, Nat.reduceSub, Nat.reduceMul, Nat.reduceLeDiff, Nat.reducePow, Int.reduceLT, Int.reduceToNat, reduceCtorEq, Int.reduceNeg, Int.reduceEq, Nat.reduceBEq, Nat.reduceBNe, Int.reduceBEq, Int.reduceBNe, String.reduceEq]; first | done | rfl)))) (hz : elSz P T = some sz := by first | with_reducible rfl | (simp only [push_cast, reduceIte, Nat.reduceEqDiff, Nat.reduceLT, Nat.reduceAdd, Nat.reduceSub, Nat.reduceMul, Nat.reduceLeDiff, Nat.reducePow, Int.reduceLT, Int.reduceToNat, reduceCtorEq, Int.reduceNeg, Int.reduceEq, Nat.reduceBEq, Nat.reduceBNe, Int.reduceBEq, Int.reduceBNe, String.reduceEq]; first | done | rfl | (simp (disch := omega) only [w_nat, w_add, w_addl, w_addr, w_sub, w_subl, w_mul, w_mull, w_mulr, w_u32, w_u16, w_u8, w_u32a, N_zero]; first | done | rfl | (simp only [push_cast, reduceIte, Nat.reduceEqDiff, Nat.reduceLT, Nat.reduceAdd, Nat.reduceSub, Nat.reduceMul, Nat.reduceLeDiff, Nat.reducePow, Int.reduceLT, Int.reduceToNat, reduceCtorEq, Int.reduceNeg, Int.reduceEq, Nat.reduceBEq, Nat.reduceBNe, Int.reduceBEq, Int.reduceBNe, String.reduceEq]; first | done | rfl)))) (hs0 : decide (sz ≠ 0) = true := by first | rfl | decide) : Dr P ops s nds vals G :=
  Dr.step hn hol (NSpec.grd hg fun e => NSpec.indexN n y (e ▸ hg) ho (hx e) (hi e) hz (of_decide_eq_true hs0) (hy e)) k
end dr
end
attribute [push_cast] AV.osub AV.osubL AV.osub1 Ob.osub frOsub isAl
end Go.Abs
