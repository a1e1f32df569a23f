/- Forms for proofs that are written by program. No condition. -/
import Derived.Test.YtmcedkcehcacpaaAbs21
namespace Go.Abs
set_option linter.unusedVariables false
set_option linter.unusedSectionVars false
set_option linter.unusedSimpArgs false
set_option linter.unnecessarySimpa false

section
variable {P : Program} {ops : Array Oper} {E : Env} {s s' : AS} {ρ σ : List Value} {B : Nat → Prop} {a : Act} {w w' : World} {o : Oper} {rest : List Oper} {Q : AS → Prop} {R : Exit → AS → Prop}

theorem ARun2.indexN {T : TypeId} {x i : Operand} {nw : Bool} {sz : Nat} {xs : List AV} {k : IntKind} (n : Nat) (y : AV) (hg : gd ops s o = some true) (ho : o.op = .indexAddr T x i) (hx : s.ev x = .sl nw sz xs) (hi : s.ev i = .val (.int k (N n)))
    (hz : elSz P T = some sz) (hs0 : sz ≠ 0) (hy : xs[n]? = some y) (K : ARun P ops rest (s.put o.dst (.ref nw y)) Q) : ARun2 P ops (o :: rest, s) Q :=
  ARun.exec hg (AOp.index ho hx hi hz hs0 (Int.natCast_nonneg n) (by rw [show (N n).toNat = n from Int.toNat_natCast n]; exact hy) K)

theorem NSpec.indexN {T : TypeId} {x i : Operand} {nw : Bool} {sz : Nat} {xs : List AV} {k : IntKind} (n : Nat) (y : AV) (hg : gd ops s o = some true) (ho : o.op = .indexAddr T x i) (hx : s.ev x = .sl nw sz xs) (hi : s.ev i = .val (.int k (N n)))
    (hz : elSz P T = some sz) (hs0 : sz ≠ 0) (hy : xs[n]? = some y) : NSpec P ops o s (.ref nw y) :=
  NSpec.index hg ho hx hi hz hs0 (Int.natCast_nonneg n) (by rw [show (N n).toNat = n from Int.toNat_natCast n]; exact hy)

theorem Hand.tup {ids : List Nat} {xs ys : List AV} (h : HandL ids xs ys) : Hand ids (.tup xs) (.tup ys) := fun _ _ _ _ _ _ _ hi hr => by
  cases hr with
  | tup h1 => exact .tup (h.rel hi h1)

/-- a pure function's body; its result may be told with less -/
theorem PC.of_bodyW {f : FuncId} {fn : Func} {c : Code} {args : List AV} {r : AV} (hr : r.idsOk (fun _ => false) = true) (hf : P.funcs[f]? = some fn) (hb : fn.body = some c) (hn : args.length ≤ fn.ntmps)
    (h : AWp P c { n := fn.ntmps, m := 0, fr := frOf 0 args, ob := [] } (bodyQ P fn fun r' _ => Hand [] r' r)) : PC P f args r := by
  refine ⟨hr, ?_⟩
  intro w ρ B vs hw hrel R' hR'
  refine ACalls.of_body (τ := []) (R := fun r' _ => Hand [] r' r) hf hb hn h w ρ B vs hw hrel R' ?_
  rintro r' v τ' ρ' B' w' hh hw' hv
  have hρ : ρ = [] := by have := hw.len; simpa using this
  subst hρ
  refine hR' _ v [] [] B' w' ⟨rfl, rfl⟩ ?_ (hh _ _ _ _ _ [] _ (by intro i k hk; simp at hk) hv)
  have := hw'.cut (n := 0) (by simp) (by intro k o h; simp at h)
  simpa using this

/-- how a body with objects ends -/
theorem endO.mk {ids : List Nat} {r0 r : AV} {τ' : List Ob} (hn : ids.Nodup) (hok : handObsOk ids s.ob ids = true) (hτ : handObs ids s.ob ids = τ') (hr : Hand ids r r0) : endO ids r0 τ' r s :=
  ⟨hn, hτ ▸ SubOL.hand hok, hr⟩

theorem AWp.regionA {id : Nat} {y : Code} (h : ∀ K : AS → Prop, (∀ s', AWp P y s' R → K s') → ARun P ops ops.toList s K) : AWp P (.seq (.region id ops false) y) s R := AWp.seq (AWp.region (h _ fun _ h => h))
theorem AWp.regionB {id : Nat} (h : ∀ K : AS → Prop, (∀ s', R .normal s' → K s') → ARun P ops ops.toList s K) : AWp P (.region id ops false) s R := AWp.region (h _ fun _ h => h)

/-- a loop that turns no object -/
theorem AWp.loopK0 {α : Type} {c : Code} (ks : List Nat) (upd : α → List (Nat × AV)) (p : α → Prop) (μ : α → Nat) (x : α)
    (h0 : Le s { s with fr := upd x ++ keepFr s.fr ks }) (hp : p x)
    (round : ∀ x, p x → ∀ K : AS → Prop, (∀ s' y, p y → μ y < μ x → Le s' { s with fr := upd y ++ keepFr s.fr ks } → K s') → AWp P c { s with fr := upd x ++ keepFr s.fr ks } (thenQ K R)) : AWp P (.loop c) s R :=
  AWp.loopS (fun x => { s with fr := upd x ++ keepFr s.fr ks }) p μ x h0 hp fun x hx => round x hx _ fun s' y h1 h2 h3 => ⟨y, h1, h2, h3⟩

def sameK (fr fr0 : List (Nat × AV)) : List Nat → Prop
  | [] => True
  | t :: ks => lk fr t = lk fr0 t ∧ sameK fr fr0 ks

theorem sameK_get {fr fr0 : List (Nat × AV)} : ∀ {ks : List Nat}, sameK fr fr0 ks → ∀ t ∈ ks, lk fr t = lk fr0 t
  | [], _, t, h => by simp at h
  | k :: ks, h, t, hm => by
    rcases List.mem_cons.1 hm with e | hm
    · rw [e]; exact h.1
    · exact sameK_get h.2 t hm

/-- behind operations that hang on a guard: what they leave -/
theorem Le.grp {S : AS} {d : Nat} {x : AV} {ks : List Nat} {fr0 : List (Nat × AV)} (hS : S = { s with fr := (d, x) :: keepFr fr0 ks }) (hd : decide (d < s.n) = true) (hx : lk s.fr d = x) (hlt : (ks.all fun t => decide (t < s.n)) = true) (hk : sameK s.fr fr0 ks) : Le s S := by
  subst hS
  intro E ρ B a w hs
  refine ⟨ρ, B, hs.rw_, hs.m, hs.n, hs.df, hs.jj, ?_⟩
  intro t y hm
  rcases List.mem_cons.1 hm with e | hm
  · have e1 : t = d := congrArg Prod.fst e
    have e2 : y = x := congrArg Prod.snd e
    subst e1; subst e2
    refine ⟨by rw [hs.n]; simpa using hd, ?_⟩
    rw [← hx]; exact hs.get t
  · obtain ⟨h1, rfl⟩ := keepFr_mem hm
    refine ⟨by rw [hs.n]; simpa using List.all_eq_true.1 hlt t h1, ?_⟩
    rw [← sameK_get hk t h1]; exact hs.get t

/-- a loop in an iterator -/
theorem AWp.loopKT {α : Type} {c : Code} (ks : List Nat) (upd : α → List (Nat × AV)) (obs : α → List Ob) (trs : α → List (List AV)) (p : α → Prop) (μ : α → Nat) (x : α)
    (h0 : Le s { s with fr := upd x ++ keepFr s.fr ks, ob := obs x, tr := trs x, go := true }) (hp : p x)
    (round : ∀ x, p x → ∀ K : AS → Prop, (∀ s' y, p y → μ y < μ x → Le s' { s with fr := upd y ++ keepFr s.fr ks, ob := obs y, tr := trs y, go := true } → K s') → AWp P c { s with fr := upd x ++ keepFr s.fr ks, ob := obs x, tr := trs x, go := true } (thenQ K R)) : AWp P (.loop c) s R :=
  AWp.loopS (fun x => { s with fr := upd x ++ keepFr s.fr ks, ob := obs x, tr := trs x, go := true }) p μ x h0 hp fun x hx => round x hx _ fun s' y h1 h2 h3 => ⟨y, h1, h2, h3⟩

/-- what is kept: n objects, the slots of the frame -/
theorem Le.mk {S : AS} (n : Nat) (h1 : S.n = s.n ∧ S.m = s.m ∧ S.df = s.df ∧ S.yl = s.yl ∧ S.tr = s.tr ∧ S.go = s.go) (hob : s.ob.take n = S.ob) (hmn : decide (s.m ≤ n) = true) (hk : keeps s.fr S.fr) (hf : frIds (· < n) S.fr = true)
    (ho : S.ob.all (obIds (· < n)) = true) : Le s S := Le.to n h1 hob (of_decide_eq_true hmn) hk hf ho
end
attribute [push_cast] sameK
end Go.Abs
