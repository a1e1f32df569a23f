/- The rule for a loop over a function, put together. No condition. -/
import Derived.Test.YtmcedkcehcacpaaAbs12
namespace Go.Abs
set_option linter.unusedVariables false
set_option linter.unusedSectionVars false
set_option linter.unusedSimpArgs false
set_option linter.unnecessarySimpa false

section
variable {P : Program} {ops : Array Oper} {E : Env} {s s' : AS} {ρ : List Value} {B : Nat → Prop} {a : Act} {w w' : World} {o : Oper} {rest : List Oper}

theorem fold_size : ∀ (l : List (Tmp × Value)) (t : Array Value), (l.foldl (fun t (p : Tmp × Value) => t.setIfInBounds p.1 p.2) t).size = t.size
  | [], t => rfl
  | p :: l, t => by simp only [List.foldl_cons]; rw [fold_size l]; simp

theorem setps_rf {bs : Nat} : ∀ {ps : List Nat} {x : List AV} {vs : List Value} {fr : List (Nat × AV)} {t : Array Value}, RF w B bs ρ t fr → RelL w B bs ρ x vs → (∀ p ∈ ps, p < t.size) →
    RF w B bs ρ ((ps.zip vs).foldl (fun t (p : Tmp × Value) => t.setIfInBounds p.1 p.2) t) (setps fr ps x)
  | [], x, vs, fr, t, h, _, _ => by cases x <;> simpa [setps] using h
  | p :: ps, [], _, fr, t, h, .nil, _ => by simpa [setps] using h
  | p :: ps, x :: xs, _, fr, t, h, .cons (v := v) h1 h2, hp => by
    simp only [setps, List.zip_cons_cons, List.foldl_cons]
    have h3 := h.put (t := p) h1
    rw [if_pos (hp p (by simp))] at h3
    exact setps_rf h3 h2 (fun q hq => by rw [Array.size_setIfInBounds]; exact hp q (by simp [hq]))

/-- the iterator's keeper -/
def J2 (E : Env) (df : List Nat) (l : Nat) (rec : LoopState → Option Code → Loop) (t0 : Array Value) (fr0 : List (Nat × AV)) (pp : List Value) (base : Nat) (I : List (List AV) → List Ob → List (List AV) → Bool → Prop) (Ix : Exit → List Ob → List (List AV) → Bool → Prop)
    (tr2 : List (List AV)) (go2 : Bool) (D2 B2 : Nat → Prop) (W : World) : Prop :=
  ∃ ob tr go ρ Bc, Susp E df l t0 fr0 pp base ob tr go ρ Bc D2 B2 W ∧ (go2 = true → W.heap[l]? = some (.loop (rec .ready none)) ∧ I tr2 ob tr go) ∧
    (go2 = false → ∃ e c, codeOf e = some c ∧ W.heap[l]? = some (.loop (rec .done (some c))) ∧ Ix e ob tr go)

theorem AWp.rangeFunc {g : Operand} {ps : Array Tmp} {assign body : Code} {f : FuncId} {cap cap' : List AV} {xs : List (List AV)} {Q : Exit → AS → Prop} (hit : IterC P f cap' xs)
    (fr0 : List (Nat × AV)) (I : List (List AV) → List Ob → List (List AV) → Bool → Prop) (Ix : Exit → List Ob → List (List AV) → Bool → Prop)
    (hg : s.ev g = .fn (.func f) [] cap) (hc : callable P f = true) (hsub : SubL cap cap')
    (hps : ∀ x ∈ xs, x.length = ps.size) (hlt : ∀ p ∈ ps.toList, p < s.n) (hfr : keeps s.fr fr0) (hid : frIds (isBox s.ob) fr0 = true) (h0 : I [] s.ob s.tr s.go)
    (hround : ∀ pre x post ob tr go, xs = pre ++ x :: post → I pre ob tr go →
      AWp P assign { n := s.n, m := max s.m ob.length, fr := setps fr0 ps.toList x, ob := ob, df := [], yl := s.yl, tr := tr, go := go } (thenQ (fun s1 => AWp P body s1 (roundQ I Ix (pre ++ [x]))) fun _ _ => False))
    (hdone : ∀ ob tr go df, I xs ob tr go → Q .normal { s with fr := fr0, ob := ob, tr := tr, go := go, df := df })
    (hstop : ∀ e ob tr go df, Ix e ob tr go → Q e { s with fr := fr0, ob := ob, tr := tr, go := go, df := df }) : AWp P (.rangeFunc g ps assign body) s Q := by
  intro E hE ρ B a w hs Q' hQ
  have hfn := hs.ev g
  rw [hg] at hfn
  obtain ⟨gv, hv⟩ : ∃ v, a.eval g = v := ⟨_, rfl⟩
  rw [hv] at hfn
  obtain ⟨ds, rfl, hds⟩ : ∃ ds : List Value, gv = .func (.func f) #[] ds.toArray ∧ RelL w B E.bs ρ cap ds := by
    cases hfn with
    | fn r1 r2 => cases r1; exact ⟨_, rfl, r2⟩
  refine wpIn_rangeFunc ?_
  intro fn _
  obtain ⟨l, dd, dn, W1, hen, hl1, hsame, hll, hjj⟩ := enter_loop hE hs fn ps assign body
  have hbs : E.w0.heap.size ≤ W1.heap.size := Nat.le_trans hs.rw_.size hsame.size
  have hl0 : E.w0.heap.size ≤ l := Nat.le_trans hs.rw_.size hll
  obtain ⟨rec, hrec⟩ : ∃ rec : LoopState → Option Code → Loop, rec = recOf fn a.tmps ps assign body dd := ⟨_, rfl⟩
  have hs1 := hs.same hsame
  have hB1 : ∀ b, B b → W1.heap[b]? = w.heap[b]? := fun b hb => hsame.block b (hs.rw_.blt b hb)
  have hidp : frIds (fun k => ρ[k]?.any isPtr) fr0 = true := by
    have key : ∀ fr : List (Nat × AV), frIds (isBox s.ob) fr = true → frIds (fun k => ρ[k]?.any isPtr) fr = true := by
      have hp : ∀ k, isBox s.ob k = true → (ρ[k]?.any isPtr) = true := by
        intro k hk
        unfold isBox at hk
        split at hk <;> (try (simp at hk; done))
        rename_i T cs hk'
        obtain ⟨b, vs, fz, h1, _⟩ := hs.rw_.obs k _ hk'
        simp [h1, isPtr]
      have hx : ∀ x : AV, x.idsOk (isBox s.ob) = true → x.idsOk (fun k => ρ[k]?.any isPtr) = true := by
        intro x hx
        exact idsOk_mono hp x hx
      intro fr
      induction fr with
      | nil => intro _; rfl
      | cons p fr ih =>
        obtain ⟨t, x⟩ := p
        intro h
        simp only [frIds, Bool.and_eq_true] at h ⊢
        exact ⟨hx x h.1, ih h.2⟩
    exact key fr0 hid
  -- the suspended activation, at the loop's begin
  have hsu : Susp E (dn ++ s.df) l a.tmps fr0 ρ W1.heap.size s.ob s.tr s.go ρ B (fun _ => False) B W1 :=
    ⟨hs1.rw_, hjj, fun t x hm => hs1.rf t x (keeps_spec hfr hm), fun _ _ h _ => h, fun _ h => h, fun b h => h.elim, fun hB => by have := hs.rw_.blt _ hB; omega, fun hd => by have := (hs.rw_.bd.2 _ hd).1; omega, heapLt hl1, Nat.le_refl _⟩
  obtain ⟨E2, hE2⟩ : ∃ E2 : Env, E2 = ⟨W1, B, [], [], none, some (l, xs), J2 E (dn ++ s.df) l rec a.tmps fr0 ρ W1.heap.size I Ix⟩ := ⟨_, rfl⟩
  have hst2 : E2.Stab := by
    rw [hE2]
    rintro tr2 go2 D2 B2 W D2' B2' W' ⟨ob, tr, go, ρ', Bc, h1, h2, h3⟩ c b
    obtain ⟨k1, k2⟩ := h1.chg hbs c b
    refine ⟨ob, tr, go, ρ', _, k1, fun e => ?_, fun e => ?_⟩
    · obtain ⟨q1, q2⟩ := h2 e
      exact ⟨k2.trans q1, q2⟩
    · obtain ⟨e', c', q1, q2, q3⟩ := h3 e
      exact ⟨e', c', q1, k2.trans q2, q3⟩
  have hok2 : E2.Ok P := by
    rw [hE2]
    refine ⟨?_, fun l h => by simp at h⟩
    intro l' X hy tr2 x post vs D2 B2 W hX hj hrel hb1 hb2
    simp only [Option.some.injEq, Prod.mk.injEq] at hy
    obtain ⟨rfl, rfl⟩ := hy
    obtain ⟨ob, tr, go, ρ', Bc, hsu, h2, _⟩ := hj
    obtain ⟨hl, hI⟩ := h2 rfl
    have hxl : x.length = ps.size := hps x (by rw [hX]; simp)
    have hvl : vs.length = ps.size := by rw [← hrel.length_eq]; exact hxl
    have hy := run_yield (P := P) (args := vs.toArray) hl (by rw [hrec]; simpa [recOf] using hvl)
    refine ⟨fn, _, assign, body, (by rw [hrec] at hy; exact hy), roundIn_of_wpIn trivial ?_⟩
    have hfold : (ps.zip vs.toArray).foldl (fun tmps (p : Tmp × Value) => tmps.setIfInBounds p.1 p.2) a.tmps = ((ps.toList.zip vs).foldl (fun t (p : Tmp × Value) => t.setIfInBounds p.1 p.2) a.tmps) := by
      rw [← Array.foldl_toList]; simp
    have hrf : RF W Bc E.bs ρ' ((ps.zip vs.toArray).foldl (fun tmps (p : Tmp × Value) => tmps.setIfInBounds p.1 p.2) a.tmps) (setps fr0 ps.toList x) := by
      rw [hfold]
      refine setps_rf hsu.rf ((hrel.ids (ρ' := ρ') (p := fun _ => true) (fun k v _ h => by simp at h) ?_).mono hsu.b2 (fun _ _ => rfl) hbs (fun _ _ h => h)) (fun p hp => by rw [hs.n]; exact hlt p hp)
      rw [AV.idsOkL_iff]
      intro y _
      exact idsOk_true y
    have hsR := hsu.begin (m := max s.m ob.length) (n := s.n) (a1 := { tmps := (ps.zip vs.toArray).foldl (fun tmps (p : Tmp × Value) => tmps.setIfInBounds p.1 p.2) a.tmps, defers := [] }) hl (Nat.le_trans hs.m.1 (Nat.le_max_left _ _)) (Nat.le_max_right _ _)
      (by show Array.size _ = s.n; rw [hfold, fold_size, hs.n]) rfl hrf
    rw [hs.m.2.2] at hsR
    refine hround tr2 x post ob tr go hX hI _ (Env.inRound_ok hE) ρ' Bc _ W hsR _ ?_
    intro e s1 ρ1 B1 a1 w1 q hs1
    cases e with
    | normal =>
      have hj1 : J1 E (dn ++ s.df) l (rec .ready none) D2 Bc W s1.tr s1.go (fun b => Dof s1.ob ρ1 b ∨ b ∈ s1.df) B1 w1 := hs1.jj.j
      refine ⟨_, run_beginRound hj1.rec_ (by rw [hrec]; rfl), ?_⟩
      have hs2 := hs1.turn (rec' := { rec .ready none with state := .busy }) hl0
      refine q _ (Env.inRound_ok hE) ρ1 B1 a1 _ hs2 _ ?_
      intro e s3 ρ3 B3 a3 w3 q3 hs3
      have fin : ∀ (s4 : AS) (jump : Option Code), Le s3 s4 → ∃ ρ4 B4, (Instr.endRound l jump).run P w3 = .ok (.bool jump.isNone) (setBlk w3 l (.loop (rec (if jump.isNone then .ready else .done) jump))) ∧
          Susp E (dn ++ s.df) l a.tmps fr0 ρ W1.heap.size s4.ob s4.tr s4.go ρ4 B4 D2 B2 (setBlk w3 l (.loop (rec (if jump.isNone then .ready else .done) jump))) ∧
          Kept D2 B2 W (setBlk w3 l (.loop (rec (if jump.isNone then .ready else .done) jump))) ∧ (setBlk w3 l (.loop (rec (if jump.isNone then .ready else .done) jump))).heap[l]? = some (.loop (rec (if jump.isNone then .ready else .done) jump)) := by
        intro s4 jump hle
        obtain ⟨ρ4, B4, hs4⟩ := hle _ _ _ _ _ hs3
        have hj4 : J1 E (dn ++ s.df) l { rec .ready none with state := .busy } D2 Bc W s4.tr s4.go (fun b => Dof s4.ob ρ4 b ∨ b ∈ s4.df) B4 w3 := hs4.jj.j
        have hend := run_endRound (P := P) jump hj4.rec_
        obtain ⟨k1, k2, k3⟩ := hsu.end_ (rec' := rec (if jump.isNone then .ready else .done) jump) hl0 hidp hs4
        refine ⟨ρ4, B4, ?_, k1, k2, k3⟩
        rw [hend, hrec]; rfl
      cases e with
      | normal =>
        obtain ⟨s4, hle, hI4⟩ := q3
        obtain ⟨ρ4, B4, k0, k1, k2, k3⟩ := fin s4 none hle
        exact ⟨_, _, k0, true, rfl, k2, s4.ob, s4.tr, s4.go, ρ4, B4, k1, fun _ => ⟨k3, hI4⟩, fun h => by simp at h⟩
      | ret =>
        obtain ⟨s4, hle, hI4⟩ := q3
        obtain ⟨ρ4, B4, k0, k1, k2, k3⟩ := fin s4 (some .ret) hle
        exact ⟨_, _, k0, false, rfl, k2, s4.ob, s4.tr, s4.go, ρ4, B4, k1, fun h => by simp at h, fun _ => ⟨.ret, .ret, rfl, k3, hI4⟩⟩
      | exit id =>
        obtain ⟨s4, hle, hI4⟩ := q3
        obtain ⟨ρ4, B4, k0, k1, k2, k3⟩ := fin s4 (some (.exit id)) hle
        exact ⟨_, _, k0, false, rfl, k2, s4.ob, s4.tr, s4.go, ρ4, B4, k1, fun h => by simp at h, fun _ => ⟨.exit id, .exit id, rfl, k3, hI4⟩⟩
      | goto t => exact q3.elim
      | panic ch => exact q3.elim
      | outgrown => exact q3.elim
    | _ => exact q.elim
  have hrw2 : RW E2 [] [] E2.B0 E2.w0 := by
    rw [hE2]
    exact { os := rfl, tape := rfl, output := rfl, size := Nat.le_refl _, block := fun _ _ _ => rfl, pre := fun k v h => by simp at h, bsub := fun _ h => h, bnew := fun _ h => .inl h,
            blt := fun b hb => Nat.lt_of_lt_of_le (hs.rw_.blt b hb) hsame.size, len := rfl, obs := fun k o h => by simp at h, dis := fun i j o o' u v b _ h => by simp at h, prv := fun k o v b h => by simp at h }
  have hj2 : E2.J [] true (fun _ => False) E2.B0 E2.w0 := by
    rw [hE2]
    exact ⟨s.ob, s.tr, s.go, ρ, B, hsu, fun _ => ⟨by rw [hrec]; exact hl1, h0⟩, fun h => by simp at h⟩
  have hcalls := hit E2 hok2 hst2 (by rw [hE2]) (by rw [hE2]) (by rw [hE2]) l (by rw [hE2]) ds hrw2 hj2 (by
    rw [hE2]
    exact hsub.rel (hds.mono (fun _ h => h) hB1 (Nat.le_refl _) (fun _ _ h => h)))
  rw [hE2] at hcalls
  refine ⟨l, dn.map mark, W1, { target := .fn (.func f) ds.toArray, args := #[.func (.yield l) #[] #[]] }, W1, f, #[.func (.yield l) #[] #[]] ++ ds.toArray, W1, hen, ?_, fun _ _ => trivial, ?_, fun h => by simp [Fence.wide] at h, calls_FR.2 ?_⟩
  · simp only [resolve, hv]
    simp [go_sem]
  · have := callFunc_run hc (#[.func (.yield l) #[] #[]] ++ ds.toArray) W1
    simpa [invoke] using this
  have hargs : (#[.func (.yield l) #[] #[]] ++ ds.toArray : Array Value) = (.func (.yield l) #[] #[] :: ds).toArray := by simp
  rw [hargs]
  refine hcalls.mono ?_
  rintro e w2 ⟨⟨v, rfl⟩, B', tr2, go2, hw2, ⟨ob, tr, go, ρ', Bc, hsu2, h2, h3⟩, hfin⟩
  -- behind the iterator
  have out : ∀ rec' : Loop, RS E { s with fr := fr0, ob := ob, tr := tr, go := go, df := dn ++ s.df } ρ' Bc { a with defers := dn.map mark ++ a.defers } (setBlk w2 l (.loop rec')) := by
    intro rec'
    have hne : ∀ b, b ≠ l → (setBlk w2 l (.loop rec')).heap[b]? = w2.heap[b]? := fun b hb => by rw [setBlk_get _ _ _ _ hsu2.ll, if_neg hb]
    have hsz : (setBlk w2 l (.loop rec')).heap.size = w2.heap.size := by simp [setBlk]
    have hrw := hsu2.rw_.tidy (o := .loop rec') hl0 hsu2.ll hsu2.lB hsu2.lD
    refine ⟨hrw, hs.m, hs.n, by simp [hs.df], ?_, fun t x hm => ⟨(hsu2.rf t x hm).1, (hsu2.rf t x hm).2.mono (fun _ h => h) (fun b hb => hne b (by rintro rfl; exact hsu2.lB hb)) (Nat.le_refl _) (fun _ _ h => h)⟩⟩
    exact hsu2.jj.chg ⟨rfl, rfl, rfl, by rw [hsz]; exact Nat.le_refl _, fun b _ hb => hne b (fun e => hb (.inr (.inl e))), fun b h => .inl (.inl h), fun _ h => h, fun _ h => .inl h⟩ hrw.bd
  cases go2 with
  | true =>
    obtain ⟨hl, hI⟩ := h2 rfl
    have hx : tr2 = xs := hfin.1 rfl
    subst hx
    refine ⟨none, setBlk w2 l (.loop { rec .ready none with state := .exhausted }), ?_, ?_⟩
    · have := run_endLoop (P := P) hl (by rw [hrec]; simp [recOf])
      rw [hrec] at this ⊢
      exact this
    · exact hQ .normal _ ρ' Bc _ _ (hdone ob tr go _ hI) (out _)
  | false =>
    obtain ⟨e', c', hec, hl, hIx⟩ := h3 rfl
    refine ⟨some c', setBlk w2 l (.loop { rec .done (some c') with state := .exhausted }), ?_, ?_⟩
    · have := run_endLoop (P := P) hl (by rw [hrec]; simp [recOf])
      rw [hrec] at this ⊢
      exact this
    · cases e' with
      | ret =>
        simp only [codeOf, Option.some.injEq] at hec
        subst hec
        exact wpIn_ret (hQ .ret _ ρ' Bc _ _ (hstop .ret ob tr go _ hIx) (out _))
      | exit id =>
        simp only [codeOf, Option.some.injEq] at hec
        subst hec
        exact wpIn_exit (hQ (.exit id) _ ρ' Bc _ _ (hstop (.exit id) ob tr go _ hIx) (out _))
      | _ => simp [codeOf] at hec
end
end Go.Abs
