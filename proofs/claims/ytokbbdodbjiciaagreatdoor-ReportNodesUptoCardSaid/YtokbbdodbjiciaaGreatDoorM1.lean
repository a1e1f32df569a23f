/- The rule for a loop over a function. No condition. -/
import Derived.Test.YtokbbdodbjiciaaGreatDoorM0
import Derived.Laws.BytesString
import Derived.Lib.ConvBytes
import Derived.Test.YtokbbdodbjiciaaGreatDoorProg
import Derived.KernelRfl
namespace Go.Abs
set_option linter.unusedVariables false
set_option linter.unusedSectionVars false
set_option linter.unusedSimpArgs false
set_option linter.unnecessarySimpa false
section
variable {P : Program} {ops : Array Oper} {E : Env} {s s' : AS} {ρ : List Value} {B : Nat → Prop} {a : Act} {w w' : World} {o : Oper} {rest : List Oper}
def recOf (fn : FuncId) (t0 : Array Value) (ps : Array Tmp) (assign body : Code) (dd : Nat) (st : LoopState) (pe : Option Code) : Loop :=
  { state := st, pending := pe, fn := fn, tmps := t0, params := ps, assign := assign, body := body, defers := dd }
theorem JJ.congr {tr : List (List AV)} {go : Bool} {df : List Nat} {D D' : Nat → Prop} (h : JJ E tr go df D B w) (hd : ∀ b, D b ↔ D' b) : JJ E tr go df D' B w := by
  have : D = D' := funext fun b => propext (hd b)
  subst this; exact h
theorem enter_loop (hE : E.Ok P) (hs : RS E s ρ B a w) (fn : FuncId) (ps : Array Tmp) (assign body : Code) :
    ∃ (l dd : Nat) (dn : List Nat) (W1 : World), (Instr.enterLoop fn a.tmps ps assign body E.rnd).run P w = .ok (l, dn.map mark) W1 ∧ W1.heap[l]? = some (.loop (recOf fn a.tmps ps assign body dd .ready none)) ∧
      Same w W1 ∧ w.heap.size ≤ l ∧ JJ E s.tr s.go (dn ++ s.df) (fun b => Dof s.ob ρ b ∨ b = l ∨ False) B W1 := by
  have hDlt := fun b hb => (hs.rw_.bd.2 b hb).1
  have hbs : E.w0.heap.size ≤ w.heap.size := hs.rw_.size
  cases hr : E.rnd with
  | none =>
    have hsame : Same w ((w.alloc (.deferred (some []))).alloc (.loop (recOf fn a.tmps ps assign body w.heap.size .ready none))) := by
      have h1 := same_alloc w (.deferred (some []))
      have h2 := same_alloc (w.alloc (.deferred (some []))) (.loop (recOf fn a.tmps ps assign body w.heap.size .ready none))
      exact ⟨h2.os.trans h1.os, h2.tape.trans h1.tape, h2.output.trans h1.output, Nat.le_trans h1.size h2.size, fun k hk => (h2.block k (Nat.lt_of_lt_of_le hk h1.size)).trans (h1.block k hk)⟩
    have hl : ((w.alloc (.deferred (some []))).alloc (.loop (recOf fn a.tmps ps assign body w.heap.size .ready none))).heap[w.heap.size + 1]? = some (.loop (recOf fn a.tmps ps assign body w.heap.size .ready none)) := by
      have := alloc_get (w.alloc (.deferred (some []))) (.loop (recOf fn a.tmps ps assign body w.heap.size .ready none))
      simpa using this
    have hd : ((w.alloc (.deferred (some []))).alloc (.loop (recOf fn a.tmps ps assign body w.heap.size .ready none))).heap[w.heap.size]? = some (.deferred (some [])) :=
      ((same_alloc (w.alloc (.deferred (some []))) _).block w.heap.size (by simp)).trans (alloc_get w _)
    refine ⟨w.heap.size + 1, w.heap.size, [w.heap.size], _, run_enterLoop_outer _ _ _ _ _, hl, hsame, by omega, ?_⟩
    have hj := hs.jj
    refine ⟨hj.stab _ _ _ _ _ _ _ _ hj.j ⟨hsame.os, hsame.tape, hsame.output, hsame.size, fun b h1 _ => hsame.block b h1, ?_, fun _ h => h, fun _ h => .inl h⟩ ⟨fun b hb => Nat.lt_of_lt_of_le (hs.rw_.blt b hb) hsame.size, ?_⟩, hj.stab, ?_, ?_⟩
    · rintro b ((h | rfl | h) | h)
      · exact .inl (.inl h)
      · exact .inr (by omega)
      · exact h.elim
      · simp only [List.cons_append, List.nil_append, List.mem_cons] at h
        rcases h with rfl | h
        · exact .inr (Nat.le_refl _)
        · exact .inl (.inr h)
    · rintro b ((h | rfl | h) | h)
      · exact ⟨Nat.lt_of_lt_of_le (hDlt b h) hsame.size, (hs.rw_.bd.2 b h).2⟩
      · exact ⟨heapLt hl, fun hB => by have := hs.rw_.blt _ hB; omega⟩
      · exact h.elim
      · simp only [List.cons_append, List.nil_append, List.mem_cons] at h
        rcases h with rfl | h
        · exact ⟨heapLt hd, fun hB => by have := hs.rw_.blt _ hB; omega⟩
        · exact ⟨Nat.lt_of_lt_of_le (hs.bdj.2 b (.inr h)).1 hsame.size, (hs.bdj.2 b (.inr h)).2⟩
    · simp only [List.cons_append, List.nil_append, List.nodup_cons]
      exact ⟨fun h => by have := heapLt (hj.mks _ h).1; omega, hj.nodup⟩
    · intro b hb
      simp only [List.cons_append, List.nil_append, List.mem_cons] at hb
      rcases hb with rfl | hb
      · refine ⟨hd, ?_, fun hB => by have := hs.rw_.blt _ hB; omega, hbs⟩
        rintro (h | h | h)
        · have := hDlt _ h; omega
        · omega
        · exact h
      · obtain ⟨h1, h2, h3, h4⟩ := hj.mks b hb
        have hlt := heapLt h1
        refine ⟨(hsame.block b hlt).trans h1, ?_, h3, h4⟩
        rintro (h | h | h)
        · exact h2 h
        · omega
        · exact h
  | some l0 =>
    obtain ⟨r0, hr0⟩ := hE.rnd l0 hr _ _ _ _ _ hs.jj.j
    have hsame := same_alloc w (.loop (recOf fn a.tmps ps assign body r0.defers .ready none))
    have hl := alloc_get w (.loop (recOf fn a.tmps ps assign body r0.defers .ready none))
    refine ⟨w.heap.size, r0.defers, [], _, run_enterLoop_inner hr0 _ _ _ _ _, hl, hsame, Nat.le_refl _, ?_⟩
    have hj := hs.jj
    refine ⟨hj.stab _ _ _ _ _ _ _ _ hj.j ⟨hsame.os, hsame.tape, hsame.output, hsame.size, fun b h1 _ => hsame.block b h1, ?_, fun _ h => h, fun _ h => .inl h⟩ ⟨fun b hb => Nat.lt_of_lt_of_le (hs.rw_.blt b hb) hsame.size, ?_⟩, hj.stab, hj.nodup, ?_⟩
    · rintro b ((h | rfl | h) | h)
      · exact .inl (.inl h)
      · exact .inr (Nat.le_refl _)
      · exact h.elim
      · exact .inl (.inr h)
    · rintro b ((h | rfl | h) | h)
      · exact ⟨Nat.lt_of_lt_of_le (hDlt b h) hsame.size, (hs.rw_.bd.2 b h).2⟩
      · exact ⟨heapLt hl, fun hB => by have := hs.rw_.blt _ hB; omega⟩
      · exact h.elim
      · exact ⟨Nat.lt_of_lt_of_le (hs.bdj.2 b (.inr h)).1 hsame.size, (hs.bdj.2 b (.inr h)).2⟩
    · intro b hb
      obtain ⟨h1, h2, h3, h4⟩ := hj.mks b hb
      have hlt := heapLt h1
      refine ⟨(hsame.block b hlt).trans h1, ?_, h3, h4⟩
      rintro (h | h | h)
      · exact h2 h
      · omega
      · exact h
theorem RS.turn {pp : List Value} {df : List Nat} {l : Nat} {rec rec' : Loop} {D2 B2 : Nat → Prop} {W : World} (h : RS (E.inRound pp df l rec D2 B2 W) s ρ B a w) (hl : E.w0.heap.size ≤ l) :
    RS (E.inRound pp df l rec' D2 B2 W) s ρ B a (setBlk w l (.loop rec')) := by
  have hj : J1 E df l rec D2 B2 W s.tr s.go (fun b => Dof s.ob ρ b ∨ b ∈ s.df) B w := h.jj.j
  have hlt := heapLt hj.rec_
  have hne : ∀ b, b ≠ l → (setBlk w l (.loop rec')).heap[b]? = w.heap[b]? := fun b hb => by rw [setBlk_get _ _ _ _ hlt, if_neg hb]
  have hlD : ¬ Dof s.ob ρ l := fun hd => hj.lD (.inl hd)
  have hB : ∀ b, B b → (setBlk w l (.loop rec')).heap[b]? = w.heap[b]? := fun b hb => hne b (by rintro rfl; exact hj.lB hb)
  have hrw := h.rw_.tidy (o := .loop rec') hl hlt hj.lB hlD
  have hsz : (setBlk w l (.loop rec')).heap.size = w.heap.size := by simp [setBlk]
  have hjj : JJ E s.tr s.go df (fun b => (Dof s.ob ρ b ∨ b ∈ s.df) ∨ b = l ∨ D2 b) B (setBlk w l (.loop rec')) := by
    refine hj.jj.chg ⟨rfl, rfl, rfl, by rw [hsz]; exact Nat.le_refl _, fun b _ hb => hne b (fun e => hb (.inr (.inl e))), fun _ h => .inl h, fun _ h => h, fun _ h => .inl h⟩ ⟨fun b hb => by rw [hsz]; exact h.rw_.blt b hb, ?_⟩
    rintro b (hb | rfl | hb)
    · rw [hsz]; exact h.bdj.2 b hb
    · exact ⟨by rw [hsz]; exact hlt, hj.lB⟩
    · obtain ⟨k1, k2, k3, k4⟩ := hj.d2 b hb
      exact ⟨by rw [hsz]; exact Nat.lt_of_lt_of_le k1 hj.size, k4⟩
  refine ⟨{ ep := hrw.ep, os := hrw.os, tape := hrw.tape, output := hrw.output, size := hrw.size, block := hrw.block, pre := hrw.pre, bsub := hrw.bsub, bnew := hrw.bnew, blt := hrw.blt, len := hrw.len, obs := hrw.obs, dis := hrw.dis, prv := hrw.prv },
    h.m, h.n, h.df, ⟨?_, Env.inRound_stab, h.jj.nodup, ?_⟩, fun t x hm => ⟨(h.rf t x hm).1, (h.rf t x hm).2.mono (fun _ h => h) hB (Nat.le_refl _) (fun _ _ h => h)⟩⟩
  · show J1 E df l rec' D2 B2 W s.tr s.go (fun b => Dof s.ob ρ b ∨ b ∈ s.df) B (setBlk w l (.loop rec'))
    refine ⟨hjj, by rw [setBlk_get _ _ _ _ hlt, if_pos rfl], hj.lD, hj.lB, hj.l2, ?_, ?_, hj.os, hj.tape, hj.output, by rw [hsz]; exact hj.size, ⟨fun b hb => by rw [hsz]; exact hj.bd.1 b hb, fun b hb => by rw [hsz]; exact hj.bd.2 b hb⟩⟩
    · intro b hb
      obtain ⟨k1, k2, k3⟩ := hj.d2 b hb
      exact ⟨k1, (hne b (by rintro rfl; exact hj.l2 hb)).trans k2, k3⟩
    · intro b hb
      obtain ⟨k1, k2, k3, k4⟩ := hj.b2 b hb
      exact ⟨k1, (hB b k4).trans k2, k3, k4⟩
  · intro b hb
    obtain ⟨h1, h2, h3, h4⟩ := h.jj.mks b hb
    exact ⟨(hne b (by rintro rfl; exact hj.lD (.inr hb))).trans h1, h2, h3, h4⟩
theorem Susp.begin {df : List Nat} {l : Nat} {t0 : Array Value} {fr0 : List (Nat × AV)} {pp : List Value} {base : Nat} {ob : List Ob} {tr : List (List AV)} {go : Bool} {Bc D2 B2 : Nat → Prop} {W : World} {rec : Loop} {fr : List (Nat × AV)} {a1 : Act} {n m : Nat}
    (h : Susp E df l t0 fr0 pp base ob tr go ρ Bc D2 B2 W) (hl : W.heap[l]? = some (.loop rec)) (hm : E.ρ0.length ≤ m) (hob : ob.length ≤ m) (hn : a1.tmps.size = n) (hd : a1.defers = []) (hf : RF W Bc E.bs ρ a1.tmps fr) :
    RS (E.inRound ρ df l rec D2 Bc W) { n := n, m := m, fr := fr, ob := ob, df := [], yl := E.yl, tr := tr, go := go } ρ Bc a1 W := by
  have r := h.rw_
  have hjj : JJ E tr go df (fun b => (Dof ob ρ b ∨ b ∈ ([] : List Nat)) ∨ b = l ∨ D2 b) Bc W := h.jj.congr fun b => by simp
  have hrw : RW (E.inRound ρ df l rec D2 Bc W) ob ρ Bc W :=
    { ep := r.ep, os := r.os, tape := r.tape, output := r.output, size := r.size, block := r.block, pre := fun k v h1 h2 => h1.elim (fun h1 => r.pre k v (.inl h1) h2) fun h1 => h1, bsub := r.bsub, bnew := r.bnew, blt := r.blt, len := r.len, obs := r.obs, dis := r.dis, prv := r.prv }
  refine ⟨hrw, ⟨hm, by show ρ.length ≤ m; rw [r.len]; exact hob, rfl⟩, hn, hd, ⟨?_, Env.inRound_stab, List.nodup_nil, by simp⟩, hf⟩
  show J1 E df l rec D2 Bc W tr go (fun b => Dof ob ρ b ∨ b ∈ ([] : List Nat)) Bc W
  refine ⟨hjj, hl, ?_, h.lB, fun hd => (h.d2 l hd).2.2.1 rfl, ?_, ?_, rfl, rfl, rfl, Nat.le_refl _, ⟨r.blt, ?_⟩⟩
  · rintro (h1 | h1)
    · exact h.lD h1
    · simp at h1
  · intro b hb
    obtain ⟨k1, k2, k3, k4, k5⟩ := h.d2 b hb
    exact ⟨k4, rfl, by rintro (h1 | h1); exact k2 h1; simp at h1, k1⟩
  · intro b hb
    refine ⟨r.blt b hb, rfl, ?_, hb⟩
    rintro (h1 | h1)
    · exact (r.bd.2 b h1).2 hb
    · simp at h1
  · rintro b (h1 | h1)
    · exact r.bd.2 b h1
    · simp at h1
theorem Susp.end_ {df : List Nat} {l : Nat} {t0 : Array Value} {fr0 : List (Nat × AV)} {pp : List Value} {base : Nat} {ob : List Ob} {tr : List (List AV)} {go : Bool} {ρ2 : List Value} {Bc B3 D2 B2 : Nat → Prop} {W : World} {rec rec' : Loop}
    (h : Susp E df l t0 fr0 pp base ob tr go ρ Bc D2 B2 W) (hl0 : E.w0.heap.size ≤ l) (hid : frIds (fun k => pp[k]?.any isPtr) fr0 = true) (hs : RS (E.inRound ρ df l rec D2 Bc W) s ρ2 B3 a w) :
    Susp E df l t0 fr0 pp base s.ob s.tr s.go ρ2 B3 D2 B2 (setBlk w l (.loop rec')) ∧ Kept D2 B2 W (setBlk w l (.loop rec')) ∧ (setBlk w l (.loop rec')).heap[l]? = some (.loop rec') := by
  have hj : J1 E df l rec D2 Bc W s.tr s.go (fun b => Dof s.ob ρ2 b ∨ b ∈ s.df) B3 w := hs.jj.j
  have hlt := heapLt hj.rec_
  have hne : ∀ b, b ≠ l → (setBlk w l (.loop rec')).heap[b]? = w.heap[b]? := fun b hb => by rw [setBlk_get _ _ _ _ hlt, if_neg hb]
  have hlD : ¬ Dof s.ob ρ2 l := fun hd => hj.lD (.inl hd)
  have hsz : (setBlk w l (.loop rec')).heap.size = w.heap.size := by simp [setBlk]
  have hptr : ∀ (k : Nat) (v : Value), pp[k]? = some v → isPtr v = true → ρ2[k]? = some v := fun k v h1 h2 => hs.rw_.pre k v (.inr (h.ptr k v h1 h2)) h2
  have hrw1 := hs.rw_.tidy (o := .loop rec') hl0 hlt hj.lB hlD
  have hrw : RW E s.ob ρ2 B3 (setBlk w l (.loop rec')) :=
    { ep := hrw1.ep, os := hrw1.os, tape := hrw1.tape, output := hrw1.output, size := hrw1.size, block := hrw1.block, pre := fun k v h1 h2 => hs.rw_.pre k v (.inr (h.rw_.pre k v h1 h2)) h2, bsub := hrw1.bsub, bnew := hrw1.bnew, blt := hrw1.blt, len := hrw1.len, obs := hrw1.obs, dis := hrw1.dis, prv := hrw1.prv }
  have hBW : ∀ b, Bc b → (setBlk w l (.loop rec')).heap[b]? = W.heap[b]? := fun b hb => by
    obtain ⟨k1, k2, k3, k4⟩ := hj.b2 b hb
    exact (hne b (by rintro rfl; exact hj.lB k4)).trans k2
  have hDW : ∀ b, D2 b → (setBlk w l (.loop rec')).heap[b]? = W.heap[b]? := fun b hb => (hne b (by rintro rfl; exact hj.l2 hb)).trans (hj.d2 b hb).2.1
  refine ⟨⟨hrw, ?_, ?_, hptr, fun b hb => (hj.b2 b (h.b2 b hb)).2.2.2, ?_, hj.lB, hlD, by rw [hsz]; exact hlt, by rw [hsz]; exact Nat.le_trans h.lb hj.size⟩, ⟨hj.os, hj.tape, hj.output, by rw [hsz]; exact hj.size, fun b hb => hb.elim (fun hb => hBW b (h.b2 b hb)) (hDW b)⟩, by rw [setBlk_get _ _ _ _ hlt, if_pos rfl]⟩
  · refine hj.jj.chg ⟨rfl, rfl, rfl, by rw [hsz]; exact Nat.le_refl _, fun b _ hb => hne b (fun e => hb (.inr (.inl e))), ?_, fun _ h => h, fun _ h => .inl h⟩ ⟨hrw.blt, ?_⟩
    · rintro b (h1 | h1 | h1)
      · exact .inl (.inl (.inl h1))
      · exact .inl (.inr (.inl h1))
      · exact .inl (.inr (.inr h1))
    · rintro b (h1 | rfl | h1)
      · exact hrw.bd.2 b h1
      · exact ⟨by rw [hsz]; exact hlt, hj.lB⟩
      · exact ⟨by rw [hsz]; exact Nat.lt_of_lt_of_le (hj.d2 b h1).1 hj.size, (hj.d2 b h1).2.2.2⟩
  · intro t x hm
    obtain ⟨h1, h2⟩ := h.rf t x hm
    refine ⟨h1, ?_⟩
    have h3 := h2.ids (ρ' := ρ2) (p := fun k => pp[k]?.any isPtr) (by
      intro k v hp hk
      cases hpk : pp[k]? with
      | none => simp [hpk] at hp
      | some u =>
        simp only [hpk, Option.any_some] at hp
        have := h.ptr k u hpk hp
        rw [hk] at this
        have e := Option.some.inj this
        subst e
        exact hptr k v hpk hp) (frIds_mem hid hm)
    exact h3.mono (fun b hb => (hj.b2 b hb).2.2.2) hBW (Nat.le_refl _) (fun _ _ h => h)
  · intro b hb
    obtain ⟨k1, k2, k3, k4⟩ := hj.d2 b hb
    exact ⟨k4, fun hd => k3 (.inl hd), by rintro rfl; exact hj.l2 hb, by rw [hsz]; exact Nat.lt_of_lt_of_le k1 hj.size, (h.d2 b hb).2.2.2.2⟩
end
set_option linter.unusedVariables false
set_option linter.unusedSectionVars false
set_option linter.unusedSimpArgs false
set_option linter.unnecessarySimpa false
section
variable {P : Program} {ops : Array Oper} {E : Env} {s s' : AS} {ρ : List Value} {B : Nat → Prop} {a : Act} {w w' : World} {o : Oper} {rest : List Oper}
theorem fold_size : ∀ (l : List (Tmp × Value)) (t : Array Value), (l.foldl (fun t (p : Tmp × Value) => t.setIfInBounds p.1 p.2) t).size = t.size
  | [], t => rfl
  | p :: l, t => by simp only [List.foldl_cons]; rw [fold_size l]; simp
theorem setps_rf {bs : Nat} : ∀ {ps : List Nat} {x : List AV} {vs : List Value} {fr : List (Nat × AV)} {t : Array Value}, RF w B bs ρ t fr → RelL w B bs ρ x vs → (∀ p ∈ ps, p < t.size) →
    RF w B bs ρ ((ps.zip vs).foldl (fun t (p : Tmp × Value) => t.setIfInBounds p.1 p.2) t) (setps fr ps x)
  | [], x, vs, fr, t, h, _, _ => by cases x <;> simpa [setps] using h
  | p :: ps, [], _, fr, t, h, .nil, _ => by simpa [setps] using h
  | p :: ps, x :: xs, _, fr, t, h, .cons (v := v) h1 h2, hp => by
    simp only [setps, List.zip_cons_cons, List.foldl_cons]
    have h3 := h.put (t := p) h1
    rw [if_pos (hp p (by simp))] at h3
    exact setps_rf h3 h2 (fun q hq => by rw [Array.size_setIfInBounds]; exact hp q (by simp [hq]))
def J2 (E : Env) (df : List Nat) (l : Nat) (rec : LoopState → Option Code → Loop) (t0 : Array Value) (fr0 : List (Nat × AV)) (pp : List Value) (base : Nat) (I : List (List AV) → List Ob → List (List AV) → Bool → Prop) (Ix : Exit → List Ob → List (List AV) → Bool → Prop)
    (tr2 : List (List AV)) (go2 : Bool) (D2 B2 : Nat → Prop) (W : World) : Prop :=
  ∃ ob tr go ρ Bc, Susp E df l t0 fr0 pp base ob tr go ρ Bc D2 B2 W ∧ (go2 = true → W.heap[l]? = some (.loop (rec .ready none)) ∧ I tr2 ob tr go) ∧
    (go2 = false → ∃ e c, codeOf e = some c ∧ W.heap[l]? = some (.loop (rec .done (some c))) ∧ Ix e ob tr go)
theorem AWp.rangeFunc {g : Operand} {ps : Array Tmp} {assign body : Code} {f : FuncId} {cap cap' : List AV} {xs : List (List AV)} {Q : Exit → AS → Prop} (hit : IterC P f cap' xs)
    (fr0 : List (Nat × AV)) (I : List (List AV) → List Ob → List (List AV) → Bool → Prop) (Ix : Exit → List Ob → List (List AV) → Bool → Prop)
    (hg : s.ev g = .fn (.func f) [] cap) (hc : callable P f = true) (hsub : SubL cap cap')
    (hps : ∀ x ∈ xs, x.length = ps.size) (hlt : ∀ p ∈ ps.toList, p < s.n) (hfr : keeps s.fr fr0) (hid : frIds (isBox s.ob) fr0 = true) (h0 : I [] s.ob s.tr s.go)
    (hround : ∀ pre x post ob tr go, xs = pre ++ x :: post → I pre ob tr go →
      AWp P assign { n := s.n, m := max s.m ob.length, fr := setps fr0 ps.toList x, ob := ob, df := [], yl := s.yl, tr := tr, go := go } (thenQ (fun s1 => AWp P body s1 (roundQ I Ix (pre ++ [x]))) fun _ _ => False))
    (hdone : ∀ ob tr go df, I xs ob tr go → Q .normal { s with fr := fr0, ob := ob, tr := tr, go := go, df := df })
    (hstop : ∀ e ob tr go df, Ix e ob tr go → Q e { s with fr := fr0, ob := ob, tr := tr, go := go, df := df }) : AWp P (.rangeFunc g ps assign body) s Q := by
  intro E hE ρ B a w hs Q' hQ
  have hfn := hs.ev g
  rw [hg] at hfn
  obtain ⟨gv, hv⟩ : ∃ v, a.eval g = v := ⟨_, rfl⟩
  rw [hv] at hfn
  obtain ⟨ds, rfl, hds⟩ : ∃ ds : List Value, gv = .func (.func f) #[] ds.toArray ∧ RelL w B E.bs ρ cap ds := by
    cases hfn with
    | fn r1 r2 => cases r1; exact ⟨_, rfl, r2⟩
  refine wpIn_rangeFunc ?_
  intro fn _
  obtain ⟨l, dd, dn, W1, hen, hl1, hsame, hll, hjj⟩ := enter_loop hE hs fn ps assign body
  have hbs : E.w0.heap.size ≤ W1.heap.size := Nat.le_trans hs.rw_.size hsame.size
  have hl0 : E.w0.heap.size ≤ l := Nat.le_trans hs.rw_.size hll
  obtain ⟨rec, hrec⟩ : ∃ rec : LoopState → Option Code → Loop, rec = recOf fn a.tmps ps assign body dd := ⟨_, rfl⟩
  have hs1 := hs.same hsame
  have hB1 : ∀ b, B b → W1.heap[b]? = w.heap[b]? := fun b hb => hsame.block b (hs.rw_.blt b hb)
  have hidp : frIds (fun k => ρ[k]?.any isPtr) fr0 = true := by
    have key : ∀ fr : List (Nat × AV), frIds (isBox s.ob) fr = true → frIds (fun k => ρ[k]?.any isPtr) fr = true := by
      have hp : ∀ k, isBox s.ob k = true → (ρ[k]?.any isPtr) = true := by
        intro k hk
        unfold isBox at hk
        split at hk <;> (try (simp at hk; done))
        rename_i T cs hk'
        obtain ⟨b, vs, fz, h1, _⟩ := hs.rw_.obs k _ hk'
        simp [h1, isPtr]
      have hx : ∀ x : AV, x.idsOk (isBox s.ob) = true → x.idsOk (fun k => ρ[k]?.any isPtr) = true := by
        intro x hx
        exact idsOk_mono hp x hx
      intro fr
      induction fr with
      | nil => intro _; rfl
      | cons p fr ih =>
        obtain ⟨t, x⟩ := p
        intro h
        simp only [frIds, Bool.and_eq_true] at h ⊢
        exact ⟨hx x h.1, ih h.2⟩
    exact key fr0 hid
  -- the suspended activation, at the loop's begin
  have hsu : Susp E (dn ++ s.df) l a.tmps fr0 ρ W1.heap.size s.ob s.tr s.go ρ B (fun _ => False) B W1 :=
    ⟨hs1.rw_, hjj, fun t x hm => hs1.rf t x (keeps_spec hfr hm), fun _ _ h _ => h, fun _ h => h, fun b h => h.elim, fun hB => by have := hs.rw_.blt _ hB; omega, fun hd => by have := (hs.rw_.bd.2 _ hd).1; omega, heapLt hl1, Nat.le_refl _⟩
  obtain ⟨E2, hE2⟩ : ∃ E2 : Env, E2 = ⟨E.bs, W1, B, [], [], none, some (l, xs), J2 E (dn ++ s.df) l rec a.tmps fr0 ρ W1.heap.size I Ix⟩ := ⟨_, rfl⟩
  have hst2 : E2.Stab := by
    rw [hE2]
    rintro tr2 go2 D2 B2 W D2' B2' W' ⟨ob, tr, go, ρ', Bc, h1, h2, h3⟩ c b
    obtain ⟨k1, k2⟩ := h1.chg hbs c b
    refine ⟨ob, tr, go, ρ', _, k1, fun e => ?_, fun e => ?_⟩
    · obtain ⟨q1, q2⟩ := h2 e
      exact ⟨k2.trans q1, q2⟩
    · obtain ⟨e', c', q1, q2, q3⟩ := h3 e
      exact ⟨e', c', q1, k2.trans q2, q3⟩
  have hok2 : E2.Ok P := by
    rw [hE2]
    refine ⟨hE.glb.call hs1.rw_ (fun _ h => h) (by intro v hv; simp at hv), ?_, fun l h => by simp at h⟩
    intro l' X hy tr2 x post vs D2 B2 W hX hj hrel hb1 hb2
    simp only [Option.some.injEq, Prod.mk.injEq] at hy
    obtain ⟨rfl, rfl⟩ := hy
    obtain ⟨ob, tr, go, ρ', Bc, hsu, h2, _⟩ := hj
    obtain ⟨hl, hI⟩ := h2 rfl
    have hxl : x.length = ps.size := hps x (by rw [hX]; simp)
    have hvl : vs.length = ps.size := by rw [← hrel.length_eq]; exact hxl
    have hy := run_yield (P := P) (args := vs.toArray) hl (by rw [hrec]; simpa [recOf] using hvl)
    refine ⟨fn, _, assign, body, (by rw [hrec] at hy; exact hy), roundIn_of_wpIn trivial ?_⟩
    have hfold : (ps.zip vs.toArray).foldl (fun tmps (p : Tmp × Value) => tmps.setIfInBounds p.1 p.2) a.tmps = ((ps.toList.zip vs).foldl (fun t (p : Tmp × Value) => t.setIfInBounds p.1 p.2) a.tmps) := by
      rw [← Array.foldl_toList]; simp
    have hrf : RF W Bc E.bs ρ' ((ps.zip vs.toArray).foldl (fun tmps (p : Tmp × Value) => tmps.setIfInBounds p.1 p.2) a.tmps) (setps fr0 ps.toList x) := by
      rw [hfold]
      refine setps_rf hsu.rf ((hrel.ids (ρ' := ρ') (p := fun _ => true) (fun k v _ h => by simp at h) ?_).mono hsu.b2 (fun _ _ => rfl) (Nat.le_refl _) (fun _ _ h => h)) (fun p hp => by rw [hs.n]; exact hlt p hp)
      rw [AV.idsOkL_iff]
      intro y _
      exact idsOk_true y
    have hsR := hsu.begin (m := max s.m ob.length) (n := s.n) (a1 := { tmps := (ps.zip vs.toArray).foldl (fun tmps (p : Tmp × Value) => tmps.setIfInBounds p.1 p.2) a.tmps, defers := [] }) hl (Nat.le_trans hs.m.1 (Nat.le_max_left _ _)) (Nat.le_max_right _ _)
      (by show Array.size _ = s.n; rw [hfold, fold_size, hs.n]) rfl hrf
    rw [hs.m.2.2] at hsR
    refine hround tr2 x post ob tr go hX hI _ (Env.inRound_ok hE) ρ' Bc _ W hsR _ ?_
    intro e s1 ρ1 B1 a1 w1 q hs1
    cases e with
    | normal =>
      have hj1 : J1 E (dn ++ s.df) l (rec .ready none) D2 Bc W s1.tr s1.go (fun b => Dof s1.ob ρ1 b ∨ b ∈ s1.df) B1 w1 := hs1.jj.j
      refine ⟨_, run_beginRound hj1.rec_ (by rw [hrec]; rfl), ?_⟩
      have hs2 := hs1.turn (rec' := { rec .ready none with state := .busy }) hl0
      refine q _ (Env.inRound_ok hE) ρ1 B1 a1 _ hs2 _ ?_
      intro e s3 ρ3 B3 a3 w3 q3 hs3
      have fin : ∀ (s4 : AS) (jump : Option Code), Le s3 s4 → ∃ ρ4 B4, (Instr.endRound l jump).run P w3 = .ok (.bool jump.isNone) (setBlk w3 l (.loop (rec (if jump.isNone then .ready else .done) jump))) ∧
          Susp E (dn ++ s.df) l a.tmps fr0 ρ W1.heap.size s4.ob s4.tr s4.go ρ4 B4 D2 B2 (setBlk w3 l (.loop (rec (if jump.isNone then .ready else .done) jump))) ∧
          Kept D2 B2 W (setBlk w3 l (.loop (rec (if jump.isNone then .ready else .done) jump))) ∧ (setBlk w3 l (.loop (rec (if jump.isNone then .ready else .done) jump))).heap[l]? = some (.loop (rec (if jump.isNone then .ready else .done) jump)) := by
        intro s4 jump hle
        obtain ⟨ρ4, B4, hs4⟩ := hle _ _ _ _ _ hs3
        have hj4 : J1 E (dn ++ s.df) l { rec .ready none with state := .busy } D2 Bc W s4.tr s4.go (fun b => Dof s4.ob ρ4 b ∨ b ∈ s4.df) B4 w3 := hs4.jj.j
        have hend := run_endRound (P := P) jump hj4.rec_
        obtain ⟨k1, k2, k3⟩ := hsu.end_ (rec' := rec (if jump.isNone then .ready else .done) jump) hl0 hidp hs4
        refine ⟨ρ4, B4, ?_, k1, k2, k3⟩
        rw [hend, hrec]; rfl
      cases e with
      | normal =>
        obtain ⟨s4, hle, hI4⟩ := q3
        obtain ⟨ρ4, B4, k0, k1, k2, k3⟩ := fin s4 none hle
        exact ⟨_, _, k0, true, rfl, k2, s4.ob, s4.tr, s4.go, ρ4, B4, k1, fun _ => ⟨k3, hI4⟩, fun h => by simp at h⟩
      | ret =>
        obtain ⟨s4, hle, hI4⟩ := q3
        obtain ⟨ρ4, B4, k0, k1, k2, k3⟩ := fin s4 (some .ret) hle
        exact ⟨_, _, k0, false, rfl, k2, s4.ob, s4.tr, s4.go, ρ4, B4, k1, fun h => by simp at h, fun _ => ⟨.ret, .ret, rfl, k3, hI4⟩⟩
      | exit id =>
        obtain ⟨s4, hle, hI4⟩ := q3
        obtain ⟨ρ4, B4, k0, k1, k2, k3⟩ := fin s4 (some (.exit id)) hle
        exact ⟨_, _, k0, false, rfl, k2, s4.ob, s4.tr, s4.go, ρ4, B4, k1, fun h => by simp at h, fun _ => ⟨.exit id, .exit id, rfl, k3, hI4⟩⟩
      | goto t => exact q3.elim
      | panic ch => exact q3.elim
      | outgrown => exact q3.elim
    | _ => exact q.elim
  have hrw2 : RW E2 [] [] E2.B0 E2.w0 := by
    rw [hE2]
    exact { ep := Nat.le_trans hs.rw_.le hsame.size, os := rfl, tape := rfl, output := rfl, size := Nat.le_refl _, block := fun _ _ _ => rfl, pre := fun k v h => by simp at h, bsub := fun _ h => h, bnew := fun _ h => .inl h,
            blt := fun b hb => Nat.lt_of_lt_of_le (hs.rw_.blt b hb) hsame.size, len := rfl, obs := fun k o h => by simp at h, dis := fun i j o o' u v b _ h => by simp at h, prv := fun k o v b h => by simp at h }
  have hj2 : E2.J [] true (fun _ => False) E2.B0 E2.w0 := by
    rw [hE2]
    exact ⟨s.ob, s.tr, s.go, ρ, B, hsu, fun _ => ⟨by rw [hrec]; exact hl1, h0⟩, fun h => by simp at h⟩
  have hcalls := hit E2 hok2 hst2 (by rw [hE2]) (by rw [hE2]) (by rw [hE2]) l (by rw [hE2]) ds hrw2 hj2 (by
    rw [hE2]
    exact hsub.rel (Nat.le_refl _) (hds.mono (fun _ h => h) hB1 (Nat.le_refl _) (fun _ _ h => h)))
  rw [hE2] at hcalls
  refine ⟨l, dn.map mark, W1, { target := .fn (.func f) ds.toArray, args := #[.func (.yield l) #[] #[]] }, W1, f, #[.func (.yield l) #[] #[]] ++ ds.toArray, W1, hen, ?_, fun _ _ => trivial, ?_, fun h => by simp [Fence.wide] at h, calls_FR.2 ?_⟩
  · simp only [resolve, hv]
    simp [go_sem]
  · have := callFunc_run hc (#[.func (.yield l) #[] #[]] ++ ds.toArray) W1
    simpa [invoke] using this
  have hargs : (#[.func (.yield l) #[] #[]] ++ ds.toArray : Array Value) = (.func (.yield l) #[] #[] :: ds).toArray := by simp
  rw [hargs]
  refine hcalls.mono ?_
  rintro e w2 ⟨⟨v, rfl⟩, B', tr2, go2, hw2, ⟨ob, tr, go, ρ', Bc, hsu2, h2, h3⟩, hfin⟩
  -- behind the iterator
  have out : ∀ rec' : Loop, RS E { s with fr := fr0, ob := ob, tr := tr, go := go, df := dn ++ s.df } ρ' Bc { a with defers := dn.map mark ++ a.defers } (setBlk w2 l (.loop rec')) := by
    intro rec'
    have hne : ∀ b, b ≠ l → (setBlk w2 l (.loop rec')).heap[b]? = w2.heap[b]? := fun b hb => by rw [setBlk_get _ _ _ _ hsu2.ll, if_neg hb]
    have hsz : (setBlk w2 l (.loop rec')).heap.size = w2.heap.size := by simp [setBlk]
    have hrw := hsu2.rw_.tidy (o := .loop rec') hl0 hsu2.ll hsu2.lB hsu2.lD
    refine ⟨hrw, hs.m, hs.n, by simp [hs.df], ?_, fun t x hm => ⟨(hsu2.rf t x hm).1, (hsu2.rf t x hm).2.mono (fun _ h => h) (fun b hb => hne b (by rintro rfl; exact hsu2.lB hb)) (Nat.le_refl _) (fun _ _ h => h)⟩⟩
    exact hsu2.jj.chg ⟨rfl, rfl, rfl, by rw [hsz]; exact Nat.le_refl _, fun b _ hb => hne b (fun e => hb (.inr (.inl e))), fun b h => .inl (.inl h), fun _ h => h, fun _ h => .inl h⟩ hrw.bd
  cases go2 with
  | true =>
    obtain ⟨hl, hI⟩ := h2 rfl
    have hx : tr2 = xs := hfin.1 rfl
    subst hx
    refine ⟨none, setBlk w2 l (.loop { rec .ready none with state := .exhausted }), ?_, ?_⟩
    · have := run_endLoop (P := P) hl (by rw [hrec]; simp [recOf])
      rw [hrec] at this ⊢
      exact this
    · exact hQ .normal _ ρ' Bc _ _ (hdone ob tr go _ hI) (out _)
  | false =>
    obtain ⟨e', c', hec, hl, hIx⟩ := h3 rfl
    refine ⟨some c', setBlk w2 l (.loop { rec .done (some c') with state := .exhausted }), ?_, ?_⟩
    · have := run_endLoop (P := P) hl (by rw [hrec]; simp [recOf])
      rw [hrec] at this ⊢
      exact this
    · cases e' with
      | ret =>
        simp only [codeOf, Option.some.injEq] at hec
        subst hec
        exact wpIn_ret (hQ .ret _ ρ' Bc _ _ (hstop .ret ob tr go _ hIx) (out _))
      | exit id =>
        simp only [codeOf, Option.some.injEq] at hec
        subst hec
        exact wpIn_exit (hQ (.exit id) _ ρ' Bc _ _ (hstop (.exit id) ob tr go _ hIx) (out _))
      | _ => simp [codeOf] at hec
end
set_option linter.unusedVariables false
set_option linter.unusedSectionVars false
set_option linter.unusedSimpArgs false
set_option linter.unnecessarySimpa false
mutual
def AV.pl : AV → Bool
  | .val _ | .any => true
  | .agg l | .tup l => AV.plL l
  | .sl nw _ xs => !nw && AV.plL xs
  | .slc _ xs => AV.plL xs
  | .own _ | .ptr _ _ | .ept _ _ => false
  | .ref nw x => !nw && x.pl
  | .ifc _ x => x.pl
  | .fn _ l m => AV.plL l && AV.plL m
def AV.plL : List AV → Bool
  | [] => true
  | x :: xs => x.pl && AV.plL xs
end
theorem AV.plL_iff : ∀ l : List AV, AV.plL l = true ↔ ∀ x ∈ l, x.pl = true
  | [] => by simp [AV.plL]
  | x :: l => by simp [AV.plL, AV.plL_iff l]
theorem AV.plL_cells (x : AV) : AV.plL x.cells = x.pl := by
  cases x <;> simp [AV.cells, AV.pl, AV.plL]
section pl
variable {w : World} {B : Nat → Prop} {bs bs' : Nat} {ρ ρ' : List Value}
mutual
theorem Rel.pl : ∀ {x : AV} {v : Value}, Rel w B bs ρ x v → x.pl = true → Rel w B bs' ρ' x v
  | _, _, .val v, _ => .val v
  | _, _, .agg h, e => .agg (h.pl (by simpa [AV.pl] using e))
  | _, _, .tup h, e => .tup (h.pl (by simpa [AV.pl] using e))
  | _, _, .slE nw sz A cap, _ => .slE nw sz A cap
  | _, _, .sl h hc, e => by
    simp only [AV.pl, Bool.and_eq_true, Bool.not_eq_true'] at e
    exact .sl (h.pl e.1 e.2) hc
  | _, _, .own h h1, e => by simp [AV.pl] at e
  | _, _, .ptr h, e => by simp [AV.pl] at e
  | _, _, .ept h, e => by simp [AV.pl] at e
  | _, _, .ref (x := x) h hn, e => by
    simp only [AV.pl, Bool.and_eq_true, Bool.not_eq_true'] at e
    exact .ref (h.pl e.1 (by rw [AV.plL_cells]; exact e.2)) hn
  | _, _, .ifc h, e => .ifc (h.pl (by simpa [AV.pl] using e))
  | _, _, .fn h h2, e => .fn (h.pl (by simp [AV.pl] at e; exact e.1)) (h2.pl (by simp [AV.pl] at e; exact e.2))
  | _, _, .any v, _ => .any v
  | _, _, .slc h, e => .slc (h.pl (by simpa [AV.pl] using e))
theorem RelL.pl : ∀ {xs : List AV} {vs : List Value}, RelL w B bs ρ xs vs → AV.plL xs = true → RelL w B bs' ρ' xs vs
  | _, _, .nil, _ => .nil
  | _, _, .cons h h2, e => .cons (h.pl (by simp [AV.plL] at e; exact e.1)) (h2.pl (by simp [AV.plL] at e; exact e.2))
theorem RelCells.pl : ∀ {nw : Bool} {b o : Nat} {xs : List AV}, RelCells w B bs ρ nw b o xs → nw = false → AV.plL xs = true → RelCells w B bs' ρ' nw b o xs
  | _, _, _, _, .nil, _, _ => .nil
  | _, _, _, _, .cons h1 h2 h3 h4 h5 h6, hn, e => .cons h1 (fun h => by rw [hn] at h; simp at h) h3 h4 (h5.pl (by simp [AV.plL] at e; exact e.1)) (h6.pl hn (by simp [AV.plL] at e; exact e.2))
theorem RelRow.pl : ∀ {nw : Bool} {b sz o : Nat} {xs : List AV}, RelRow w B bs ρ nw b sz o xs → nw = false → AV.plL xs = true → RelRow w B bs' ρ' nw b sz o xs
  | _, _, _, _, _, .nil, _, _ => .nil
  | _, _, _, _, _, .cons (x := x) h1 h2 h3, hn, e => .cons (h1.pl hn (by rw [AV.plL_cells]; simp [AV.plL] at e; exact e.1)) h2 (h3.pl hn (by simp [AV.plL] at e; exact e.2))
end
theorem RelCells.old {nw : Bool} : ∀ {b o : Nat} {xs : List AV}, RelCells w B bs ρ nw b o xs → RelCells w B bs ρ false b o xs
  | _, _, _, .nil => .nil
  | _, _, _, .cons h1 h2 h3 h4 h5 h6 => .cons h1 (fun h => by simp at h) h3 h4 h5 h6.old
theorem RelRow.old {nw : Bool} : ∀ {b sz o : Nat} {xs : List AV}, RelRow w B bs ρ nw b sz o xs → RelRow w B bs ρ false b sz o xs
  | _, _, _, _, .nil => .nil
  | _, _, _, _, .cons h1 h2 h3 => .cons h1.old h2 h3.old
theorem Rel.old_sl {nw : Bool} {sz : Nat} {xs : List AV} {v : Value} (h : Rel w B bs ρ (.sl nw sz xs) v) : Rel w B bs ρ (.sl false sz xs) v := by
  cases h with
  | slE => exact .slE _ _ _ _
  | sl h hc => exact .sl h.old hc
theorem Rel.old_ref {nw : Bool} {x : AV} {v : Value} (h : Rel w B bs ρ (.ref nw x) v) : Rel w B bs ρ (.ref false x) v := by
  cases h with
  | ref h hn => exact .ref h.old hn
end pl
def SubX (ids : List Nat) (x y : AV) : Prop := ∀ (w : World) (B : Nat → Prop) (bs bs' : Nat) (ρ σ : List Value) (v : Value), bs' ≤ bs → (∀ i k : Nat, ids[i]? = some k → σ[i]? = ρ[k]?) → Rel w B bs ρ x v → Rel w B bs' σ y v
def SubXL (ids : List Nat) : List AV → List AV → Prop
  | [], [] => True
  | x :: xs, y :: ys => SubX ids x y ∧ SubXL ids xs ys
  | _, _ => False
theorem SubXL.rel {ids : List Nat} : ∀ {xs ys : List AV} {vs : List Value} {w : World} {B : Nat → Prop} {bs bs' : Nat} {ρ σ : List Value}, SubXL ids xs ys → bs' ≤ bs → (∀ i k : Nat, ids[i]? = some k → σ[i]? = ρ[k]?) → RelL w B bs ρ xs vs → RelL w B bs' σ ys vs
  | [], [], _, _, _, _, _, _, _, _, _, _, .nil => .nil
  | x :: xs, y :: ys, _, _, _, _, _, _, _, h, hb, hi, .cons h1 h2 => .cons (h.1 _ _ _ _ _ _ _ hb hi h1) (SubXL.rel h.2 hb hi h2)
  | [], _ :: _, _, _, _, _, _, _, _, h, _, _, _ => h.elim
  | _ :: _, [], _, _, _, _, _, _, _, h, _, _, _ => h.elim
section subs
variable {ids : List Nat} {x : AV}
theorem SubX.pl (h : x.pl = true) : SubX ids x x := fun _ _ _ _ _ _ _ _ _ hr => hr.pl h
theorem SubX.sl {nw : Bool} {sz : Nat} {xs : List AV} (h : AV.plL xs = true) : SubX ids (.sl nw sz xs) (.sl false sz xs) := fun _ _ _ _ _ _ _ _ _ hr => hr.old_sl.pl (by simpa [AV.pl] using h)
theorem SubX.ref {nw : Bool} (h : x.pl = true) : SubX ids (.ref nw x) (.ref false x) := fun _ _ _ _ _ _ _ _ _ hr => hr.old_ref.pl (by simpa [AV.pl] using h)
theorem SubX.keep (h : x.idsOk (fun _ => false) = true) : SubX ids x x := fun _ _ _ _ _ _ _ hb _ hr => (hr.mono (fun _ h => h) (fun _ _ => rfl) hb (fun _ _ h => h)).ids (p := fun _ => false) (by intro _ _ h; simp at h) h
theorem SubX.any : SubX ids x .any := fun _ _ _ _ _ _ _ _ _ _ => .any _
theorem SubX.ptr {i k o : Nat} (h : ids[i]? = some k) : SubX ids (.ptr k o) (.ptr i o) := fun _ _ _ _ _ _ _ hb hi hr => by
  cases hr with
  | ptr h1 => exact .ptr ((hi i k h).trans h1)
theorem SubX.own {i k : Nat} (h : ids[i]? = some k) : SubX ids (.own k) (.own i) := fun _ _ _ _ _ _ _ hb hi hr => by
  cases hr with
  | own h1 h2 => exact .own ((hi i k h).trans h1) h2
theorem SubX.agg {xs ys : List AV} (h : SubXL ids xs ys) : SubX ids (.agg xs) (.agg ys) := fun _ _ _ _ _ _ _ hb hi hr => by
  cases hr with
  | agg h1 => exact .agg (h.rel hb hi h1)
theorem SubX.ifc {t : TypeId} {y : AV} (h : SubX ids x y) : SubX ids (.ifc t x) (.ifc t y) := fun _ _ _ _ _ _ _ hb hi hr => by
  cases hr with
  | ifc h1 => exact .ifc (h _ _ _ _ _ _ _ hb hi h1)
theorem SubX.fn {f : Fn} {xs ys zs us : List AV} (h : SubXL ids xs ys) (h2 : SubXL ids zs us) : SubX ids (.fn f xs zs) (.fn f ys us) := fun _ _ _ _ _ _ _ hb hi hr => by
  cases hr with
  | fn h1 h3 => exact .fn (h.rel hb hi h1) (h2.rel hb hi h3)
theorem Sub.of {y : AV} (h : SubX [] x y) : Sub x y := fun w B bs bs' ρ v hb hr => h w B bs bs' ρ [] v hb (fun i k hk => by simp at hk) hr
theorem SubL.of : ∀ {xs ys : List AV}, SubXL [] xs ys → SubL xs ys
  | [], [], _ => trivial
  | _ :: _, _ :: _, h => ⟨Sub.of h.1, SubL.of h.2⟩
  | [], _ :: _, h => h
  | _ :: _, [], h => h
end subs
mutual
def AV.ren (φ : Nat → Nat) : AV → AV
  | .val v => .val v
  | .any => .any
  | .agg l => .agg (AV.renL φ l)
  | .tup l => .tup (AV.renL φ l)
  | .sl nw sz xs => .sl nw sz (AV.renL φ xs)
  | .slc sz xs => .slc sz (AV.renL φ xs)
  | .own k => .own (φ k)
  | .ptr k o => .ptr (φ k) o
  | .ept k o => .ept (φ k) o
  | .ref nw x => .ref nw (x.ren φ)
  | .ifc t x => .ifc t (x.ren φ)
  | .fn f l m => .fn f (AV.renL φ l) (AV.renL φ m)
def AV.renL (φ : Nat → Nat) : List AV → List AV
  | [] => []
  | x :: xs => x.ren φ :: AV.renL φ xs
end
theorem AV.renL_map (φ : Nat → Nat) : ∀ l : List AV, AV.renL φ l = l.map (AV.ren φ)
  | [] => rfl
  | x :: l => by simp [AV.renL, AV.renL_map φ l]
mutual
theorem AV.ren_closed (φ : Nat → Nat) : ∀ x : AV, x.idsOk (fun _ => false) = true → x.ren φ = x
  | .val _, _ | .any, _ => rfl
  | .agg l, h | .tup l, h => by simp only [AV.ren]; rw [AV.renL_closed φ l (by simpa [AV.idsOk] using h)]
  | .sl nw sz xs, h => by simp only [AV.ren]; rw [AV.renL_closed φ xs (by simpa [AV.idsOk] using h)]
  | .slc sz xs, h => by simp only [AV.ren]; rw [AV.renL_closed φ xs (by simpa [AV.idsOk] using h)]
  | .own k, h | .ptr k _, h | .ept k _, h => by simp [AV.idsOk] at h
  | .ref _ x, h | .ifc _ x, h => by simp only [AV.ren]; rw [AV.ren_closed φ x (by simpa [AV.idsOk] using h)]
  | .fn f l m, h => by
    simp only [AV.idsOk, Bool.and_eq_true] at h
    simp only [AV.ren]; rw [AV.renL_closed φ l h.1, AV.renL_closed φ m h.2]
theorem AV.renL_closed (φ : Nat → Nat) : ∀ l : List AV, AV.idsOkL (fun _ => false) l = true → AV.renL φ l = l
  | [], _ => rfl
  | x :: l, h => by
    simp only [AV.idsOkL, Bool.and_eq_true] at h
    simp only [AV.renL]; rw [AV.ren_closed φ x h.1, AV.renL_closed φ l h.2]
end
theorem AV.ren_one (φ : Nat → Nat) (x : AV) : (x.ren φ).one = x.one := by cases x <;> rfl
theorem AV.ren_oc (φ : Nat → Nat) (x : AV) : (x.ren φ).oc = x.oc := by cases x <;> rfl
theorem AV.ren_cells (φ : Nat → Nat) (x : AV) : (x.ren φ).cells = x.cells.map (AV.ren φ) := by cases x <;> simp [AV.ren, AV.cells, AV.renL_map]
section ren
variable {w : World} {B : Nat → Prop} {bs : Nat} {σ ρ : List Value} {φ : Nat → Nat}
variable (hρ : ∀ (k : Nat) (v : Value), σ[k]? = some v → ρ[φ k]? = some v)
include hρ
mutual
theorem Rel.ren : ∀ {x : AV} {v : Value}, Rel w B bs σ x v → Rel w B bs ρ (x.ren φ) v
  | _, _, .val v => .val v
  | _, _, .agg h => .agg h.ren
  | _, _, .tup h => .tup h.ren
  | _, _, .slE nw sz A cap => .slE nw sz A cap
  | _, _, .sl (xs := xs) h hc => by
    have h2 := RelRow.ren h
    have := Rel.sl (cap := _) h2 (by rw [AV.renL_map, List.length_map]; exact hc)
    simp only [AV.renL_map, List.length_map] at this
    simpa only [AV.ren, AV.renL, AV.renL_map] using this
  | _, _, .own h h1 => .own (hρ _ _ h) h1
  | _, _, .ptr h => .ptr (hρ _ _ h)
  | _, _, .ept h => .ept (hρ _ _ h)
  | _, _, .ref (x := x) h hn => .ref (by rw [AV.ren_cells, ← AV.renL_map]; exact h.ren) (by rw [AV.ren_cells]; simpa using hn)
  | _, _, .ifc h => .ifc h.ren
  | _, _, .fn h h2 => .fn h.ren h2.ren
  | _, _, .any v => .any v
  | _, _, .slc h => .slc h.ren
theorem RelL.ren : ∀ {xs : List AV} {vs : List Value}, RelL w B bs σ xs vs → RelL w B bs ρ (AV.renL φ xs) vs
  | _, _, .nil => .nil
  | _, _, .cons h h2 => .cons h.ren h2.ren
theorem RelCells.ren : ∀ {nw : Bool} {b o : Nat} {xs : List AV}, RelCells w B bs σ nw b o xs → RelCells w B bs ρ nw b o (AV.renL φ xs)
  | _, _, _, _, .nil => .nil
  | _, _, _, _, .cons h1 h2 h3 h4 h5 h6 => .cons h1 h2 h3 (by rw [AV.ren_one]; exact h4) h5.ren h6.ren
theorem RelRow.ren : ∀ {nw : Bool} {b sz o : Nat} {xs : List AV}, RelRow w B bs σ nw b sz o xs → RelRow w B bs ρ nw b sz o (AV.renL φ xs)
  | _, _, _, _, _, .nil => .nil
  | _, _, _, _, _, .cons (x := x) h1 h2 h3 => .cons (by rw [AV.ren_cells, ← AV.renL_map]; exact h1.ren) (by rw [AV.ren_cells]; simpa using h2) h3.ren
end
end ren
def Ob.ren (φ : Nat → Nat) : Ob → Ob
  | .box T cs => .box T (AV.renL φ cs)
  | .row T sz xs => .row T sz (AV.renL φ xs)
  | .mp es => .mp es
  | .gone => .gone
def setAll {α : Type} : List α → List Nat → List α → List α
  | l, i :: is, x :: xs => setAll (l.set i x) is xs
  | l, _, _ => l
theorem setAll_len {α : Type} : ∀ (l : List α) (is : List Nat) (xs : List α), (setAll l is xs).length = l.length
  | l, [], xs => by cases xs <;> rfl
  | l, i :: is, [] => rfl
  | l, i :: is, x :: xs => by simp only [setAll]; rw [setAll_len]; simp
theorem setAll_not {α : Type} {j : Nat} : ∀ (l : List α) (is : List Nat) (xs : List α), j ∉ is → (setAll l is xs)[j]? = l[j]?
  | l, [], xs, _ => by cases xs <;> rfl
  | l, i :: is, [], _ => rfl
  | l, i :: is, x :: xs, h => by
    simp only [setAll]
    rw [setAll_not _ is xs (fun h' => h (by simp [h'])), List.getElem?_set_ne (by rintro rfl; exact h (by simp))]
theorem setAll_at {α : Type} {i j : Nat} {x : α} : ∀ (l : List α) (is : List Nat) (xs : List α), is.Nodup → is[i]? = some j → j < l.length → xs[i]? = some x → (setAll l is xs)[j]? = some x
  | l, [], xs, _, h, _, _ => by simp at h
  | l, k :: is, [], _, _, _, h => by simp at h
  | l, k :: is, y :: xs, hn, h, hl, hx => by
    simp only [setAll]
    obtain ⟨h1, h2⟩ := List.nodup_cons.1 hn
    cases i with
    | zero =>
      simp only [List.getElem?_cons_zero, Option.some.injEq] at h hx
      subst h; subst hx
      rw [setAll_not _ is xs h1, List.getElem?_set_self hl]
    | succ i =>
      simp only [List.getElem?_cons_succ] at h hx
      exact setAll_at (l.set k y) is xs h2 h (by simpa using hl) hx
def rowIds : List Nat → List Ob → List Nat
  | i :: is, .box _ _ :: os => rowIds is os
  | i :: is, _ :: os => i :: rowIds is os
  | _, _ => []
def AV.invalL (rk : List Nat) (x : AV) : AV := if rk = [] then x else if x.idsOk (fun k => !rk.contains k) = true then x else .any
def Ob.invalL (rk : List Nat) : Ob → Ob
  | .box T cs => .box T (cs.map (AV.invalL rk))
  | .row T sz xs => if rk = [] then .row T sz xs else if AV.idsOkL (fun k => !rk.contains k) xs = true then .row T sz xs else .gone
  | .mp es => .mp es
  | .gone => .gone
set_option linter.unusedVariables false
set_option linter.unusedSectionVars false
set_option linter.unusedSimpArgs false
set_option linter.unnecessarySimpa false
section
variable {P : Program} {ops : Array Oper} {E : Env} {s s' : AS} {ρ σ σ' : List Value} {B B' : Nat → Prop} {a : Act} {w w' : World} {o : Oper} {rest : List Oper} {Q : AS → Prop}
def SubO (ids : List Nat) : Ob → Ob → Prop
  | .box T cs, .box T' cs' => T = T' ∧ SubXL ids cs cs' ∧ cs'.all AV.oc = true
  | .row T sz xs, .row T' sz' xs' => T = T' ∧ sz = sz' ∧ xs = xs' ∧ AV.plL xs = true
  | .mp es, .mp es' => es = es'
  | _, .gone => True
  | _, _ => False
def SubOL (ids : List Nat) (ob : List Ob) : List Nat → List Ob → Prop
  | [], [] => True
  | i :: is, o :: os => (∃ o', ob[i]? = some o' ∧ o'.live = true ∧ SubO ids o' o) ∧ SubOL ids ob is os
  | _, _ => False
theorem SubOL.at {ids : List Nat} {ob : List Ob} : ∀ {is : List Nat} {τ : List Ob}, SubOL ids ob is τ → ∀ {i : Nat} {o : Ob}, τ[i]? = some o → ∃ j o', is[i]? = some j ∧ ob[j]? = some o' ∧ o'.live = true ∧ SubO ids o' o
  | [], [], _, i, o, h => by simp at h
  | j :: is, t :: τ, h, 0, o, e => by
    simp only [List.getElem?_cons_zero, Option.some.injEq] at e
    subst e
    obtain ⟨⟨o', h1, h2, h3⟩, _⟩ := h
    exact ⟨j, o', rfl, h1, h2, h3⟩
  | j :: is, t :: τ, h, i + 1, o, e => by
    simp only [List.getElem?_cons_succ] at e ⊢
    exact SubOL.at h.2 e
  | [], _ :: _, h, _, _, _ => h.elim
  | _ :: _, [], h, _, _, _ => h.elim
theorem SubOL.len {ids : List Nat} {ob : List Ob} : ∀ {is : List Nat} {τ : List Ob}, SubOL ids ob is τ → is.length = τ.length
  | [], [], _ => rfl
  | j :: is, t :: τ, h => by simp [SubOL.len h.2]
  | [], _ :: _, h => h.elim
  | _ :: _, [], h => h.elim
theorem plL_flat {xs : List AV} (h : AV.plL xs = true) : AV.plL (xs.flatMap AV.cells) = true := by
  rw [AV.plL_iff] at h ⊢
  intro c hc
  simp only [List.mem_flatMap] at hc
  obtain ⟨x, hx, hc⟩ := hc
  have := h x hx
  rw [← AV.plL_cells, AV.plL_iff] at this
  exact this c hc
def pick (ρ : List Value) (ids : List Nat) : List Value := ids.map fun k => ρ.getD k undef
theorem pick_at {ids : List Nat} {ob : List Ob} {τ : List Ob} (h : RW E ob ρ B w) (hs : SubOL ids ob ids τ) {i k : Nat} (hi : ids[i]? = some k) : (pick ρ ids)[i]? = ρ[k]? := by
  have hlt : i < τ.length := by rw [← hs.len]; exact get_lt hi
  obtain ⟨j, o', h1, h2, _⟩ := hs.at (List.getElem?_eq_getElem hlt)
  have : j = k := by rw [hi] at h1; exact (Option.some.inj h1).symm
  subst this
  have hk : j < ρ.length := by rw [h.len]; exact get_lt h2
  simp [pick, hi, hk]
theorem RW.give {ob : List Ob} {ids : List Nat} {τ : List Ob} (h : RW E ob ρ B w) (hn : ids.Nodup) (hs : SubOL ids ob ids τ) : RW (E0 E.bs w B (pick ρ ids)) τ (pick ρ ids) B w := by
  have hp := fun {i k : Nat} (hi : ids[i]? = some k) => pick_at h hs hi
  refine { ep := h.le, os := rfl, tape := rfl, output := rfl, size := Nat.le_refl _, block := fun _ _ _ => rfl, pre := ?_, bsub := fun _ h => h, bnew := fun _ h => .inl h,
           blt := h.blt, len := by simp [pick, hs.len], obs := ?_, dis := ?_, prv := ?_ }
  · rintro k v (hk | hk) _
    · exact hk
    · simp at hk
  · intro i o hi
    obtain ⟨j, o', h1, h2, h3, h4⟩ := hs.at hi
    have hj := hp h1
    have ho := h.obs j o' h2
    cases o with
    | gone => trivial
    | box T cs =>
      cases o' with
      | box T' cs' =>
        obtain ⟨rfl, h5, h6⟩ := h4
        obtain ⟨b, vs, fz, r1, r2, r3, r4, r5⟩ := ho
        exact ⟨b, vs, fz, hj.trans r1, r2, r3, h5.rel (Nat.le_refl _) (fun i k hik => hp hik) r4, fun c hc => List.all_eq_true.1 h6 c hc⟩
      | _ => exact h4.elim
    | row T sz xs =>
      cases o' with
      | row T' sz' xs' =>
        obtain ⟨rfl, rfl, rfl, h5⟩ := h4
        obtain ⟨h0, ho⟩ := ho
        refine ⟨h0, ?_⟩
        rcases ho with ⟨e, ho⟩ | ⟨b, cap, vs, ws, fz, r1, r2, r3, r4, r5, r6⟩
        · exact .inl ⟨e, hj.trans ho⟩
        · exact .inr ⟨b, cap, vs, ws, fz, hj.trans r1, r2, r3, r4, r5, r6.pl (plL_flat h5)⟩
      | _ => exact h4.elim
    | mp es =>
      cases o' with
      | mp es' =>
        obtain rfl := h4
        obtain ⟨b, ms, c, r1, r2, r3⟩ := ho
        exact ⟨b, ms, c, hj.trans r1, r2, r3⟩
      | _ => exact h4.elim
  · intro i j o1 o2 u v b hij h1 _ h2 _ h3 h4 h5
    obtain ⟨k1, o1', g1, g2, g3, _⟩ := hs.at h1
    obtain ⟨k2, o2', g4, g5, g6, _⟩ := hs.at h2
    refine h.dis k1 k2 o1' o2' u v b ?_ g2 g3 g5 g6 ((hp g1).symm.trans h3) ((hp g4).symm.trans h4) h5
    rintro rfl
    exact hij ((List.getElem?_inj (get_lt g1) hn).1 (g1.trans g4.symm))
  · intro i o v b h1 h2 h3 h4
    obtain ⟨k, o', g1, g2, g3, _⟩ := hs.at h1
    obtain ⟨q1, q2, _⟩ := h.prv k o' v b g2 g3 ((hp g1).symm.trans h3) h4
    exact ⟨q1, q2, .inr ⟨v, h3, h4⟩⟩
theorem rowIds_box {k : Nat} : ∀ {ids : List Nat} {τ : List Ob} {i : Nat}, ids[i]? = some k → i < τ.length → k ∉ rowIds ids τ → ∃ T cs, τ[i]? = some (.box T cs)
  | j :: ids, .box T cs :: τ, 0, h, _, _ => ⟨T, cs, rfl⟩
  | j :: ids, .box T cs :: τ, i + 1, h, hl, hk => by
    simp only [List.getElem?_cons_succ] at h ⊢
    exact rowIds_box h (by simpa using hl) (by simpa [rowIds] using hk)
  | j :: ids, .row T sz xs :: τ, 0, h, _, hk => by simp at h; subst h; simp [rowIds] at hk
  | j :: ids, .gone :: τ, 0, h, _, hk => by simp at h; subst h; simp [rowIds] at hk
  | j :: ids, .mp es :: τ, 0, h, _, hk => by simp at h; subst h; simp [rowIds] at hk
  | j :: ids, .mp es :: τ, i + 1, h, hl, hk => by
    simp only [List.getElem?_cons_succ] at h ⊢
    exact rowIds_box h (by simpa using hl) (by simp [rowIds] at hk; exact hk.2)
  | j :: ids, .row T sz xs :: τ, i + 1, h, hl, hk => by
    simp only [List.getElem?_cons_succ] at h ⊢
    exact rowIds_box h (by simpa using hl) (by simp [rowIds] at hk; exact hk.2)
  | j :: ids, .gone :: τ, i + 1, h, hl, hk => by
    simp only [List.getElem?_cons_succ] at h ⊢
    exact rowIds_box h (by simpa using hl) (by simp [rowIds] at hk; exact hk.2)
  | [], _, _, h, _, _ => by simp at h
  | _ :: _, [], _, _, h, _ => by simp at h
def phi (ids : List Nat) (n i : Nat) : Nat := if i < ids.length then ids.getD i 0 else n + (i - ids.length)
def obAfter (ob : List Ob) (ids : List Nat) (τ τ' : List Ob) : List Ob :=
  setAll (ob.map (Ob.invalL (rowIds ids τ))) ids (τ'.map (Ob.ren (phi ids ob.length))) ++ (τ'.drop ids.length).map (Ob.ren (phi ids ob.length))
section after
variable {ob : List Ob} {ids : List Nat} {τ τ' : List Ob}
variable (h : RW E ob ρ B w) (hn : ids.Nodup) (hs : SubOL ids ob ids τ) (k : RW (E0 E.bs w B (pick ρ ids)) τ' σ' B' w') (hm : ids.length ≤ τ'.length)
include h hn hs k hm
theorem ids_lt {i j : Nat} (hi : ids[i]? = some j) : j < ob.length := by
  have hlt : i < τ.length := by rw [← hs.len]; exact get_lt hi
  obtain ⟨j', o', h1, h2, _⟩ := hs.at (List.getElem?_eq_getElem hlt)
  have : j' = j := by rw [hi] at h1; exact (Option.some.inj h1).symm
  subst this
  exact get_lt h2
theorem phi_old {i j : Nat} (hi : ids[i]? = some j) : phi ids ob.length i = j := by
  obtain ⟨h1, h2⟩ := List.getElem?_eq_some_iff.1 hi
  simp [phi, h1, h2]
theorem rho_phi {i : Nat} {v : Value} (hi : σ'[i]? = some v) : (setAll ρ ids σ' ++ σ'.drop ids.length)[phi ids ob.length i]? = some v := by
  by_cases hlt : i < ids.length
  · have hj : ids[i]? = some ids[i] := List.getElem?_eq_getElem hlt
    have hjl := ids_lt h hn hs k hm hj
    rw [phi_old h hn hs k hm hj, List.getElem?_append_left (by rw [setAll_len, h.len]; exact hjl)]
    exact setAll_at ρ ids σ' hn hj (by rw [h.len]; exact hjl) hi
  · have : phi ids ob.length i = ob.length + (i - ids.length) := by simp [phi, hlt]
    rw [this, List.getElem?_append_right (by rw [setAll_len, h.len]; omega), setAll_len, h.len, List.getElem?_drop]
    rw [show ids.length + (ob.length + (i - ids.length) - ob.length) = i by omega]
    exact hi
theorem rho_keep {j : Nat} {v : Value} (hj : j ∉ rowIds ids τ) (hv : ρ[j]? = some v) : (setAll ρ ids σ' ++ σ'.drop ids.length)[j]? = some v := by
  have hjl := get_lt hv
  rw [List.getElem?_append_left (by rw [setAll_len]; exact hjl)]
  by_cases hmem : j ∈ ids
  · obtain ⟨i, hil, hi⟩ := List.getElem_of_mem hmem
    have hi' : ids[i]? = some j := by rw [List.getElem?_eq_getElem hil, hi]
    obtain ⟨T, cs, hb⟩ := rowIds_box hi' (by rw [← hs.len]; exact hil) hj
    obtain ⟨b, vs, fz, r1, _⟩ := (h.give hn hs).obs i _ hb
    have hp := pick_at h hs hi'
    have e : v = .pointer (some ⟨b, 0, none⟩) := by
      have := hp.symm.trans r1
      rw [hv] at this
      exact Option.some.inj this
    have h3 := k.pre i _ (.inl r1) rfl
    rw [setAll_at ρ ids σ' hn hi' hjl h3, e]
  · rw [setAll_not ρ ids σ' hmem]; exact hv
theorem obAfter_get {j : Nat} {o : Ob} (hj : (obAfter ob ids τ τ')[j]? = some o) :
    (∃ i o', τ'[i]? = some o' ∧ o = o'.ren (phi ids ob.length) ∧ j = phi ids ob.length i) ∨ (∃ o', ob[j]? = some o' ∧ o = o'.invalL (rowIds ids τ) ∧ j ∉ ids) := by
  unfold obAfter at hj
  rcases Nat.lt_or_ge j ob.length with hlt | hge
  · rw [List.getElem?_append_left (by rw [setAll_len]; simpa using hlt)] at hj
    by_cases hmem : j ∈ ids
    · obtain ⟨i, hil, hi⟩ := List.getElem_of_mem hmem
      have hi' : ids[i]? = some j := by rw [List.getElem?_eq_getElem hil, hi]
      have hit : i < τ'.length := by omega
      rw [setAll_at _ ids _ hn hi' (by simpa using hlt) (x := (τ'[i]).ren (phi ids ob.length)) (by simp [hit])] at hj
      exact .inl ⟨i, τ'[i], List.getElem?_eq_getElem hit, (Option.some.inj hj).symm, (phi_old h hn hs k hm hi').symm⟩
    · rw [setAll_not _ ids _ hmem, List.getElem?_map] at hj
      simp only [Option.map_eq_some_iff] at hj
      obtain ⟨o', h1, h2⟩ := hj
      exact .inr ⟨o', h1, h2.symm, hmem⟩
  · rw [List.getElem?_append_right (by rw [setAll_len]; simpa using hge), setAll_len, List.length_map, List.getElem?_map, List.getElem?_drop] at hj
    simp only [Option.map_eq_some_iff] at hj
    obtain ⟨o', h1, h2⟩ := hj
    refine .inl ⟨_, o', h1, h2.symm, ?_⟩
    have : ¬ (ids.length + (j - ob.length) < ids.length) := by omega
    simp only [phi, this, if_false]
    omega
theorem rho_at {i : Nat} {v : Value} (hil : i < τ'.length) (hv : (setAll ρ ids σ' ++ σ'.drop ids.length)[phi ids ob.length i]? = some v) : σ'[i]? = some v := by
  have hil' : i < σ'.length := by rw [k.len]; exact hil
  have := rho_phi h hn hs k hm (List.getElem?_eq_getElem hil')
  rw [hv] at this
  rw [List.getElem?_eq_getElem hil']
  exact this.symm
theorem rho_not {j : Nat} {v : Value} (hj : j ∉ ids) (hl : j < ob.length) (hv : (setAll ρ ids σ' ++ σ'.drop ids.length)[j]? = some v) : ρ[j]? = some v := by
  rwa [List.getElem?_append_left (by rw [setAll_len, h.len]; exact hl), setAll_not ρ ids σ' hj] at hv
theorem inval_rel {x : AV} {v : Value} {bs : Nat} (hr : Rel w B bs ρ x v) : Rel w' B' bs (setAll ρ ids σ' ++ σ'.drop ids.length) (x.invalL (rowIds ids τ)) v := by
  have hB : ∀ b, B b → w'.heap[b]? = w.heap[b]? := fun b hb => k.block b (h.blt b hb) ⟨fun hx => by
    obtain ⟨v, hv, hbv⟩ := hx
    obtain ⟨i, hil, hi⟩ := List.getElem_of_mem hv
    have hi' : (pick ρ ids)[i]? = some v := by rw [List.getElem?_eq_getElem hil, hi]
    have hil2 : i < ids.length := by simpa [pick] using hil
    obtain ⟨j, o', g1, g2, g3, _⟩ := hs.at (List.getElem?_eq_getElem (show i < τ.length by rw [← hs.len]; exact hil2))
    exact (h.prv j o' v b g2 g3 ((pick_at h hs g1).symm.trans hi') hbv).1 hb, by simp⟩
  unfold AV.invalL
  split
  · rename_i he
    exact hr.mono k.bsub hB (Nat.le_refl _) (fun j v hv => rho_keep h hn hs k hm (by rw [he]; simp) hv)
  · split
    · rename_i hid
      refine (hr.mono k.bsub hB (Nat.le_refl _) (fun _ _ h => h)).ids (p := fun k => !(rowIds ids τ).contains k) ?_ hid
      intro j v hj hv
      exact rho_keep h hn hs k hm (by simpa using hj) hv
    · exact .any _
theorem after_old {b : Nat} (hx : (E0 E.bs w B (pick ρ ids)).X b) : ¬ B b ∧ b < w.heap.size ∧ ∃ j o' v, j ∈ ids ∧ ob[j]? = some o' ∧ o'.live = true ∧ ρ[j]? = some v ∧ blk v = some b := by
  obtain ⟨v, hv, hbv⟩ := hx
  obtain ⟨i, hil, hi⟩ := List.getElem_of_mem hv
  have hi' : (pick ρ ids)[i]? = some v := by rw [List.getElem?_eq_getElem hil, hi]
  have hil2 : i < ids.length := by simpa [pick] using hil
  obtain ⟨j, o', g1, g2, g3, _⟩ := hs.at (List.getElem?_eq_getElem (show i < τ.length by rw [← hs.len]; exact hil2))
  have hv' := (pick_at h hs g1).symm.trans hi'
  obtain ⟨q1, q2, _⟩ := h.prv j o' v b g2 g3 hv' hbv
  exact ⟨q1, q2, j, o', v, List.mem_of_getElem? g1, g2, g3, hv', hbv⟩
theorem after_at {i : Nat} {o : Ob} {v : Value} {b : Nat} (hi : τ'[i]? = some o) (hl : o.live = true) (hv : σ'[i]? = some v) (hb : blk v = some b) :
    ¬ B' b ∧ b < w'.heap.size ∧ (w.heap.size ≤ b ∨ ∃ o' u, ob[phi ids ob.length i]? = some o' ∧ o'.live = true ∧ ρ[phi ids ob.length i]? = some u ∧ blk u = some b ∧ phi ids ob.length i ∈ ids) := by
  obtain ⟨q1, q2, q3⟩ := k.prv i o v b hi hl hv hb
  refine ⟨q1, q2, ?_⟩
  rcases q3 with q3 | ⟨u, hu, hbu⟩
  · exact .inl q3
  · have hil : i < ids.length := by have := get_lt hu; simpa [pick] using this
    obtain ⟨j, o', g1, g2, g3, _⟩ := hs.at (List.getElem?_eq_getElem (show i < τ.length by rw [← hs.len]; exact hil))
    have hj := phi_old h hn hs k hm g1
    rw [hj]
    exact .inr ⟨o', u, g2, g3, (pick_at h hs g1).symm.trans hu, hbu, List.mem_of_getElem? g1⟩
theorem ren_live {o : Ob} {φ : Nat → Nat} (hl : (o.ren φ).live = true) : o.live = true := by cases o <;> simp_all [Ob.ren, Ob.live]
theorem invalL_live {o : Ob} {rk : List Nat} (hl : (o.invalL rk).live = true) : o.live = true := by cases o <;> simp_all [Ob.invalL, Ob.live]
theorem RW.after : RW E (obAfter ob ids τ τ') (setAll ρ ids σ' ++ σ'.drop ids.length) B' w' := by
  have hsz : w.heap.size ≤ w'.heap.size := k.size
  have hblk : ∀ b, b < w.heap.size → ¬ (E0 E.bs w B (pick ρ ids)).X b → w'.heap[b]? = w.heap[b]? := fun b hb hx => k.block b hb ⟨hx, by simp⟩
  have hphi : ∀ {i j : Nat}, i < τ'.length → j < τ'.length → phi ids ob.length i = phi ids ob.length j → i = j := by
    intro i j hi hj he
    have hil : i < σ'.length := by rw [k.len]; exact hi
    by_cases h1 : i < ids.length <;> by_cases h2 : j < ids.length
    · have e1 := phi_old h hn hs k hm (List.getElem?_eq_getElem h1)
      have e2 := phi_old h hn hs k hm (List.getElem?_eq_getElem h2)
      exact (List.getElem?_inj h1 hn).1 (by rw [List.getElem?_eq_getElem h1, List.getElem?_eq_getElem h2, ← e1, ← e2, he])
    · have e1 := phi_old h hn hs k hm (List.getElem?_eq_getElem h1)
      have e3 := ids_lt h hn hs k hm (List.getElem?_eq_getElem h1)
      have e2 : phi ids ob.length j = ob.length + (j - ids.length) := by simp [phi, h2]
      omega
    · have e1 := phi_old h hn hs k hm (List.getElem?_eq_getElem h2)
      have e3 := ids_lt h hn hs k hm (List.getElem?_eq_getElem h2)
      have e2 : phi ids ob.length i = ob.length + (i - ids.length) := by simp [phi, h1]
      omega
    · have e1 : phi ids ob.length i = ob.length + (i - ids.length) := by simp [phi, h1]
      have e2 : phi ids ob.length j = ob.length + (j - ids.length) := by simp [phi, h2]
      omega
  have hphim : ∀ {i : Nat}, phi ids ob.length i < ob.length → i < ids.length ∧ phi ids ob.length i ∈ ids := by
    intro i hi
    by_cases h1 : i < ids.length
    · exact ⟨h1, by rw [phi_old h hn hs k hm (List.getElem?_eq_getElem h1)]; simp⟩
    · have e2 : phi ids ob.length i = ob.length + (i - ids.length) := by simp [phi, h1]
      omega
  refine { ep := h.ep, os := k.os.trans h.os, tape := k.tape.trans h.tape, output := k.output.trans h.output, size := Nat.le_trans h.size hsz, block := ?_, pre := ?_, bsub := fun b hb => k.bsub b (h.bsub b hb), bnew := ?_,
           blt := k.blt, len := ?_, obs := ?_, dis := ?_, prv := ?_ }
  · intro b h1 h2
    refine (hblk b (Nat.lt_of_lt_of_le h1 h.size) fun hx => ?_).trans (h.block b h1 h2)
    obtain ⟨_, _, j, o', v, _, g2, g3, g4, g5⟩ := after_old h hn hs k hm hx
    rcases (h.prv j o' v b g2 g3 g4 g5).2.2 with q | q
    · omega
    · exact h2.1 q.x
  · intro j v h1 h2
    have hv := h.pre j v h1 h2
    have hjl := get_lt hv
    rw [List.getElem?_append_left (by rw [setAll_len]; exact hjl)]
    by_cases hmem : j ∈ ids
    · obtain ⟨i, hil, hi⟩ := List.getElem_of_mem hmem
      have hi' : ids[i]? = some j := by rw [List.getElem?_eq_getElem hil, hi]
      exact setAll_at ρ ids σ' hn hi' hjl (k.pre i v (.inl ((pick_at h hs hi').trans hv)) h2)
    · rw [setAll_not ρ ids σ' hmem]; exact hv
  · intro b hb
    rcases k.bnew b hb with h1 | h1
    · exact h.bnew b h1
    · exact .inr (Nat.le_trans h.size h1)
  · simp only [obAfter, List.length_append, setAll_len, List.length_map, List.length_drop, k.len, h.len]
  · intro j o hj
    rcases obAfter_get h hn hs k hm hj with ⟨i, o', h1, rfl, rfl⟩ | ⟨o', h1, rfl, hni⟩
    · have ho := k.obs i o' h1
      have hρ : ∀ (k : Nat) (v : Value), σ'[k]? = some v → (setAll ρ ids σ' ++ σ'.drop ids.length)[phi ids ob.length k]? = some v := fun _ _ hv => rho_phi h hn hs k hm hv
      cases o' with
      | gone => trivial
      | box T cs =>
        obtain ⟨b, vs, fz, r1, r2, r3, r4, r5⟩ := ho
        refine ⟨b, vs, fz, hρ _ _ r1, r2, r3, (r4.ren hρ).mono (fun _ h => h) (fun _ _ => rfl) (Nat.le_refl _) (fun _ _ h => h), ?_⟩
        intro c hc
        rw [AV.renL_map, List.mem_map] at hc
        obtain ⟨c', hc', rfl⟩ := hc
        rw [AV.ren_oc]; exact r5 c' hc'
      | row T sz xs =>
        obtain ⟨h0, ho⟩ := ho
        refine ⟨?_, ?_⟩
        · intro x hx
          rw [AV.renL_map, List.mem_map] at hx
          obtain ⟨x', hx', rfl⟩ := hx
          rw [AV.ren_cells]
          refine ⟨by simpa using (h0 x' hx').1, ?_⟩
          intro c hc
          rw [List.mem_map] at hc
          obtain ⟨c', hc', rfl⟩ := hc
          rw [AV.ren_one]; exact (h0 x' hx').2 c' hc'
        · have hf : (AV.renL (phi ids ob.length) xs).flatMap AV.cells = AV.renL (phi ids ob.length) (xs.flatMap AV.cells) := by
            simp only [AV.renL_map, List.flatMap_map, List.map_flatMap]
            congr 1
            funext x
            exact AV.ren_cells _ x
          have hlen : (AV.renL (phi ids ob.length) xs).length = xs.length := by simp [AV.renL_map]
          rcases ho with ⟨e, ho⟩ | ⟨b, cap, vs, ws, fz, r1, r2, r3, r4, r5, r6⟩
          · subst e; exact .inl ⟨rfl, hρ _ _ ho⟩
          · refine .inr ⟨b, cap, vs, ws, fz, by rw [hlen]; exact hρ _ _ r1, r2, r3, by rw [hlen]; exact r4, r5, ?_⟩
            rw [hf]
            exact (r6.ren hρ).mono (fun _ h => h) (fun _ _ => rfl) (Nat.le_refl _) (fun _ _ h => h)
      | mp es =>
        obtain ⟨b, ms, c, r1, r2, r3⟩ := ho
        exact ⟨b, ms, c, hρ _ _ r1, r2, r3⟩
    · have hjl := get_lt h1
      have ho := h.obs j o' h1
      have hrv : ∀ {v : Value}, ρ[j]? = some v → (setAll ρ ids σ' ++ σ'.drop ids.length)[j]? = some v := fun {v} hv => by
        rw [List.getElem?_append_left (by rw [setAll_len, h.len]; exact hjl), setAll_not ρ ids σ' hni]; exact hv
      have hbl : ∀ {v : Value} {b : Nat}, o'.live = true → ρ[j]? = some v → blk v = some b → w'.heap[b]? = w.heap[b]? := fun {v b} hl hv hb => by
        refine hblk b (h.prv j o' v b h1 hl hv hb).2.1 fun hx => ?_
        obtain ⟨_, _, j2, o2, v2, m2, g2, g3, g4, g5⟩ := after_old h hn hs k hm hx
        exact h.dis j j2 o' o2 v v2 b (by rintro rfl; exact hni m2) h1 hl g2 g3 hv g4 hb g5
      cases o' with
      | gone => trivial
      | mp es =>
        obtain ⟨b, ms, c, r1, r2, r3⟩ := ho
        exact ⟨b, ms, c, hrv r1, (hbl rfl r1 rfl).trans r2, r3⟩
      | box T cs =>
        obtain ⟨b, vs, fz, r1, r2, r3, r4, r5⟩ := ho
        refine ⟨b, vs, fz, hrv r1, (hbl rfl r1 rfl).trans r2, r3, ?_, ?_⟩
        · have key : ∀ {cs : List AV} {vs : List Value}, RelL w B E.bs ρ cs vs → RelL w' B' E.bs (setAll ρ ids σ' ++ σ'.drop ids.length) (cs.map (AV.invalL (rowIds ids τ))) vs := by
            intro cs
            induction cs with
            | nil => intro vs hr; cases hr; exact .nil
            | cons c cs ih => intro vs hr; cases hr with | cons a1 a2 => exact .cons (inval_rel h hn hs k hm a1) (ih a2)
          exact key r4
        · intro c hc
          rw [List.mem_map] at hc
          obtain ⟨c', hc', rfl⟩ := hc
          unfold AV.invalL
          split
          · exact r5 c' hc'
          · split
            · exact r5 c' hc'
            · rfl
      | row T sz xs =>
        have hkeep : ∀ {xs' : List AV} {vs : List Value}, (rowIds ids τ = [] ∨ AV.idsOkL (fun k => !(rowIds ids τ).contains k) xs' = true) → RelL w B E.bs ρ xs' vs → RelL w' B' E.bs (setAll ρ ids σ' ++ σ'.drop ids.length) xs' vs := by
          intro xs'
          induction xs' with
          | nil => intro vs _ hr; cases hr; exact .nil
          | cons c cs ih =>
            intro vs hh hr
            cases hr with
            | cons a1 a2 =>
              refine .cons ?_ (ih (hh.imp id fun hh => by simp only [AV.idsOkL, Bool.and_eq_true] at hh; exact hh.2) a2)
              have := inval_rel h hn hs k hm a1
              unfold AV.invalL at this
              rcases hh with hh | hh
              · rwa [if_pos hh] at this
              · simp only [AV.idsOkL, Bool.and_eq_true] at hh
                split at this
                · exact this
                · rwa [if_pos hh.1] at this
        have cellsOk : ∀ xs : List AV, AV.idsOkL (fun k => !(rowIds ids τ).contains k) xs = true → AV.idsOkL (fun k => !(rowIds ids τ).contains k) (xs.flatMap AV.cells) = true := by
          intro xs hx
          rw [AV.idsOkL_iff] at hx ⊢
          intro c hc
          simp only [List.mem_flatMap] at hc
          obtain ⟨x, hx', hc⟩ := hc
          have := hx x hx'
          rw [← AV.idsOkL_cells, AV.idsOkL_iff] at this
          exact this c hc
        have main : (rowIds ids τ = [] ∨ AV.idsOkL (fun k => !(rowIds ids τ).contains k) xs = true) → RO w' B' E.bs (setAll ρ ids σ' ++ σ'.drop ids.length) j (.row T sz xs) := by
          intro hh
          obtain ⟨h0, ho⟩ := ho
          refine ⟨h0, ?_⟩
          rcases ho with ⟨e, ho⟩ | ⟨b, cap, vs, ws, fz, r1, r2, r3, r4, r5, r6⟩
          · exact .inl ⟨e, hrv ho⟩
          · exact .inr ⟨b, cap, vs, ws, fz, hrv r1, (hbl rfl r1 rfl).trans r2, r3, r4, r5, hkeep (hh.imp id (cellsOk xs)) r6⟩
        simp only [Ob.invalL]
        split
        · rename_i he; exact main (.inl he)
        · split
          · rename_i hid; exact main (.inr hid)
          · trivial
  · intro i j o1 o2 u v b hij h1 l1 h2 l2 r1 r2 b1 b2
    rcases obAfter_get h hn hs k hm h1 with ⟨i1, p1, g1, rfl, rfl⟩ | ⟨p1, g1, rfl, n1⟩ <;> rcases obAfter_get h hn hs k hm h2 with ⟨i2, p2, g2, rfl, rfl⟩ | ⟨p2, g2, rfl, n2⟩
    · have e1 := rho_at h hn hs k hm (get_lt g1) r1
      have e2 := rho_at h hn hs k hm (get_lt g2) r2
      exact k.dis i1 i2 p1 p2 u v b (by rintro rfl; exact hij rfl) g1 (ren_live h hn hs k hm l1) g2 (ren_live h hn hs k hm l2) e1 e2 b1 b2
    · have e1 := rho_at h hn hs k hm (get_lt g1) r1
      have e2 := rho_not h hn hs k hm n2 (get_lt g2) r2
      have l2' := invalL_live h hn hs k hm l2
      have q2 := (h.prv j p2 v b g2 l2' e2 b2).2.1
      rcases (after_at h hn hs k hm g1 (ren_live h hn hs k hm l1) e1 b1).2.2 with q | ⟨o', u', q1, q3, q4, q5, q6⟩
      · omega
      · exact h.dis _ j o' p2 u' v b (by rintro rfl; exact n2 q6) q1 q3 g2 l2' q4 e2 q5 b2
    · have e2 := rho_at h hn hs k hm (get_lt g2) r2
      have e1 := rho_not h hn hs k hm n1 (get_lt g1) r1
      have l1' := invalL_live h hn hs k hm l1
      have q2 := (h.prv i p1 u b g1 l1' e1 b1).2.1
      rcases (after_at h hn hs k hm g2 (ren_live h hn hs k hm l2) e2 b2).2.2 with q | ⟨o', u', q1, q3, q4, q5, q6⟩
      · omega
      · exact h.dis _ i o' p1 u' u b (by rintro rfl; exact n1 q6) q1 q3 g1 l1' q4 e1 q5 b1
    · exact h.dis i j p1 p2 u v b hij g1 (invalL_live h hn hs k hm l1) g2 (invalL_live h hn hs k hm l2) (rho_not h hn hs k hm n1 (get_lt g1) r1) (rho_not h hn hs k hm n2 (get_lt g2) r2) b1 b2
  · intro j o v b h1 l1 r1 b1
    rcases obAfter_get h hn hs k hm h1 with ⟨i1, p1, g1, rfl, rfl⟩ | ⟨p1, g1, rfl, n1⟩
    · obtain ⟨q1, q2, q3⟩ := after_at h hn hs k hm g1 (ren_live h hn hs k hm l1) (rho_at h hn hs k hm (get_lt g1) r1) b1
      refine ⟨q1, q2, ?_⟩
      rcases q3 with q3 | ⟨o', u', q3, q4, q5, q6, _⟩
      · exact .inl (Nat.le_trans h.size q3)
      · exact (h.prv _ o' u' b q3 q4 q5 q6).2.2
    · obtain ⟨q1, q2, q3⟩ := h.prv j p1 v b g1 (invalL_live h hn hs k hm l1) (rho_not h hn hs k hm n1 (get_lt g1) r1) b1
      refine ⟨fun hB => ?_, Nat.lt_of_lt_of_le q2 hsz, q3⟩
      rcases k.bnew b hB with q | q
      · exact q1 q
      · have q : w.heap.size ≤ b := q
        omega
end after
end
set_option linter.unusedVariables false
set_option linter.unusedSectionVars false
set_option linter.unusedSimpArgs false
set_option linter.unnecessarySimpa false
section
variable {P : Program} {ops : Array Oper} {E : Env} {s s' : AS} {ρ σ σ' : List Value} {B B' : Nat → Prop} {a : Act} {w w' : World} {o : Oper} {rest : List Oper} {Q : AS → Prop}
def frInvalL (rk : List Nat) (fr : List (Nat × AV)) : List (Nat × AV) := if rk = [] then fr else fr.map fun p => (p.1, p.2.invalL rk)
theorem frInvalL_mem {rk : List Nat} {fr : List (Nat × AV)} {t : Nat} {x : AV} (h : (t, x) ∈ frInvalL rk fr) : ∃ y, (t, y) ∈ fr ∧ x = y.invalL rk := by
  unfold frInvalL at h
  split at h
  · rename_i he
    exact ⟨x, h, by simp [AV.invalL, he]⟩
  · simp only [List.mem_map] at h
    obtain ⟨⟨t', y⟩, h1, h2⟩ := h
    simp only [Prod.mk.injEq] at h2
    obtain ⟨rfl, rfl⟩ := h2
    exact ⟨y, h1, rfl⟩
theorem RS.after {ids : List Nat} {τ τ' : List Ob} (h : RS E s ρ B a w) (hn : ids.Nodup) (hs : SubOL ids s.ob ids τ) (k : RW (E0 E.bs w B (pick ρ ids)) τ' σ' B' w') (hm : ids.length ≤ τ'.length) :
    RS E { s with ob := obAfter s.ob ids τ τ', fr := frInvalL (rowIds ids τ) s.fr } (setAll ρ ids σ' ++ σ'.drop ids.length) B' a w' := by
  have hw := RW.after h.rw_ hn hs k hm
  refine ⟨hw, h.m, h.n, h.df, h.jj.chg ⟨k.os, k.tape, k.output, k.size, ?_, ?_, k.bsub, ?_⟩ hw.bd, ?_⟩
  · intro b hb hd
    refine k.block b hb ⟨fun hx => ?_, by simp⟩
    obtain ⟨_, _, j, o', v, _, g2, g3, g4, g5⟩ := after_old h.rw_ hn hs k hm hx
    exact hd ⟨j, o', v, g2, g3, g4, g5⟩
  · rintro b ⟨j, o, v, h1, l1, r1, b1⟩
    rcases obAfter_get h.rw_ hn hs k hm h1 with ⟨i1, p1, g1, rfl, rfl⟩ | ⟨p1, g1, rfl, n1⟩
    · rcases (after_at h.rw_ hn hs k hm g1 (ren_live h.rw_ hn hs k hm l1) (rho_at h.rw_ hn hs k hm (get_lt g1) r1) b1).2.2 with q3 | ⟨o', u', q3, q4, q5, q6, _⟩
      · exact .inr q3
      · exact .inl ⟨_, o', u', q3, q4, q5, q6⟩
    · exact .inl ⟨j, p1, v, g1, invalL_live h.rw_ hn hs k hm l1, rho_not h.rw_ hn hs k hm n1 (get_lt g1) r1, b1⟩
  · intro b hb
    exact (k.bnew b hb).elim .inl fun h => .inr (.inr h)
  · intro t x hmem
    obtain ⟨y, hy, rfl⟩ := frInvalL_mem hmem
    obtain ⟨h1, h2⟩ := h.rf t y hy
    exact ⟨h1, inval_rel h.rw_ hn hs k hm h2⟩
theorem pick_nB {ob : List Ob} {ids : List Nat} {τ : List Ob} (h : RW E ob ρ B w) (hs : SubOL ids ob ids τ) {v : Value} {b : Nat} (hv : v ∈ pick ρ ids) (hbv : blk v = some b) : ¬ B b := by
  obtain ⟨i, hil, hi⟩ := List.getElem_of_mem hv
  have hi' : (pick ρ ids)[i]? = some v := by rw [List.getElem?_eq_getElem hil, hi]
  have hil2 : i < ids.length := by simpa [pick] using hil
  obtain ⟨j, o', g1, g2, g3, _⟩ := hs.at (List.getElem?_eq_getElem (show i < τ.length by rw [← hs.len]; exact hil2))
  have hv' := (pick_at h hs g1).symm.trans hi'
  exact (h.prv j o' v b g2 g3 hv' hbv).1
theorem AOp.callO {f : FuncId} {g : Operand} {cap : List AV} {args : Array Operand} {ts : Array TypeId} {ys : List AV} {τ : List Ob} {R : AV → List Ob → Prop} (ids : List Nat)
    (ho : o.op = .call { callee := .value g, args := args, argTypes := ts }) (hg : s.ev g = .fn (.func f) [] cap) (hc : callable P f = true) (hp : ACalls P f ys τ R) (hn : ids.Nodup) (hs : SubOL ids s.ob ids τ)
    (hsub : SubXL ids (args.toList.map s.ev ++ cap) ys) (hm : ∀ r τ', R r τ' → ids.length ≤ τ'.length)
    (k : ∀ r τ', R r τ' → ARun P ops rest ({ s with ob := obAfter s.ob ids τ τ', fr := frInvalL (rowIds ids τ) s.fr }.put o.dst (r.ren (phi ids s.ob.length))) Q) : AOp P ops o rest s Q := by
  intro E hE ρ B a w hrs Q' hQ
  have hfn := hrs.ev g
  rw [hg] at hfn
  obtain ⟨v, hv⟩ : ∃ v, a.eval g = v := ⟨_, rfl⟩
  rw [hv] at hfn
  cases hfn with
  | fn r1 r2 =>
    rename_i cs ds
    cases r1
    have he : (execOp a.eval o).run P w = .ok (.enter f (args.map a.eval ++ ds.toArray)) w := by
      simp only [execOp, ho]; exact run_callV hc (by simpa using hv)
    have hrel : RelL w B E.bs ρ (args.toList.map s.ev ++ cap) (args.toList.map a.eval ++ ds) := (RelL.map_ev hrs _).append r2
    refine owp_enter he ?_
    have hargs : args.map a.eval ++ ds.toArray = (args.toList.map a.eval ++ ds).toArray := by apply Array.ext'; simp
    rw [hargs]
    refine hp E.bs w (pick ρ ids) B _ (hE.glb.call hrs.rw_ (fun _ h => h) (fun v hv b hb => pick_nB hrs.rw_ hs hv hb)) (hrs.rw_.give hn hs) (hsub.rel (Nat.le_refl _) (fun i k hi => pick_at hrs.rw_ hs hi) hrel) _ ?_
    intro r' v τ' σ' B' w' hR hw hv
    have hml := hm r' τ' hR
    have hs' := hrs.after hn hs hw hml
    refine ⟨v, rfl, k r' τ' hR E hE _ B' _ w' (hs'.put o.dst ?_) Q' hQ⟩
    refine (hv.mono (fun _ h => h) (fun _ _ => rfl) (Nat.le_refl _) (fun _ _ h => h)).ren ?_
    intro i u hu
    exact rho_phi hrs.rw_ hn hs hw hml hu
def OC (P : Program) (f : FuncId) (ys : List AV) (τ : List Ob) (r : AV) (τ' : List Ob) : Prop := ACalls P f ys τ fun r' t => r' = r ∧ t = τ'
theorem ARun2.callO {f : FuncId} {g : Operand} {cap : List AV} {args : Array Operand} {ts : Array TypeId} {ys : List AV} {τ τ' : List Ob} {r : AV} (ids : List Nat) (hp : OC P f ys τ r τ') (hgd : gd ops s o = some true)
    (ho : o.op = .call { callee := .value g, args := args, argTypes := ts }) (hg : s.ev g = .fn (.func f) [] cap) (hc : callable P f = true) (hn : ids.Nodup) (hs : SubOL ids s.ob ids τ)
    (hsub : SubXL ids (args.toList.map s.ev ++ cap) ys) (hm : ids.length ≤ τ'.length)
    (k : ARun P ops rest ({ s with ob := obAfter s.ob ids τ τ', fr := frInvalL (rowIds ids τ) s.fr }.put o.dst (r.ren (phi ids s.ob.length))) Q) : ARun2 P ops (o :: rest, s) Q :=
  ARun.exec hgd (AOp.callO ids ho hg hc hp hn hs hsub (by rintro _ _ ⟨rfl, rfl⟩; exact hm) (by rintro _ _ ⟨rfl, rfl⟩; exact k))
theorem RW.sel {ob : List Ob} {ids : List Nat} {τ : List Ob} (h : RW E ob ρ B w) (hn : ids.Nodup) (hs : SubOL ids ob ids τ) (h0 : ∀ k, k < max E.ρ0.length E.pp.length → ids[k]? = some k) : RW E τ (pick ρ ids) B w := by
  have hp := fun {i k : Nat} (hi : ids[i]? = some k) => pick_at h hs hi
  refine { ep := h.ep, os := h.os, tape := h.tape, output := h.output, size := h.size, block := h.block, pre := ?_, bsub := h.bsub, bnew := h.bnew,
           blt := h.blt, len := by simp [pick, hs.len], obs := ?_, dis := ?_, prv := ?_ }
  · intro k v hk hv
    have hlt : k < max E.ρ0.length E.pp.length := by rcases hk with hk | hk <;> have := get_lt hk <;> omega
    exact (hp (h0 k hlt)).trans (h.pre k v hk hv)
  · intro i o hi
    obtain ⟨j, o', h1, h2, h3, h4⟩ := hs.at hi
    have hj := hp h1
    have ho := h.obs j o' h2
    cases o with
    | gone => trivial
    | box T cs =>
      cases o' with
      | box T' cs' =>
        obtain ⟨rfl, h5, h6⟩ := h4
        obtain ⟨b, vs, fz, r1, r2, r3, r4, r5⟩ := ho
        exact ⟨b, vs, fz, hj.trans r1, r2, r3, h5.rel (Nat.le_refl _) (fun i k hik => hp hik) r4, fun c hc => List.all_eq_true.1 h6 c hc⟩
      | _ => exact h4.elim
    | row T sz xs =>
      cases o' with
      | row T' sz' xs' =>
        obtain ⟨rfl, rfl, rfl, h5⟩ := h4
        obtain ⟨h0, ho⟩ := ho
        refine ⟨h0, ?_⟩
        rcases ho with ⟨e, ho⟩ | ⟨b, cap, vs, ws, fz, r1, r2, r3, r4, r5, r6⟩
        · exact .inl ⟨e, hj.trans ho⟩
        · exact .inr ⟨b, cap, vs, ws, fz, hj.trans r1, r2, r3, r4, r5, r6.pl (plL_flat h5)⟩
      | _ => exact h4.elim
    | mp es =>
      cases o' with
      | mp es' =>
        obtain rfl := h4
        obtain ⟨b, ms, c, r1, r2, r3⟩ := ho
        exact ⟨b, ms, c, hj.trans r1, r2, r3⟩
      | _ => exact h4.elim
  · intro i j o1 o2 u v b hij h1 _ h2 _ h3 h4 h5
    obtain ⟨k1, o1', g1, g2, g3, _⟩ := hs.at h1
    obtain ⟨k2, o2', g4, g5, g6, _⟩ := hs.at h2
    refine h.dis k1 k2 o1' o2' u v b ?_ g2 g3 g5 g6 ((hp g1).symm.trans h3) ((hp g4).symm.trans h4) h5
    rintro rfl
    exact hij ((List.getElem?_inj (get_lt g1) hn).1 (g1.trans g4.symm))
  · intro i o v b h1 h2 h3 h4
    obtain ⟨k, o', g1, g2, g3, _⟩ := hs.at h1
    obtain ⟨q1, q2, q3⟩ := h.prv k o' v b g2 g3 ((hp g1).symm.trans h3) h4
    refine ⟨q1, q2, q3.imp id ?_⟩
    rintro ⟨v0, e1, e2⟩
    -- an object that was handed keeps its number
    have hk : k < max E.ρ0.length E.pp.length := by have := get_lt e1; omega
    have hki := h0 k hk
    have : i = k := (List.getElem?_inj (get_lt g1) hn).1 (g1.trans hki.symm)
    subst this
    exact ⟨v0, e1, e2⟩
def endO (ids : List Nat) (r0 : AV) (τ' : List Ob) (r : AV) (s : AS) : Prop := ids.Nodup ∧ SubOL ids s.ob ids τ' ∧ SubX ids r r0
theorem OC.of_body {f : FuncId} {fn : Func} {c : Code} {args : List AV} {τ τ' : List Ob} {r0 : AV} (ids : List Nat) (h0 : ∀ k, k < τ.length → ids[k]? = some k) (hf : P.funcs[f]? = some fn) (hb : fn.body = some c) (hn : args.length ≤ fn.ntmps)
    (h : AWp P c { n := fn.ntmps, m := τ.length, fr := frOf 0 args, ob := τ } (bodyQ P fn (endO ids r0 τ'))) : OC P f args τ r0 τ' := by
  intro ep w ρ B vs hg hw hr R' hR'
  have hs := RS.init (n := fn.ntmps) hw hr (by rw [← hr.length_eq]; exact hn)
  refine calls_body (E0.ok ep w B ρ P hg) rfl hf hb (by simpa using hs) h ?_
  rintro r v s' ρ' B' a' w' ⟨e1, e2, e3⟩ hs' hv
  refine hR' r0 v τ' (pick ρ' ids) B' w' ⟨rfl, rfl⟩ (hs'.rw_.sel e1 e2 (fun k hk => h0 k (by simpa [hw.len] using hk))) ?_
  exact e3 _ _ _ _ _ _ _ (Nat.le_refl _) (fun i k hi => pick_at hs'.rw_ e2 hi) hv
end
set_option linter.unusedVariables false
set_option linter.unusedSectionVars false
set_option linter.unusedSimpArgs false
set_option linter.unnecessarySimpa false
def bys (l : List UInt8) : List AV := l.map fun b => .val (.int .u8 (N b.toNat))
@[push_cast] theorem bys_nil : bys [] = [] := rfl
@[push_cast] theorem bys_len (l : List UInt8) : (bys l).length = l.length := by simp [bys]
@[push_cast] theorem bys_ids (p : Nat → Bool) (l : List UInt8) : AV.idsOkL p (bys l) = true := by
  rw [AV.idsOkL_iff]; intro x hx; simp only [bys, List.mem_map] at hx; obtain ⟨b, _, rfl⟩ := hx; rfl
@[push_cast] theorem bys_pl (l : List UInt8) : AV.plL (bys l) = true := by
  rw [AV.plL_iff]; intro x hx; simp only [bys, List.mem_map] at hx; obtain ⟨b, _, rfl⟩ := hx; rfl
@[push_cast] theorem bys_ren (φ : Nat → Nat) (l : List UInt8) : AV.renL φ (bys l) = bys l := AV.renL_closed φ _ (bys_ids _ l)
theorem bys_append (l m : List UInt8) : bys l ++ bys m = bys (l ++ m) := by simp [bys]
@[push_cast] theorem bys_get (l : List UInt8) (i : Nat) : (bys l)[i]? = l[i]?.map fun b => .val (.int .u8 (N b.toNat)) := by simp [bys]
theorem bys_drop (l : List UInt8) (i : Nat) : (bys l).drop i = bys (l.drop i) := by simp [bys, List.map_drop]
theorem bys_take (l : List UInt8) (i : Nat) : (bys l).take i = bys (l.take i) := by simp [bys, List.map_take]
section
variable {P : Program} {ops : Array Oper} {E : Env} {s s' : AS} {ρ : List Value} {B : Nat → Prop} {a : Act} {w w' : World} {o : Oper} {rest : List Oper} {Q : AS → Prop}
theorem AOp.buildOwn {T e : TypeId} {len sz : Nat} {parts : Array (Nat × Operand)} (ho : o.op = .buildSlice T len parts) (hz : elSz P T = some sz) (he : elT P T = some e)
    (hp : parts.toList.map (·.1) = List.range len) (hx : ∀ p ∈ parts.toList, (s.ev p.2).flat = true ∧ (s.ev p.2).cells.length = sz) (hle : len * sz ≤ 2 ^ 24)
    (k : ARun P ops rest (({ s with ob := s.ob ++ [Ob.row e sz (parts.toList.map fun p => s.ev p.2)] } : AS).put o.dst (.own s.ob.length)) Q) : AOp P ops o rest s Q := by
  refine AOp.value (s' := { s with ob := s.ob ++ [.row e sz (parts.toList.map fun p => s.ev p.2)] }) (fun E ρ B a w hs => ?_) k
  obtain ⟨e', vs, hu, hr, hrel, h1, hvl⟩ := run_buildSlice hz hp hx hle hs
  have hee : e' = e := by
    have := elT_spec he
    rw [hu] at this
    simpa using this
  subst hee
  have hn : parts.toList.length = len := by have := congrArg List.length hp; simpa using this
  have hsame := same_alloc w (.cells (List.toArray vs) e')
  have hBw : ∀ b, B b → (w.alloc (.cells (List.toArray vs) e')).heap[b]? = w.heap[b]? := fun b hb => hsame.block b (hs.rw_.blt b hb)
  refine ⟨.slice (some ⟨w.heap.size, 0, none⟩) len len, _, ρ ++ [.slice (some ⟨w.heap.size, 0, none⟩) len len], B, by simp only [execOp, ho]; exact val_run hr, hs.new hsame ⟨?_, .inr ⟨w.heap.size, len, vs, [], (0, 0), ?_, ?_, ?_, ?_, .inl (Nat.le_refl _), ?_⟩⟩ ?_, .own ?_ rfl⟩
  · intro x hx'
    simp only [List.mem_map] at hx'
    obtain ⟨p, hpm, rfl⟩ := hx'
    refine ⟨(hx p hpm).2, fun c hc => h1 c ?_⟩
    simp only [List.mem_flatMap, List.mem_map]
    exact ⟨_, ⟨p, hpm, rfl⟩, hc⟩
  · have hl : (List.map (fun p => s.ev p.2) parts.toList).length = len := by simpa using hn
    rw [hl, ← hs.rw_.len, List.getElem?_append_right (Nat.le_refl _), Nat.sub_self]; rfl
  · rw [List.append_nil]; exact alloc_get _ _
  · rw [List.append_nil]; exact hvl
  · have hl : (List.map (fun p => s.ev p.2) parts.toList).length = len := by simpa using hn
    rw [hl]; exact Nat.le_refl _
  · exact hrel.mono (fun _ h => h) hBw (Nat.le_refl _) (fun _ _ h => get_append_some h)
  · intro b hb
    simp only [blk, Option.some.injEq] at hb
    subst hb
    exact ⟨Nat.le_refl _, by simp⟩
  · rw [← hs.rw_.len, List.getElem?_append_right (Nat.le_refl _), Nat.sub_self]; rfl
theorem ARun2.buildOwn {T e : TypeId} {len sz : Nat} {parts : Array (Nat × Operand)} (hgd : gd ops s o = some true) (ho : o.op = .buildSlice T len parts) (hz : elSz P T = some sz) (he : elT P T = some e)
    (hp : parts.toList.map (·.1) = List.range len) (hx : ∀ p ∈ parts.toList, (s.ev p.2).flat = true ∧ (s.ev p.2).cells.length = sz) (hle : len * sz ≤ 2 ^ 24)
    (k : ARun P ops rest (({ s with ob := s.ob ++ [Ob.row e sz (parts.toList.map fun p => s.ev p.2)] } : AS).put o.dst (.own s.ob.length)) Q) : ARun2 P ops (o :: rest, s) Q :=
  ARun.exec hgd (AOp.buildOwn ho hz he hp hx hle k)
theorem AOp.nilSl {T : TypeId} {x : Operand} {nw : Bool} {sz : Nat} {xs : List AV} {v : Value} {X : TypeId} {eq : BinOp} (ho : o.op = .binOp eq T x (.const v) X) (heq : eq = .eql ∨ eq = .neq) (hx : s.ev x = .sl nw sz xs) (hk : nk P T = .slc) (hl : nilLit (nk P T) v = true)
    (k : ∀ b : Bool, (b = true → xs = []) → ARun P ops rest (s.put o.dst (.val (.bool (if eq = .eql then b else !b)))) Q) : AOp P ops o rest s Q := by
  intro E hE ρ B a w hs Q' hQ
  have hxv := hs.ev x
  rw [hx] at hxv
  have main : ∃ b : Bool, (b = true → xs = []) ∧ nilV (nk P T) (a.eval x) b := by
    rw [hk]
    generalize a.eval x = u at hxv
    cases hxv with
    | slE _ _ A cap =>
      cases A with
      | none => exact ⟨true, fun _ => rfl, rfl⟩
      | some A => exact ⟨false, by simp, rfl⟩
    | sl h hc => exact ⟨false, by simp, rfl⟩
  obtain ⟨b, hb, hn⟩ := main
  obtain ⟨n1, n2, n3⟩ := nil_eq (w := w) (P := P) (T := T) hl hn
  have hr : (execOp a.eval o).run P w = .ok (.value (.bool (if eq = .eql then b else !b))) w := by
    simp only [execOp, ho]
    refine val_run ?_
    have hc : a.eval (.const v) = v := rfl
    rcases heq with rfl | rfl
    · simp only [Sem.run_bind, hc, n3, Result.andThen_ok]; exact n1
    · simp only [Sem.run_bind, hc, n3, Result.andThen_ok]; exact n2
  exact owp_value hr (k b hb E hE ρ B _ w (hs.put _ (.val _)) Q' hQ)
theorem ARun2.nilSl {T : TypeId} {x : Operand} {nw : Bool} {sz : Nat} {xs : List AV} {v : Value} {X : TypeId} {eq : BinOp} (hgd : gd ops s o = some true) (ho : o.op = .binOp eq T x (.const v) X) (heq : eq = .eql ∨ eq = .neq) (hx : s.ev x = .sl nw sz xs) (hk : nk P T = .slc) (hl : nilLit (nk P T) v = true)
    (k : ∀ b : Bool, (b = true → xs = []) → ARun P ops rest (s.put o.dst (.val (.bool (if eq = .eql then b else !b)))) Q) : ARun2 P ops (o :: rest, s) Q :=
  ARun.exec hgd (AOp.nilSl ho heq hx hk hl k)
theorem make_run {T : TypeId} {x y : Operand} {k1 k2 : IntKind} {n : Nat} {z : Value} (hs : RS E s ρ B a w) (ho : o.op = .makeSlice T x y) (hx : s.ev x = .val (.int k1 n)) (hy : s.ev y = .val (.int k2 n)) (hz : elSz P T = some 1) (hzc : (elT P T).bind (zc P) = some [z])
    (hn : n ≤ 2 ^ 31) (hb : elB P T ≤ 2 ^ 10) : ∃ e', (execOp a.eval o).run P w = .ok (.value (.slice (some ⟨w.heap.size, 0, none⟩) n n)) (w.alloc (.cells (List.replicate n z).toArray e')) ∧
      Rel (w.alloc (.cells (List.replicate n z).toArray e')) (fun b => B b ∨ b = w.heap.size) E.bs ρ (.sl true 1 (List.replicate n (.val z))) (.slice (some ⟨w.heap.size, 0, none⟩) n n) ∧ elT P T = some e' ∧ (AV.val z).one = true := by
  obtain ⟨e', i, zv, hu, hi, hsz, hzz, hzl, hz1⟩ := elSz_spec hz
  have hT : elT P T = some e' := by simp [elT, hu]
  rw [hT] at hzc
  have hzv : zv.cells = #[z] := by
    simp only [Option.bind_some, zc, hi, hzz] at hzc
    split at hzc <;> simp only [Option.some.injEq, reduceCtorEq] at hzc
    apply Array.ext'; simpa using hzc
  have hxv := (hx ▸ hs.ev x : Rel w B E.bs ρ (.val (.int k1 n)) (a.eval x)).val_eq
  have hyv := (hy ▸ hs.ev y : Rel w B E.bs ρ (.val (.int k2 n)) (a.eval y)).val_eq
  have hbe : elB P T = i.bytes := elB_spec hu hi
  have hw : IntKind.i64.wrap (n : Int) = n := by rw [IntKind.wrap_i64]; omega
  have hmul : n * i.bytes ≤ 2 ^ 31 * 2 ^ 10 := Nat.mul_le_mul hn (hbe ▸ hb)
  have hcells : ((Array.range n).map fun j => (if n = 0 then (#[] : Array Value) else zv.cells)[j % (if n = 0 then (#[] : Array Value) else zv.cells).size]!) = (List.replicate n z).toArray := by
    apply Array.ext'
    by_cases h0 : n = 0
    · subst h0; simp
    · simp only [if_neg h0, hzv]
      apply List.ext_getElem
      · simp
      · intro j h1 h2
        simp [Nat.mod_one]
  have hrun : (Instr.makeSlice T (a.eval x) (a.eval y)).run P w = .ok (.slice (some ⟨w.heap.size, 0, none⟩) n n) (w.alloc (.cells (List.replicate n z).toArray e')) := by
    have h48 : ¬ ((i.bytes : Int) * n > 2 ^ 48) := by
      rw [← Int.natCast_mul, Nat.mul_comm]
      omega
    have hroom : ¬ (n * i.bytes > roomBytes) := by unfold roomBytes; omega
    have hzr : (zeroValue e').run P w = .ok zv w := by simp [zeroValue, typeInfo, hi, hzz]
    have hask : (askRoom (n * i.bytes)).run P w = .ok () w := by unfold askRoom; rw [if_neg hroom]; rfl
    have hti : (typeInfo e').run P w = .ok i w := by simp [typeInfo, hi]
    have hai : ∀ k, (asInt (.int k (n : Int))).run P w = .ok (n : Int) w := fun k => by simp [asInt, asIntOf]
    have hd1 : decide ((n : Int) < 0) = false := by rw [decide_eq_false_iff_not]; omega
    have hd2 : decide ((i.bytes : Int) * n > 2 ^ 48) = false := by rw [decide_eq_false_iff_not]; exact h48
    have hd3 : decide ((n : Int) > n) = false := by rw [decide_eq_false_iff_not]; omega
    have hso := run_sizeOf (w := w) hi
    rw [hsz] at hso
    rw [hxv, hyv]
    unfold Instr.makeSlice
    simp only [Sem.run_bind, run_underlying hu, Result.andThen_ok, hai, hti, hw, hd1, hd2, hd3, Bool.or_false, Bool.false_eq_true, if_false, Int.toNat_natCast, hask, hso, Nat.mul_one]
    by_cases h0 : n = 0
    · subst h0
      have hr0 : ∀ f : Nat → Value, Array.map f (Array.range 0) = #[] := fun f => by apply Array.ext'; simp
      simp [newRow, Sem.run_pure, hr0]
    · simp only [if_neg h0, Sem.run_bind, hzr, Result.andThen_ok, Sem.run_pure]
      simp only [if_neg h0] at hcells
      rw [hcells]
      simp [newRow]
  have hsame := same_alloc w (.cells (List.replicate n z).toArray e')
  have hrl : ∀ m, RelL w B E.bs ρ (List.replicate m (AV.val z)) (List.replicate m z) := by
    intro m
    induction m with
    | zero => exact .nil
    | succ m ih => exact .cons (.val _) ih
  have hfl : (List.replicate n (AV.val z)).flatMap AV.cells = List.replicate n (AV.val z) := by
    clear hrun hcells hsame hx hy hxv hyv hw hmul hn
    induction n with
    | zero => rfl
    | succ n ih => rw [List.replicate_succ, List.flatMap_cons, ih]; rfl
  have hz1' : (AV.val z).one = true := by
    have := hz1 z (by rw [hzv]; simp)
    exact this
  have hrow := RelRow.fresh (sz := 1) (bs := E.bs) (xs := List.replicate n (AV.val z)) (n := n) (c := n) (e := e') hs.rw_.le hs.rw_.blt (by rw [hfl]; exact hrl n) (by
    intro y hy
    have := (List.mem_replicate.1 hy).2
    subst this
    exact ⟨rfl, by intro c hc; simp [AV.cells] at hc; subst hc; exact hz1'⟩) (by simp) (Nat.le_refl _) [] (0, 0) hsame (by rw [List.append_nil]; exact alloc_get _ _)
  exact ⟨e', by simp only [execOp, ho]; exact val_run hrun, hrow, hT, hz1'⟩
theorem AOp.make {T : TypeId} {x y : Operand} {k1 k2 : IntKind} {n : Nat} {z : Value} (ho : o.op = .makeSlice T x y) (hx : s.ev x = .val (.int k1 n)) (hy : s.ev y = .val (.int k2 n)) (hz : elSz P T = some 1) (hzc : (elT P T).bind (zc P) = some [z])
    (hn : n ≤ 2 ^ 31) (hb : elB P T ≤ 2 ^ 10) (k : ARun P ops rest (s.put o.dst (.sl true 1 (List.replicate n (.val z)))) Q) : AOp P ops o rest s Q := by
  refine AOp.value (s' := s) (fun E ρ B a w hs => ?_) k
  obtain ⟨e', h1, h2, _, _⟩ := make_run hs ho hx hy hz hzc hn hb
  exact ⟨_, _, ρ, _, h1, hs.pubNew (same_alloc w _) (Nat.le_refl _) (by simp), h2⟩
theorem NSpec.make {T : TypeId} {x y : Operand} {k1 k2 : IntKind} {n : Nat} {z : Value} (hg : gd ops s o = some true) (ho : o.op = .makeSlice T x y) (hx : s.ev x = .val (.int k1 n)) (hy : s.ev y = .val (.int k2 n)) (hz : elSz P T = some 1) (hzc : (elT P T).bind (zc P) = some [z])
    (hn : n ≤ 2 ^ 31) (hb : elB P T ≤ 2 ^ 10) : NSpec P ops o s (.sl true 1 (List.replicate n (.val z))) := by
  intro E hE ρ B a w ob hs K Q' hK
  rw [if_pos (gd_wanted (s := { s with ob := s.ob ++ ob }) hg hs)]
  have hev : AS.ev { s with ob := s.ob ++ ob } = s.ev := funext fun y => by cases y <;> rfl
  obtain ⟨e', h1, h2, _, _⟩ := make_run hs ho (by rw [hev]; exact hx) (by rw [hev]; exact hy) hz hzc hn hb
  have hsame := same_alloc w (.cells (List.replicate n z).toArray e')
  exact owp_value h1 (hK _ _ _ (hs.pubNew hsame (Nat.le_refl _) (by simp)).rj (fun _ h => .inl h) (fun b hb => hsame.block b (hs.rw_.blt b hb)) h2)
theorem ARun2.make {T : TypeId} {x y : Operand} {k1 k2 : IntKind} {n : Nat} {z : Value} (hgd : gd ops s o = some true) (ho : o.op = .makeSlice T x y) (hx : s.ev x = .val (.int k1 (N n))) (hy : s.ev y = .val (.int k2 (N n))) (hz : elSz P T = some 1) (hzc : (elT P T).bind (zc P) = some [z])
    (hn : n ≤ 2 ^ 31) (hb : elB P T ≤ 2 ^ 10) (k : ARun P ops rest (s.put o.dst (.sl true 1 (List.replicate n (.val z)))) Q) : ARun2 P ops (o :: rest, s) Q :=
  ARun.exec hgd (AOp.make ho hx hy hz hzc hn hb k)
end
set_option linter.unusedVariables false
set_option linter.unusedSectionVars false
set_option linter.unusedSimpArgs false
set_option linter.unnecessarySimpa false
mutual
def AV.psub (k : Nat) (r : AV) : AV → AV
  | .val v => .val v
  | .any => .any
  | .agg l => .agg (AV.psubL k r l)
  | .tup l => .tup (AV.psubL k r l)
  | .sl nw sz xs => .sl nw sz xs
  | .slc sz xs => .slc sz xs
  | .own j => .own j
  | .ptr j o => if j = k ∧ o = 0 then r else .ptr j o
  | .ept j o => .ept j o
  | .ref nw x => .ref nw x
  | .ifc t x => .ifc t (AV.psub k r x)
  | .fn f l m => .fn f (AV.psubL k r l) (AV.psubL k r m)
def AV.psubL (k : Nat) (r : AV) : List AV → List AV
  | [] => []
  | x :: xs => (AV.psub k r x) :: AV.psubL k r xs
end
section
variable {P : Program} {ops : Array Oper} {E : Env} {s s' : AS} {ρ : List Value} {B : Nat → Prop} {a : Act} {w w' : World} {o : Oper} {rest : List Oper} {Q : AS → Prop}
mutual
theorem Rel.psub {k : Nat} {r : AV} {u : Value} {bs : Nat} (hu : ρ[k]? = some u) (hr : Rel w B bs ρ r u) : ∀ {x : AV} {v : Value}, Rel w B bs ρ x v → Rel w B bs ρ (AV.psub k r x) v
  | _, _, .val v => .val v
  | _, _, .agg h => .agg (RelL.psub hu hr h)
  | _, _, .tup h => .tup (RelL.psub hu hr h)
  | _, _, .slE nw sz A cap => .slE nw sz A cap
  | _, _, .sl h hc => .sl h hc
  | _, _, .own h h1 => .own h h1
  | .ptr j o, _, .ptr (b := b) h => by
    simp only [AV.psub]
    split
    · rename_i e
      obtain ⟨rfl, rfl⟩ := e
      rw [hu] at h
      have := Option.some.inj h
      subst this
      exact hr
    · exact .ptr h
  | _, _, .ept h => .ept h
  | _, _, .ref h hn => .ref h hn
  | _, _, .ifc h => .ifc (Rel.psub hu hr h)
  | _, _, .fn h h2 => .fn (RelL.psub hu hr h) (RelL.psub hu hr h2)
  | _, _, .any v => .any v
  | _, _, .slc h => .slc h
theorem RelL.psub {k : Nat} {r : AV} {u : Value} {bs : Nat} (hu : ρ[k]? = some u) (hr : Rel w B bs ρ r u) : ∀ {xs : List AV} {vs : List Value}, RelL w B bs ρ xs vs → RelL w B bs ρ (AV.psubL k r xs) vs
  | _, _, .nil => .nil
  | _, _, .cons h h2 => .cons (Rel.psub hu hr h) (RelL.psub hu hr h2)
end
def frPsub (k : Nat) (r : AV) (fr : List (Nat × AV)) : List (Nat × AV) := fr.map fun p => (p.1, AV.psub k r p.2)
theorem RW.publishBox {ob : List Ob} {k : Nat} {T : TypeId} {cs : List AV} (h : RW E ob ρ B w) (hk : ob[k]? = some (.box T cs)) (hm : E.ρ0.length ≤ k) (h1 : cs.all AV.one = true) (hne : cs ≠ []) :
    ∃ B' v, (∀ b, B b → B' b) ∧ ρ[k]? = some v ∧ RW E (ob.set k .gone) ρ B' w ∧ Rel w B' E.bs ρ (.ref true (.agg cs)) v ∧ ∀ b, B' b → B b ∨ Dof ob ρ b := by
  obtain ⟨b, vs, fz, r1, hh, r3, r4, r5⟩ := h.obs k _ hk
  have hdrop : RW E (ob.set k .gone) ρ B w := h.drop
  obtain ⟨p1, p2, p3⟩ := h.prv k _ _ b hk rfl r1 rfl
  have hbnew : E.w0.heap.size ≤ b := by
    rcases p3 with p3 | ⟨v0, p3, _⟩
    · exact p3
    · have := get_lt p3; omega
  refine ⟨fun x => B x ∨ x = b, _, fun _ h => .inl h, r1, ?_, ?_, fun x hx => hx.elim .inl fun e => .inr ⟨k, _, _, hk, rfl, r1, by rw [e]; rfl⟩⟩
  · refine { ep := h.ep, os := h.os, tape := h.tape, output := h.output, size := h.size, block := h.block, pre := h.pre, bsub := fun x hx => .inl (h.bsub x hx), bnew := ?_, blt := ?_, len := hdrop.len, obs := ?_, dis := hdrop.dis, prv := ?_ }
    · rintro x (hx | rfl)
      · exact h.bnew x hx
      · exact .inr hbnew
    · rintro x (hx | rfl)
      · exact h.blt x hx
      · exact p2
    · intro i o hi
      exact (hdrop.obs i o hi).mono (fun _ h => .inl h) (fun _ _ => rfl) (fun _ _ h => h) (fun _ _ _ _ _ => rfl)
    · intro i o u c hi hl hu hc
      obtain ⟨q1, q2, q3⟩ := hdrop.prv i o u c hi hl hu hc
      refine ⟨?_, q2, q3⟩
      rintro (hx | rfl)
      · exact q1 hx
      · by_cases hik : i = k
        · subst hik
          rw [List.getElem?_set_self (get_lt hk)] at hi
          simp at hi; subst hi; simp [Ob.live] at hl
        · rw [List.getElem?_set_ne (Ne.symm hik)] at hi
          exact h.dis i k o _ u _ c hik hi hl hk rfl hu r1 hc rfl
  · refine .ref (RelCells.mk (.inr rfl) (fun _ => Nat.le_trans h.ep hbnew) (vs := vs) (r4.mono (fun _ h => .inl h) (fun _ _ => rfl) (Nat.le_refl _) (fun _ _ h => h)) (fun c hc => List.all_eq_true.1 h1 c hc) ?_) (by simpa [AV.cells] using hne)
    intro j v hj
    have := block_cell (w := w) (b := b) (vs := vs) hh 0 j v (by simpa using hj)
    exact this
theorem Le.pubBox {k : Nat} {T : TypeId} {cs : List AV} (hk : s.ob[k]? = some (.box T cs)) (hm : s.m ≤ k) (h1 : cs.all AV.one = true) (hne : cs ≠ []) :
    Le s { s with ob := s.ob.set k .gone, fr := frPsub k (.ref true (.agg cs)) s.fr } := by
  intro E ρ B a w hs
  obtain ⟨B', v, g1, g2, g3, g4, g5⟩ := hs.rw_.publishBox hk (Nat.le_trans hs.m.1 hm) h1 hne
  refine ⟨ρ, B', g3, hs.m, hs.n, hs.df, hs.jj.chg ⟨rfl, rfl, rfl, Nat.le_refl _, fun _ _ _ => rfl, fun b hd => .inl (Dof.set hk rfl b hd), g1, fun b hb => (g5 b hb).elim .inl fun h => .inr (.inl h)⟩ g3.bd, ?_⟩
  intro t x hmem
  simp only [frPsub, List.mem_map] at hmem
  obtain ⟨⟨t', x'⟩, hmem, he⟩ := hmem
  simp only [Prod.mk.injEq] at he
  obtain ⟨rfl, rfl⟩ := he
  obtain ⟨q1, q2⟩ := hs.rf t' x' hmem
  exact ⟨q1, Rel.psub g2 g4 (q2.mono g1 (fun _ _ => rfl) (Nat.le_refl _) (fun _ _ h => h))⟩
theorem AWp.pubBox {c : Code} {Q : Exit → AS → Prop} (k : Nat) {T : TypeId} {cs : List AV} (hk : s.ob[k]? = some (.box T cs)) (hm : s.m ≤ k) (h1 : cs.all AV.one = true) (hne : cs ≠ [])
    (K : AWp P c { s with ob := s.ob.set k .gone, fr := frPsub k (.ref true (.agg cs)) s.fr } Q) : AWp P c s Q := AWp.weak (Le.pubBox hk hm h1 hne) K
theorem ARun2.pubBox {l : List Oper} (k : Nat) {T : TypeId} {cs : List AV} (hk : s.ob[k]? = some (.box T cs)) (hm : s.m ≤ k) (h1 : cs.all AV.one = true) (hne : cs ≠ [])
    (K : ARun2 P ops (Abs.srun P ops l { s with ob := s.ob.set k .gone, fr := frPsub k (.ref true (.agg cs)) s.fr }) Q) : ARun2 P ops (l, s) Q := ARun2.weak (Le.pubBox hk hm h1 hne) (ARun.srun K)
end
attribute [push_cast] AV.psub AV.psubL frPsub AV.renL AV.ren Ob.ren setAll obAfter rowIds AV.invalL Ob.invalL frInvalL phi AV.pl AV.plL SubXL SubOL SubO roundQ setps isBox
set_option linter.unusedVariables false
set_option linter.unusedSectionVars false
set_option linter.unusedSimpArgs false
section
variable {P : Program} {ops : Array Oper} {E : Env} {s s' : AS} {ρ : List Value} {B : Nat → Prop} {a : Act} {w w' : World} {o : Oper} {rest : List Oper} {Q : AS → Prop}
theorem Le.nilOwn (t : Nat) (e : TypeId) (sz : Nat) (h : lk s.fr t = .val (.slice none 0 0)) : Le s { s with fr := (t, .own s.ob.length) :: del s.fr t, ob := s.ob ++ [.row e sz []] } := by
  intro E ρ B a w hs
  have hn : RS E { s with ob := s.ob ++ [.row e sz []] } (ρ ++ [.slice none 0 0]) B a w :=
    hs.new (same_refl w) ⟨by simp, .inl ⟨rfl, by rw [← hs.rw_.len, List.getElem?_append_right (Nat.le_refl _), Nat.sub_self]; rfl⟩⟩ (by intro b hb; simp [blk] at hb)
  refine ⟨_, B, hn.rw_, hn.m, hn.n, hn.df, hn.jj, ?_⟩
  intro k x hm
  rcases List.mem_cons.1 hm with hm | hm
  · have hk : k = t := congrArg Prod.fst hm
    have hx : x = .own s.ob.length := congrArg Prod.snd hm
    subst hk; subst hx
    have hv := hs.get k
    rw [h] at hv
    refine ⟨?_, ?_⟩
    · rcases lk_mem h with e | e
      · simp at e
      · exact (hs.rf k _ e).1
    · rw [hv.val_eq]
      exact .own (by rw [← hs.rw_.len, List.getElem?_append_right (Nat.le_refl _), Nat.sub_self]; rfl) rfl
  · exact hn.rf k x (del_mem hm).1
theorem AWp.nilOwn {c : Code} {R : Exit → AS → Prop} (t : Nat) (e : TypeId) (sz : Nat) (h : lk s.fr t = .val (.slice none 0 0)) (k : AWp P c { s with fr := (t, .own s.ob.length) :: del s.fr t, ob := s.ob ++ [.row e sz []] } R) : AWp P c s R :=
  AWp.weak (Le.nilOwn t e sz h) k
theorem AOp.imin {x y : Operand} {ts : Array TypeId} {k k' : IntKind} {m n : Int} (ho : o.op = .call { callee := .builtin .min, args := #[x, y], argTypes := ts }) (hx : s.ev x = .val (.int k m)) (hy : s.ev y = .val (.int k' n))
    (K : ARun P ops rest (s.put o.dst (.val (.int k (Min.min m n)))) Q) : AOp P ops o rest s Q := by
  refine AOp.pure1 (fun E ρ B a w hs => ⟨.int k (Min.min m n), ?_, .val _⟩) K
  have hxv := (hx ▸ hs.ev x : Rel w B E.bs ρ (.val (.int k m)) (a.eval x)).val_eq
  have hyv := (hy ▸ hs.ev y : Rel w B E.bs ρ (.val (.int k' n)) (a.eval y)).val_eq
  have hm : (if n < m then n else m) = Min.min m n := by split <;> omega
  simp [execOp, ho, resolve, invoke, builtin, hxv, hyv, Builtin.min_, Builtin.min2, hm]
theorem ARun2.imin {x y : Operand} {ts : Array TypeId} {k k' : IntKind} {m n : Int} (hgd : gd ops s o = some true) (ho : o.op = .call { callee := .builtin .min, args := #[x, y], argTypes := ts }) (hx : s.ev x = .val (.int k m)) (hy : s.ev y = .val (.int k' n))
    (K : ARun P ops rest (s.put o.dst (.val (.int k (Min.min m n)))) Q) : ARun2 P ops (o :: rest, s) Q := ARun.exec hgd (AOp.imin ho hx hy K)
end
set_option linter.unusedVariables false
set_option linter.unusedSectionVars false
set_option linter.unusedSimpArgs false
section
variable {P : Program} {ops : Array Oper} {E : Env} {s s' : AS} {ρ : List Value} {B : Nat → Prop} {a : Act} {w w' : World} {o : Oper} {rest : List Oper} {Q : AS → Prop}
theorem ev_ob (ob : List Ob) : AS.ev { s with ob := s.ob ++ ob } = s.ev := funext fun y => by cases y <;> rfl
theorem NSpec.slice {T : TypeId} {x : Operand} {lo hi : Option Operand} {nw : Bool} {sz : Nat} {xs : List AV} {l h : Int} (hg : gd ops s o = some true) (ho : o.op = .slice T x lo hi none) (hx : s.ev x = .sl nw sz xs)
    (hl : intLit (lo.map s.ev) = some (if lo.isSome then some l else none)) (hl0 : lo = none → l = 0) (hh : intLit (hi.map s.ev) = some (if hi.isSome then some h else none)) (hh0 : hi = none → h = xs.length)
    (hz : elSz P T = some sz) (h0 : 0 ≤ l) (h1 : l ≤ h) (h2 : h ≤ xs.length) : NSpec P ops o s (.sl nw sz ((xs.take h.toNat).drop l.toNat)) :=
  NSpec.pure1 hg fun E ρ B a w ob hs => slice_run (s := { s with ob := s.ob ++ ob }) hs ho (by rw [ev_ob]; exact hx) (by rw [ev_ob]; exact hl) hl0 (by rw [ev_ob]; exact hh) hh0 hz h0 h1 h2
theorem NSpec.imin {x y : Operand} {ts : Array TypeId} {k k' : IntKind} {m n : Int} (hg : gd ops s o = some true) (ho : o.op = .call { callee := .builtin .min, args := #[x, y], argTypes := ts }) (hx : s.ev x = .val (.int k m)) (hy : s.ev y = .val (.int k' n)) :
    NSpec P ops o s (.val (.int k (Min.min m n))) := by
  refine NSpec.pure1 hg fun E ρ B a w ob hs => ⟨.int k (Min.min m n), ?_, .val _⟩
  have hev := ev_ob (s := s) ob
  have hxv := ((hev ▸ hx : AS.ev { s with ob := s.ob ++ ob } x = _) ▸ hs.ev x : Rel w B E.bs ρ (.val (.int k m)) (a.eval x)).val_eq
  have hyv := ((hev ▸ hy : AS.ev { s with ob := s.ob ++ ob } y = _) ▸ hs.ev y : Rel w B E.bs ρ (.val (.int k' n)) (a.eval y)).val_eq
  have hm : (if n < m then n else m) = Min.min m n := by split <;> omega
  simp [execOp, ho, resolve, invoke, builtin, hxv, hyv, Builtin.min_, Builtin.min2, hm]
theorem ARun2.slice {T : TypeId} {x : Operand} {lo hi : Option Operand} {nw : Bool} {sz : Nat} {xs : List AV} {l h : Int} (hg : gd ops s o = some true) (ho : o.op = .slice T x lo hi none) (hx : s.ev x = .sl nw sz xs)
    (hl : intLit (lo.map s.ev) = some (if lo.isSome then some l else none)) (hl0 : lo = none → l = 0) (hh : intLit (hi.map s.ev) = some (if hi.isSome then some h else none)) (hh0 : hi = none → h = xs.length)
    (hz : elSz P T = some sz) (h0 : 0 ≤ l) (h1 : l ≤ h) (h2 : h ≤ xs.length) (K : ARun P ops rest (s.put o.dst (.sl nw sz ((xs.take h.toNat).drop l.toNat))) Q) : ARun2 P ops (o :: rest, s) Q :=
  ARun.exec hg (AOp.slice ho hx hl hl0 hh hh0 hz h0 h1 h2 K)
theorem ARun2.slice3 {T : TypeId} {x lo hi mx : Operand} {nw : Bool} {sz : Nat} {xs : List AV} {l h m : Int} {k1 k2 k3 : IntKind} (hg : gd ops s o = some true) (ho : o.op = .slice T x (some lo) (some hi) (some mx)) (hx : s.ev x = .sl nw sz xs)
    (hl : s.ev lo = .val (.int k1 l)) (hh : s.ev hi = .val (.int k2 h)) (hm : s.ev mx = .val (.int k3 m))
    (hz : elSz P T = some sz) (h0 : 0 ≤ l) (h1 : l ≤ h) (h2 : h ≤ m) (h3 : m ≤ xs.length) (K : ARun P ops rest (s.put o.dst (.sl nw sz ((xs.take h.toNat).drop l.toNat))) Q) : ARun2 P ops (o :: rest, s) Q :=
  ARun.exec hg (AOp.slice3 ho hx hl hh hm hz h0 h1 h2 h3 K)
def DSpecs (P : Program) (ops : Array Oper) (s : AS) (nds : List (List (Nat × Option Nat))) (vals : List AV) : Nat → List Oper → Prop
  | _, [] => True
  | i, o :: l => NSpec P ops o { s with fr := needFr s.fr vals (nds.getD i []) } (vals.getD i .any) ∧ DSpecs P ops s nds vals (i + 1) l
theorem DSpecs.get {nds : List (List (Nat × Option Nat))} {vals : List AV} : ∀ {l : List Oper} {k j : Nat}, DSpecs P ops s nds vals k l → l[j]? = some o → NSpec P ops o { s with fr := needFr s.fr vals (nds.getD (k + j) []) } (vals.getD (k + j) .any)
  | [], _, _, _, e => by simp at e
  | p :: l, k, 0, h, e => by simp only [List.getElem?_cons_zero, Option.some.injEq] at e; subst e; exact h.1
  | p :: l, k, j + 1, h, e => by
    have := DSpecs.get h.2 (j := j) (by simpa using e)
    rwa [show k + 1 + j = k + (j + 1) by omega] at this
def DFr (ops : Array Oper) (n : Nat) (fr : List (Nat × AV)) (vals : List AV) : List (Nat × AV) → Prop
  | [] => True
  | (t, x) :: r => (t < n ∧ ((∃ i, i < ops.size ∧ dstOf ops i = some t ∧ x = vals.getD i .any) ∨ ((∀ i, i < ops.size → dstOf ops i ≠ some t) ∧ x = lk fr t))) ∧ DFr ops n fr vals r
theorem DFr.get {n : Nat} {fr : List (Nat × AV)} {vals : List AV} : ∀ {fr1 : List (Nat × AV)}, DFr ops n fr vals fr1 → ∀ t x, (t, x) ∈ fr1 → t < n ∧ ((∃ i, i < ops.size ∧ dstOf ops i = some t ∧ x = vals.getD i .any) ∨ ((∀ i, i < ops.size → dstOf ops i ≠ some t) ∧ x = lk fr t))
  | [], _, t, x, hm => by simp at hm
  | (t', x') :: r, h, t, x, hm => by
    rcases List.mem_cons.1 hm with e | hm
    · have e1 : t = t' := congrArg Prod.fst e
      have e2 : x = x' := congrArg Prod.snd e
      subst e1; subst e2; exact h.1
    · exact DFr.get h.2 t x hm
def notDst (ops : Array Oper) (t : Nat) : Bool := (List.range ops.size).all fun i => decide (dstOf ops i ≠ some t)
theorem DFr.old {n : Nat} {fr : List (Nat × AV)} {vals : List AV} {t : Nat} {x : AV} {r : List (Nat × AV)} (h1 : decide (t < n) = true) (h2 : notDst ops t = true) (h3 : x = lk fr t) (k : DFr ops n fr vals r) : DFr ops n fr vals ((t, x) :: r) :=
  ⟨⟨by simpa using h1, .inr ⟨fun i hi => by simpa using List.all_eq_true.1 h2 i (List.mem_range.2 hi), h3⟩⟩, k⟩
theorem DFr.new {n : Nat} {fr : List (Nat × AV)} {vals : List AV} {t : Nat} {x : AV} {r : List (Nat × AV)} (i : Nat) (h1 : (decide (t < n) && decide (i < ops.size) && decide (dstOf ops i = some t)) = true) (h3 : x = vals.getD i .any) (k : DFr ops n fr vals r) : DFr ops n fr vals ((t, x) :: r) := by
  simp only [Bool.and_eq_true, decide_eq_true_eq] at h1
  exact ⟨⟨h1.1.1, .inl ⟨i, h1.1.2, h1.2, h3⟩⟩, k⟩
theorem NSpec.cast {x y : AV} (h : x = y) (hn : NSpec P ops o s x) : NSpec P ops o s y := h ▸ hn
theorem Le.nilBox (k i : Nat) (e : TypeId) (sz : Nat) {T : TypeId} {cs : List AV} (hk : s.ob[k]? = some (.box T cs)) (h : cs[i]? = some (.val (.slice none 0 0))) : Le s { s with ob := s.ob.set k (.box T (cs.set i (.own s.ob.length))) ++ [.row e sz []] } := by
  intro E ρ B a w hs
  have hn : RS E { s with ob := s.ob ++ [.row e sz []] } (ρ ++ [.slice none 0 0]) B a w :=
    hs.new (same_refl w) ⟨by simp, .inl ⟨rfl, by rw [← hs.rw_.len, List.getElem?_append_right (Nat.le_refl _), Nat.sub_self]; rfl⟩⟩ (by intro b hb; simp [blk] at hb)
  have hk' : (s.ob ++ [Ob.row e sz []])[k]? = some (.box T cs) := get_append_some hk
  obtain ⟨b, vs, fz, r1, r2, r3, r4, r5⟩ := hn.rw_.obs k _ hk'
  obtain ⟨v, hv, hr⟩ := r4.get h
  have hve := hr.val_eq
  subst hve
  have hset : vs.set i (.slice none 0 0) = vs := by
    apply List.ext_getElem?
    intro j
    by_cases hj : i = j
    · subst hj; rw [List.getElem?_set_self (get_lt hv)]; exact hv.symm
    · rw [List.getElem?_set_ne hj]
  have hown : Rel w B E.bs (ρ ++ [.slice none 0 0]) (.own s.ob.length) (.slice none 0 0) := .own (by rw [← hs.rw_.len, List.getElem?_append_right (Nat.le_refl _), Nat.sub_self]; rfl) rfl
  have hro : RO w B E.bs (ρ ++ [.slice none 0 0]) k (.box T (cs.set i (.own s.ob.length))) := by
    refine ⟨b, vs, fz, r1, r2, r3, ?_, ?_⟩
    · have := r4.set i hown
      rwa [hset] at this
    · intro c hc
      rcases List.mem_or_eq_of_mem_set hc with hc | rfl
      · exact r5 c hc
      · rfl
  have hkl : k < s.ob.length := get_lt hk
  have hobe : s.ob.set k (.box T (cs.set i (.own s.ob.length))) ++ [Ob.row e sz []] = (s.ob ++ [Ob.row e sz []]).set k (.box T (cs.set i (.own s.ob.length))) := by
    rw [List.set_append_left _ _ hkl]
  have r := hn.rw_
  have get : ∀ {i' : Nat} {o1 : Ob}, ((s.ob ++ [Ob.row e sz []]).set k (.box T (cs.set i (.own s.ob.length))))[i']? = some o1 → ∃ o2, (s.ob ++ [Ob.row e sz []])[i']? = some o2 ∧ (o1.live = true → o2.live = true) := by
    intro i' o1 h1
    by_cases hik : k = i'
    · subst hik; exact ⟨_, hk', fun _ => rfl⟩
    · rw [List.getElem?_set_ne hik] at h1; exact ⟨o1, h1, fun h => h⟩
  have hrw : RW E ((s.ob ++ [Ob.row e sz []]).set k (.box T (cs.set i (.own s.ob.length)))) (ρ ++ [.slice none 0 0]) B w := by
    refine { ep := r.ep, os := r.os, tape := r.tape, output := r.output, size := r.size, block := r.block, pre := r.pre, bsub := r.bsub, bnew := r.bnew, blt := r.blt, len := by simpa using r.len, obs := ?_, dis := ?_, prv := ?_ }
    · intro j o hj
      by_cases hjk : k = j
      · subst hjk
        rw [List.getElem?_set_self (get_lt hk')] at hj
        have := Option.some.inj hj
        subst this
        exact hro
      · rw [List.getElem?_set_ne hjk] at hj; exact r.obs j o hj
    · intro i' j o o' u v b hij h1 l1 h2 l2
      obtain ⟨x1, y1, z1⟩ := get h1
      obtain ⟨x2, y2, z2⟩ := get h2
      exact r.dis i' j x1 x2 u v b hij y1 (z1 l1) y2 (z2 l2)
    · intro j o v b h1 l1
      obtain ⟨x1, y1, z1⟩ := get h1
      exact r.prv j x1 v b y1 (z1 l1)
  refine ⟨_, B, by rw [hobe]; exact hrw, hn.m, hn.n, hn.df, ?_, hn.rf⟩
  have hj := hn.jj.chg ⟨rfl, rfl, rfl, Nat.le_refl _, fun _ _ _ => rfl, fun b hd => .inl (Dof.set hk' rfl b hd), fun _ h => h, fun _ h => .inl h⟩ hrw.bd
  rw [hobe]; exact hj
theorem AWp.nilBox {c : Code} {R : Exit → AS → Prop} (k i : Nat) (e : TypeId) (sz : Nat) {T : TypeId} {cs : List AV} (hk : s.ob[k]? = some (.box T cs)) (h : cs[i]? = some (.val (.slice none 0 0)))
    (K : AWp P c { s with ob := s.ob.set k (.box T (cs.set i (.own s.ob.length))) ++ [.row e sz []] } R) : AWp P c s R := AWp.weak (Le.nilBox k i e sz hk h) K
end
attribute [push_cast] needFr List.getD_cons_zero List.getD_cons_succ List.getD_nil
set_option linter.unusedVariables false
set_option linter.unusedSectionVars false
set_option linter.unusedSimpArgs false
set_option linter.unnecessarySimpa false
theorem bif_bif1 {α : Type} (g : Bool) (x y z : α) : (bif g then (bif g then x else y) else z) = bif g then x else z := by cases g <;> rfl
theorem bif_bif2 {α : Type} (g : Bool) (x y z : α) : (bif g then x else (bif g then y else z)) = bif g then x else z := by cases g <;> rfl
theorem bif_nbif1 {α : Type} (g : Bool) (x y z : α) : (bif g then (bif !g then x else y) else z) = bif g then y else z := by cases g <;> rfl
theorem bif_nbif2 {α : Type} (g : Bool) (x y z : α) : (bif g then x else (bif !g then y else z)) = bif g then x else y := by cases g <;> rfl
theorem bif_not {α : Type} (g : Bool) (x y : α) : (bif !g then x else y) = bif g then y else x := by cases g <;> rfl
theorem bif_bool (g p q : Bool) : (bif g then AV.val (.bool p) else AV.val (.bool q)) = .val (.bool (bif g then p else q)) := by cases g <;> rfl
theorem bif_same {α : Type} (g : Bool) (x : α) : (bif g then x else x) = x := by cases g <;> rfl
theorem bif_ff (g p : Bool) : (bif g then p else false) = (g && p) := by cases g <;> rfl
theorem bif_tt (g p : Bool) : (bif g then true else p) = (g || p) := by cases g <;> rfl
theorem bif_ft (g p : Bool) : (bif g then p else true) = (!g || p) := by cases g <;> rfl
theorem bif_tf (g p : Bool) : (bif g then false else p) = (!g && p) := by cases g <;> rfl
theorem gdv_bif (g p want : Bool) (l : Array Value) : gdv (bif g then .val (.bool p) else .val (.tuple l)) want = some (g && (p == want)) := by cases g <;> rfl
section
variable {P : Program} {ops : Array Oper} {E : Env} {s s' : AS} {ρ σ : List Value} {B : Nat → Prop} {a : Act} {w w' : World} {o : Oper} {rest : List Oper} {Q : AS → Prop} {R : Exit → AS → Prop}
def keepFr (fr : List (Nat × AV)) : List Nat → List (Nat × AV)
  | [] => []
  | t :: l => (t, lk fr t) :: keepFr fr l
theorem keepFr_mem {fr : List (Nat × AV)} : ∀ {l : List Nat} {t : Nat} {x : AV}, (t, x) ∈ keepFr fr l → t ∈ l ∧ x = lk fr t
  | [], t, x, h => by simp [keepFr] at h
  | t' :: l, t, x, h => by
    rcases List.mem_cons.1 h with e | h
    · have e1 : t = t' := congrArg Prod.fst e
      have e2 : x = lk fr t' := congrArg Prod.snd e
      subst e1; exact ⟨by simp, e2⟩
    · have := keepFr_mem h; exact ⟨by simp [this.1], this.2⟩
theorem Le.sub {fr' : List (Nat × AV)} (h : ∀ t x, (t, x) ∈ fr' → (t, x) ∈ s.fr) : Le s { s with fr := fr' } := by
  intro E ρ B a w hs
  exact ⟨ρ, B, hs.rw_, hs.m, hs.n, hs.df, hs.jj, fun t x hm => hs.rf t x (h t x hm)⟩
theorem wpIn_mono2 {F : Fence} {n : Nat} {K K' : Act → World → Prop} {Q Q' : Exit → Act → World → Prop} (h : ∀ a w, K a w → K' a w) (hq : ∀ e a w, e ≠ .normal → Q e a w → Q' e a w)
    (hh : o.wpIn F n P a w K Q) : o.wpIn F n P a w K' Q' := by
  unfold Oper.wpIn at *
  refine ⟨hh.1, ?_⟩
  have hh := hh.2
  generalize (o.semAt F.round a.eval).run P w = r at *
  cases r with
  | ok x w' =>
    cases x <;> simp only [Oper.uponIn] at hh ⊢ <;>
      first
        | exact h _ _ hh
        | exact ⟨hh.1, CallsIn.mono hh.2 (fun e w'' he => by
            cases e with
            | returned v => exact h _ _ he
            | panicked c => exact hq _ _ _ (by simp) he
            | outgrown => obtain ⟨a, w, he⟩ := he; exact ⟨a, w, hq _ _ _ (by simp) he⟩)⟩
        | exact ⟨hh.1, RowsIn.mono hh.2 (fun _ _ he => h _ _ he)⟩
        | exact ⟨hh.1, RoundIn.mono hh.2 (fun e w'' he => by
            cases e with
            | returned v => exact h _ _ he
            | panicked c => exact hq _ _ _ (by simp) he
            | outgrown => obtain ⟨a, w, he⟩ := he; exact ⟨a, w, hq _ _ _ (by simp) he⟩)⟩
        | exact hh.elim
  | halt x w' =>
    cases x <;> simp only [Oper.uponIn] at hh ⊢ <;> first | exact hq _ _ _ (by simp) hh | exact hh.elim
theorem lwp_append {r : Option Nat} {l2 : List Oper} {Q' Q'' : Exit → Act → World → Prop} (h1 : ∀ a w, Q'' .normal a w → lwp r P ops Q' l2 a w) (h2 : ∀ e a w, e ≠ .normal → Q'' e a w → Q' e a w) :
    ∀ (l1 : List Oper) (a : Act) (w : World), lwp r P ops Q'' l1 a w → lwp r P ops Q' (l1 ++ l2) a w
  | [], a, w, h => h1 a w h
  | o :: l, a, w, h => by
    simp only [List.cons_append, lwp] at h ⊢
    split
    · rename_i hw
      rw [if_pos hw] at h
      exact wpIn_mono2 (fun a w h => lwp_append h1 h2 l a w h) h2 h
    · rename_i hw
      rw [if_neg hw] at h
      exact lwp_append h1 h2 l _ w h
theorem ARun.append {l1 l2 : List Oper} (h : ARun P ops l1 s (fun s' => ARun P ops l2 s' Q)) : ARun P ops (l1 ++ l2) s Q := by
  intro E hE ρ B a w hs Q' hQ
  refine lwp_append (Q'' := fun e a w => match e with | .normal => lwp E.rnd P ops Q' l2 a w | e => Q' e a w) (fun a w h => h) (fun e a w he h => by cases e <;> first | exact absurd rfl he | exact h) l1 a w ?_
  exact h E hE ρ B a w hs _ fun s' ρ' B' a' w' q hs' => q E hE ρ' B' a' w' hs' Q' hQ
theorem ARun.seg {l : List Oper} (n : Nat) (h : ∀ K : AS → Prop, (∀ s', ARun P ops (l.drop n) s' Q → K s') → ARun2 P ops (Abs.srun P ops (l.take n) s) K) : ARun P ops l s Q := by
  have := ARun.append (ARun.srun (h _ fun _ h => h))
  rwa [List.take_append_drop] at this
theorem lk_del_ne (fr : List (Nat × AV)) {t u : Nat} (h : u ≠ t) : lk (del fr t) u = lk fr u := by
  induction fr with
  | nil => rfl
  | cons p r ih =>
    obtain ⟨k, a⟩ := p
    simp only [del]
    split
    · rename_i e; subst e; simp only [lk, if_neg (Ne.symm h)]; exact ih
    · simp only [lk]; split
      · rfl
      · exact ih
theorem keepFr_congr {fr fr' : List (Nat × AV)} (h : ∀ t, lk fr t = lk fr' t) : ∀ l, keepFr fr l = keepFr fr' l
  | [] => rfl
  | t :: l => by simp only [keepFr, h t, keepFr_congr h l]
theorem lit_lk {d : Nat} {b : Bool} (e : lk s.fr d = .val (.bool b)) (t : Nat) : lk (s.lit d b).fr t = lk s.fr t := by
  simp only [AS.lit, lk]
  split
  · rename_i h; subst h; exact e.symm
  · rename_i h; exact lk_del_ne _ (fun h' => h h'.symm)
theorem ARun.grp {l : List Oper} (n j : Nat) {dj : Nat} (want : Bool) {b : Bool} (d : Nat) {x : AV} (ks : List Nat)
    (hd : (ops[j]?).bind (·.dst) = some dj) (e : lk s.fr dj = .val (.bool b))
    (ht : b = want → ∀ K : AS → Prop, (∀ s', Le s' { s with fr := (d, x) :: keepFr (s.lit dj want).fr ks } → K s') → ARun P ops (l.take n) (s.lit dj want) K)
    (hf : (b = !want) → ∀ K : AS → Prop, (∀ s', Le s' { s with fr := (d, .val (.tuple #[])) :: keepFr (s.lit dj !want).fr ks } → K s') → ARun P ops (l.take n) (s.lit dj !want) K)
    (k : ARun P ops (l.drop n) { s with fr := (d, bif b == want then x else .val (.tuple #[])) :: keepFr s.fr ks } Q) : ARun P ops l s Q := by
  have main : ARun P ops (l.take n ++ l.drop n) s Q := by
    refine ARun.append ?_
    intro E hE ρ B a w hs Q' hQ
    have hl := hs.lit e
    by_cases hb : b = want
    · subst hb
      refine ht rfl (fun s' => ARun P ops (l.drop n) s' Q) (fun s' hle => ARun.weak hle ?_) E hE ρ B a w hl Q' hQ
      rw [keepFr_congr (lit_lk e)]
      simpa using k
    · have hb' : b = !want := by cases b <;> cases want <;> simp_all
      subst hb'
      refine hf rfl (fun s' => ARun P ops (l.drop n) s' Q) (fun s' hle => ARun.weak hle ?_) E hE ρ B a w hl Q' hQ
      rw [keepFr_congr (lit_lk e)]
      have : (!want == want) = false := by cases want <;> rfl
      simpa [this] using k
  rwa [List.take_append_drop] at main
theorem AWp.loopK {α : Type} {c : Code} (ks : List Nat) (upd : α → List (Nat × AV)) (obs : α → List Ob) (p : α → Prop) (μ : α → Nat) (x : α)
    (h0 : Le s { s with fr := upd x ++ keepFr s.fr ks, ob := obs x }) (hp : p x)
    (round : ∀ x, p x → ∀ K : AS → Prop, (∀ s' y, p y → μ y < μ x → Le s' { s with fr := upd y ++ keepFr s.fr ks, ob := obs y } → K s') → AWp P c { s with fr := upd x ++ keepFr s.fr ks, ob := obs x } (thenQ K R)) : AWp P (.loop c) s R :=
  AWp.loopS (fun x => { s with fr := upd x ++ keepFr s.fr ks, ob := obs x }) p μ x h0 hp fun x hx => round x hx _ fun s' y h1 h2 h3 => ⟨y, h1, h2, h3⟩
theorem AWp.join {x y : Code} (S : AS) (h : ∀ K : AS → Prop, (∀ s', Le s' S → K s') → AWp P x s (thenQ K R)) (k : AWp P y S R) : AWp P (.seq x y) s R :=
  AWp.seqK fun K hK => h K fun s' hl => hK s' (AWp.weak hl k)
end
def posOf : List Nat → Nat → Nat
  | [], _ => 0
  | i :: is, k => if i = k then 0 else posOf is k + 1
theorem posOf_get : ∀ {is : List Nat} {k : Nat}, is.contains k = true → is[posOf is k]? = some k
  | [], k, h => by simp at h
  | i :: is, k, h => by
    simp only [posOf]
    split
    · rename_i e; subst e; rfl
    · rename_i hne
      simp only [List.getElem?_cons_succ]
      refine posOf_get ?_
      simp only [List.contains_cons, Bool.or_eq_true, beq_iff_eq] at h
      rcases h with h | h
      · exact absurd h.symm hne
      · exact h
mutual
def AV.hand (ids : List Nat) : AV → AV
  | .val v => .val v
  | .any => .any
  | .agg l => .agg (AV.handL ids l)
  | .tup l => .tup (AV.handL ids l)
  | .sl _ sz xs => .sl false sz (AV.handL ids xs)
  | .slc sz xs => .slc sz (AV.handL ids xs)
  | .own k => .own (posOf ids k)
  | .ptr k o => .ptr (posOf ids k) o
  | .ept k o => .ept (posOf ids k) o
  | .ref _ x => .ref false (x.hand ids)
  | .ifc t x => .ifc t (x.hand ids)
  | .fn f l m => .fn f (AV.handL ids l) (AV.handL ids m)
def AV.handL (ids : List Nat) : List AV → List AV
  | [] => []
  | x :: xs => x.hand ids :: AV.handL ids xs
end
theorem AV.handL_map (ids : List Nat) : ∀ l : List AV, AV.handL ids l = l.map (AV.hand ids)
  | [] => rfl
  | x :: l => by simp [AV.handL, AV.handL_map ids l]
theorem AV.hand_one (ids : List Nat) (x : AV) : (x.hand ids).one = x.one := by cases x <;> rfl
theorem AV.hand_oc (ids : List Nat) (x : AV) : (x.hand ids).oc = x.oc := by cases x <;> rfl
theorem AV.hand_cells (ids : List Nat) (x : AV) : (x.hand ids).cells = x.cells.map (AV.hand ids) := by cases x <;> simp [AV.hand, AV.cells, AV.handL_map]
section hand
variable {w : World} {B : Nat → Prop} {bs bs' : Nat} {ρ σ : List Value} {ids : List Nat}
variable (hi : ∀ i k : Nat, ids[i]? = some k → σ[i]? = ρ[k]?)
include hi
mutual
theorem Rel.hand : ∀ {x : AV} {v : Value}, Rel w B bs ρ x v → x.idsOk (fun k => ids.contains k) = true → Rel w B bs' σ (x.hand ids) v
  | _, _, .val v, _ => .val v
  | _, _, .agg h, e => .agg (h.hand (by simpa [AV.idsOk] using e))
  | _, _, .tup h, e => .tup (h.hand (by simpa [AV.idsOk] using e))
  | _, _, .slE nw sz A cap, _ => .slE false sz A cap
  | _, _, .sl (xs := xs) h hc, e => by
    have h2 := RelRow.hand h (by simpa [AV.idsOk] using e)
    have := Rel.sl (cap := _) h2 (by rw [AV.handL_map, List.length_map]; exact hc)
    simp only [AV.handL_map, List.length_map] at this
    simpa only [AV.hand, AV.handL, AV.handL_map] using this
  | _, _, .own (k := k) h h1, e => .own ((hi _ _ (posOf_get (by simpa [AV.idsOk] using e))).trans h) h1
  | _, _, .ptr h, e => .ptr ((hi _ _ (posOf_get (by simpa [AV.idsOk] using e))).trans h)
  | _, _, .ept h, e => .ept ((hi _ _ (posOf_get (by simpa [AV.idsOk] using e))).trans h)
  | _, _, .ref (x := x) h hn, e => .ref (by rw [AV.hand_cells, ← AV.handL_map]; exact h.hand (by rw [AV.idsOkL_cells]; simpa [AV.idsOk] using e)) (by rw [AV.hand_cells]; simpa using hn)
  | _, _, .ifc h, e => .ifc (h.hand (by simpa [AV.idsOk] using e))
  | _, _, .fn h h2, e => .fn (h.hand (by simp [AV.idsOk] at e; simpa using e.1)) (h2.hand (by simp [AV.idsOk] at e; simpa using e.2))
  | _, _, .any v, _ => .any v
  | _, _, .slc h, e => .slc (h.hand (by simpa [AV.idsOk] using e))
theorem RelL.hand : ∀ {xs : List AV} {vs : List Value}, RelL w B bs ρ xs vs → AV.idsOkL (fun k => ids.contains k) xs = true → RelL w B bs' σ (AV.handL ids xs) vs
  | _, _, .nil, _ => .nil
  | _, _, .cons h h2, e => .cons (h.hand (by simp only [AV.idsOkL, Bool.and_eq_true] at e; exact e.1)) (h2.hand (by simp only [AV.idsOkL, Bool.and_eq_true] at e; exact e.2))
theorem RelCells.hand : ∀ {nw : Bool} {b o : Nat} {xs : List AV}, RelCells w B bs ρ nw b o xs → AV.idsOkL (fun k => ids.contains k) xs = true → RelCells w B bs' σ false b o (AV.handL ids xs)
  | _, _, _, _, .nil, _ => .nil
  | _, _, _, _, .cons h1 h2 h3 h4 h5 h6, e => .cons h1 (fun h => by simp at h) h3 (by rw [AV.hand_one]; exact h4) (h5.hand (by simp only [AV.idsOkL, Bool.and_eq_true] at e; exact e.1)) (h6.hand (by simp only [AV.idsOkL, Bool.and_eq_true] at e; exact e.2))
theorem RelRow.hand : ∀ {nw : Bool} {b sz o : Nat} {xs : List AV}, RelRow w B bs ρ nw b sz o xs → AV.idsOkL (fun k => ids.contains k) xs = true → RelRow w B bs' σ false b sz o (AV.handL ids xs)
  | _, _, _, _, _, .nil, _ => .nil
  | _, _, _, _, _, .cons (x := x) h1 h2 h3, e => .cons (by rw [AV.hand_cells, ← AV.handL_map]; exact h1.hand (by rw [AV.idsOkL_cells]; simp only [AV.idsOkL, Bool.and_eq_true] at e; exact e.1)) (by rw [AV.hand_cells]; simpa using h2) (h3.hand (by simp only [AV.idsOkL, Bool.and_eq_true] at e; exact e.2))
end
end hand
def Hand (ids : List Nat) (x y : AV) : Prop := SubX ids x y
def HandL (ids : List Nat) (xs ys : List AV) : Prop := SubXL ids xs ys
section handrules
variable {ids : List Nat}
theorem Hand.eq {x y : AV} (h : x.idsOk (fun k => ids.contains k) = true) (e : x.hand ids = y) : Hand ids x y := by
  subst e
  intro w B bs bs' ρ σ v hb hi hr
  exact hr.hand hi h
theorem Hand.keep {x y : AV} (h : x.idsOk (fun _ => false) = true) (e : x = y) : Hand ids x y := e ▸ SubX.keep h
theorem Hand.nil {nw : Bool} {sz : Nat} : Hand ids (.val (.slice none 0 0)) (.sl nw sz []) := by
  intro w B bs bs' ρ σ v hb hi hr
  cases hr
  exact .slE _ _ _ _
theorem Hand.agg {xs ys : List AV} (h : HandL ids xs ys) : Hand ids (.agg xs) (.agg ys) := SubX.agg h
theorem Hand.any {x : AV} : Hand ids x .any := SubX.any
theorem HandL.nil : HandL ids [] [] := trivial
theorem HandL.cons {x y : AV} {xs ys : List AV} (h : Hand ids x y) (h2 : HandL ids xs ys) : HandL ids (x :: xs) (y :: ys) := ⟨h, h2⟩
def HandC (ids : List Nat) : List AV → List AV → Prop
  | [], [] => True
  | x :: xs, y :: ys => Hand ids x y ∧ y.one = true ∧ HandC ids xs ys
  | _, _ => False
def HandR (ids : List Nat) (sz : Nat) : List AV → List AV → Prop
  | [], [] => True
  | x :: xs, y :: ys => HandC ids x.cells y.cells ∧ y.cells.length = sz ∧ HandR ids sz xs ys
  | _, _ => False
theorem HandC.rel : ∀ {xs ys : List AV} {w : World} {B : Nat → Prop} {bs bs' : Nat} {ρ σ : List Value} {nw : Bool} {b o : Nat}, HandC ids xs ys → bs' ≤ bs → (∀ i k : Nat, ids[i]? = some k → σ[i]? = ρ[k]?) → RelCells w B bs ρ nw b o xs → RelCells w B bs' σ false b o ys
  | [], [], _, _, _, _, _, _, _, _, _, _, _, _, .nil => .nil
  | x :: xs, y :: ys, _, _, _, _, _, _, _, _, _, h, hb, hi, .cons h1 h2 h3 h4 h5 h6 => .cons h1 (fun e => by cases e) h3 h.2.1 (h.1 _ _ _ _ _ _ _ hb hi h5) (HandC.rel h.2.2 hb hi h6)
  | [], _ :: _, _, _, _, _, _, _, _, _, _, h, _, _, _ => h.elim
  | _ :: _, [], _, _, _, _, _, _, _, _, _, h, _, _, _ => h.elim
theorem HandR.len {sz : Nat} : ∀ {xs ys : List AV}, HandR ids sz xs ys → xs.length = ys.length
  | [], [], _ => rfl
  | x :: xs, y :: ys, h => by simp only [List.length_cons, HandR.len h.2.2]
  | [], _ :: _, h => h.elim
  | _ :: _, [], h => h.elim
theorem HandR.rel {sz : Nat} : ∀ {xs ys : List AV} {w : World} {B : Nat → Prop} {bs bs' : Nat} {ρ σ : List Value} {nw : Bool} {b o : Nat}, HandR ids sz xs ys → bs' ≤ bs → (∀ i k : Nat, ids[i]? = some k → σ[i]? = ρ[k]?) → RelRow w B bs ρ nw b sz o xs → RelRow w B bs' σ false b sz o ys
  | [], [], _, _, _, _, _, _, _, _, _, _, _, _, .nil => .nil
  | x :: xs, y :: ys, _, _, _, _, _, _, _, _, _, h, hb, hi, .cons h1 h2 h3 => .cons (h.1.rel hb hi h1) h.2.1 (HandR.rel h.2.2 hb hi h3)
  | [], _ :: _, _, _, _, _, _, _, _, _, _, h, _, _, _ => h.elim
  | _ :: _, [], _, _, _, _, _, _, _, _, _, h, _, _, _ => h.elim
theorem Hand.sl {nw : Bool} {sz : Nat} {xs ys : List AV} (h : HandR ids sz xs ys) : Hand ids (.sl nw sz xs) (.sl false sz ys) := by
  intro w B bs bs' ρ σ v hb hi hr
  cases hr with
  | slE =>
    cases ys with
    | nil => exact .slE _ _ _ _
    | cons y ys => exact h.elim
  | sl hrow hc =>
    have h1 := HandR.rel (bs' := bs') h hb hi hrow
    have h2 := HandR.len h
    cases ys with
    | nil => simp at h2
    | cons y ys =>
      simp only [List.length_cons, Nat.add_right_cancel_iff] at h2
      rw [h2] at hc ⊢
      exact .sl h1 hc
theorem HandC.nil : HandC ids [] [] := trivial
theorem HandC.cons {x y : AV} {xs ys : List AV} (h : Hand ids x y) (h2 : HandC ids xs ys) (h1 : y.one = true := by first | rfl | decide) : HandC ids (x :: xs) (y :: ys) := ⟨h, h1, h2⟩
theorem HandR.nil {sz : Nat} : HandR ids sz [] [] := trivial
theorem HandR.cons {sz : Nat} {x y : AV} {xs ys cs ds : List AV} (h : HandC ids cs ds) (h2 : HandR ids sz xs ys) (e1 : x.cells = cs := by rfl) (e2 : y.cells = ds := by rfl) (e3 : ds.length = sz := by rfl) : HandR ids sz (x :: xs) (y :: ys) := ⟨by rw [e1, e2]; exact h, by rw [e2]; exact e3, h2⟩
end handrules
def Ob.hand (ids : List Nat) : Ob → Ob
  | .box T cs => .box T (AV.handL ids cs)
  | o => o
def handOk (ids : List Nat) : Ob → Bool
  | .box _ cs => AV.idsOkL (fun k => ids.contains k) cs && cs.all AV.oc
  | .row _ _ xs => AV.plL xs
  | .mp _ => true
  | .gone => false
theorem SubXL.hand {ids : List Nat} : ∀ {xs : List AV}, AV.idsOkL (fun k => ids.contains k) xs = true → SubXL ids xs (AV.handL ids xs)
  | [], _ => trivial
  | x :: xs, h => by
    simp only [AV.idsOkL, Bool.and_eq_true] at h
    exact ⟨Hand.eq h.1 rfl, SubXL.hand h.2⟩
theorem SubO.hand {ids : List Nat} {o : Ob} (h : handOk ids o = true) : o.live = true ∧ SubO ids o (o.hand ids) := by
  cases o with
  | box T cs =>
    simp only [handOk, Bool.and_eq_true] at h
    refine ⟨rfl, rfl, SubXL.hand h.1, ?_⟩
    rw [AV.handL_map, List.all_map]
    refine Eq.trans ?_ h.2
    congr 1
    funext x
    exact AV.hand_oc ids x
  | row T sz xs => exact ⟨rfl, rfl, rfl, rfl, h⟩
  | mp es => exact ⟨rfl, rfl⟩
  | gone => simp [handOk] at h
def handObs (ids : List Nat) (ob : List Ob) : List Nat → List Ob
  | [] => []
  | i :: is => (ob.getD i .gone).hand ids :: handObs ids ob is
def handObsOk (ids : List Nat) (ob : List Ob) : List Nat → Bool
  | [] => true
  | i :: is => handOk ids (ob.getD i .gone) && handObsOk ids ob is
theorem SubOL.hand {ids : List Nat} {ob : List Ob} : ∀ {is : List Nat}, handObsOk ids ob is = true → SubOL ids ob is (handObs ids ob is)
  | [], _ => trivial
  | i :: is, h => by
    simp only [handObsOk, Bool.and_eq_true] at h
    obtain ⟨h1, h2⟩ := SubO.hand h.1
    refine ⟨⟨ob.getD i .gone, ?_, h1, h2⟩, SubOL.hand h.2⟩
    rw [List.getD_eq_getElem?_getD] at h1 ⊢
    cases he : ob[i]? with
    | none => rw [he] at h1; simp [Ob.live] at h1
    | some o => simp
section
variable {P : Program} {ops : Array Oper} {E : Env} {s s' : AS} {ρ σ : List Value} {B : Nat → Prop} {a : Act} {w w' : World} {o : Oper} {rest : List Oper} {Q : AS → Prop} {R : Exit → AS → Prop}
theorem ARun2.callA {f : FuncId} {args : Array Operand} {ts : Array TypeId} {ys : List AV} {r : AV} (hp : PC P f ys r) (hg : gd ops s o = some true) (ho : o.op = .call { callee := .value (.func f), args := args, argTypes := ts }) (hc : callable P f = true)
    (hsub : HandL [] (args.toList.map s.ev) ys) (k : ARun P ops rest (s.put o.dst r) Q) : ARun2 P ops (o :: rest, s) Q :=
  ARun2.call hp hg ho hc (SubL.of hsub) k
theorem ARun2.callB {f : FuncId} {g : Operand} {cap : List AV} {args : Array Operand} {ts : Array TypeId} {ys : List AV} {τ τ' : List Ob} {r : AV} (ids : List Nat) (hp : OC P f ys τ r τ') (hgd : gd ops s o = some true)
    (ho : o.op = .call { callee := .value g, args := args, argTypes := ts }) (hg : s.ev g = .fn (.func f) [] cap) (hc : callable P f = true) (hn : ids.Nodup) (hok : handObsOk ids s.ob ids = true) (hτ : handObs ids s.ob ids = τ)
    (hsub : HandL ids (args.toList.map s.ev ++ cap) ys) (hm : ids.length ≤ τ'.length)
    (k : ARun P ops rest ({ s with ob := obAfter s.ob ids τ τ', fr := frInvalL (rowIds ids τ) s.fr }.put o.dst (r.ren (phi ids s.ob.length))) Q) : ARun2 P ops (o :: rest, s) Q :=
  ARun2.callO ids hp hgd ho hg hc hn (hτ ▸ SubOL.hand hok) hsub hm k
theorem ARun2.callVA {f : FuncId} {g : Operand} {cap : List AV} {args : Array Operand} {ts : Array TypeId} {ys : List AV} {r : AV} (hp : PC P f ys r) (hgd : gd ops s o = some true) (ho : o.op = .call { callee := .value g, args := args, argTypes := ts })
    (hg : s.ev g = .fn (.func f) [] cap) (hc : callable P f = true) (hsub : HandL [] (args.toList.map s.ev ++ cap) ys) (k : ARun P ops rest (s.put o.dst r) Q) : ARun2 P ops (o :: rest, s) Q :=
  ARun2.callV hp hgd ho hg hc (SubL.of hsub) k
def isAl : Op → Bool
  | .alloc _ => true
  | _ => false
def PSpec (P : Program) (ops : Array Oper) (s : AS) (nds : List (List (Nat × Option Nat))) (vals : List AV) : Prop :=
  ∀ i o, i < vals.length → ops[i]? = some o → isAl o.op = false → NSpec P ops o { s with fr := needFr s.fr vals (nds.getD i []) } (vals.getD i .any)
def Dr (P : Program) (ops : Array Oper) (s : AS) (nds : List (List (Nat × Option Nat))) (vals : List AV) (G : Prop) : Prop := PSpec P ops s nds vals → G
def ndsB (nds : List (List (Nat × Option Nat))) : Bool := (List.range nds.length).all fun i => (nds.getD i []).all fun p => match p.2 with
  | some j => decide (j < i)
  | none => true
theorem needFr_app {fr : List (Nat × AV)} {vals vs : List AV} : ∀ {nd : List (Nat × Option Nat)}, (∀ p ∈ nd, ∀ j, p.2 = some j → j < vals.length) → needFr fr (vals ++ vs) nd = needFr fr vals nd
  | [], _ => rfl
  | (t, some j) :: r, h => by
    have hj := h (t, some j) (by simp) j rfl
    simp only [needFr]
    rw [needFr_app fun p hp => h p (by simp [hp])]
    congr 2
    rw [List.getD_eq_getElem?_getD, List.getD_eq_getElem?_getD, List.getElem?_append_left hj]
  | (t, none) :: r, h => by
    simp only [needFr]
    rw [needFr_app fun p hp => h p (by simp [hp])]
theorem Dr.step' {G : Prop} {nds : List (List (Nat × Option Nat))} {vals : List AV} {x : AV} (hn : ndsB nds = true) (ho : ops[vals.length]? = some o) (h : isAl o.op = false → NSpec P ops o { s with fr := needFr s.fr vals (nds.getD vals.length []) } x)
    (k : Dr P ops s nds (vals ++ [x]) G) : Dr P ops s nds vals G := by
  intro hp
  refine k ?_
  have low : ∀ i, i ≤ vals.length → needFr s.fr (vals ++ [x]) (nds.getD i []) = needFr s.fr vals (nds.getD i []) := by
    intro i hi
    refine needFr_app fun p hp j hj => ?_
    rcases Nat.lt_or_ge i nds.length with hl | hl
    · have h1 := List.all_eq_true.1 (List.all_eq_true.1 hn i (List.mem_range.2 hl)) p hp
      rw [hj] at h1
      have : j < i := by simpa using h1
      omega
    · rw [List.getD_eq_getElem?_getD, List.getElem?_eq_none hl] at hp
      simp at hp
  intro i o' hi ho' hna
  rw [List.length_append, List.length_cons, List.length_nil] at hi
  rw [low i (by omega)]
  rcases Nat.lt_or_ge i vals.length with hl | hl
  · have e : (vals ++ [x]).getD i .any = vals.getD i .any := by simp only [List.getD_eq_getElem?_getD, List.getElem?_append_left hl]
    rw [e]
    exact hp i o' hl ho' hna
  · have hie : i = vals.length := by omega
    subst hie
    rw [ho] at ho'
    have := Option.some.inj ho'
    subst this
    have e : (vals ++ [x]).getD vals.length .any = x := by simp [List.getD_eq_getElem?_getD]
    rw [e]
    exact h hna
theorem Dr.step {G : Prop} {nds : List (List (Nat × Option Nat))} {vals : List AV} {x : AV} (hn : ndsB nds = true) (ho : ops[vals.length]? = some o) (h : NSpec P ops o { s with fr := needFr s.fr vals (nds.getD vals.length []) } x)
    (k : Dr P ops s nds (vals ++ [x]) G) : Dr P ops s nds vals G := Dr.step' hn ho (fun _ => h) k
def drB (ops : Array Oper) (n sn : Nat) (fr : List (Nat × AV)) (new : List (Nat × Nat)) (old : List Nat) : Bool :=
  (new.all fun p => decide (p.1 < sn) && decide (p.2 < n) && decide (dstOf ops p.2 = some p.1)) &&
  (old.all fun t => decide (t < sn) && (List.range n).all fun i => decide (dstOf ops i ≠ some t))
def noAl (ops : Array Oper) (n : Nat) (i0 : Option Nat) : Bool := (List.range n).all fun i => decide (i0 = some i) || match ops[i]? with
  | some o => !isAl o.op
  | none => true
theorem drFr {n : Nat} {new : List (Nat × Nat)} {old : List Nat} {vals : List AV} (hk : drB ops n s.n s.fr new old = true) : ∀ t x, (t, x) ∈ (new.map fun p => (p.1, vals.getD p.2 .any)) ++ keepFr s.fr old →
    t < s.n ∧ ((∃ i, i < n ∧ dstOf ops i = some t ∧ x = vals.getD i .any) ∨ ((∀ i, i < n → dstOf ops i ≠ some t) ∧ x = lk s.fr t)) := by
  intro t x hmem
  simp only [drB, Bool.and_eq_true] at hk
  rcases List.mem_append.1 hmem with h | h
  · simp only [List.mem_map] at h
    obtain ⟨p, hp, e⟩ := h
    have e1 : p.1 = t := congrArg Prod.fst e
    have e2 : vals.getD p.2 .any = x := congrArg Prod.snd e
    have := List.all_eq_true.1 hk.1 p hp
    simp only [Bool.and_eq_true, decide_eq_true_eq] at this
    subst e1; subst e2
    exact ⟨this.1.1, .inl ⟨p.2, this.1.2, this.2, rfl⟩⟩
  · obtain ⟨h1, rfl⟩ := keepFr_mem h
    have := List.all_eq_true.1 hk.2 t h1
    simp only [Bool.and_eq_true, decide_eq_true_eq] at this
    exact ⟨this.1, .inr ⟨fun i hi => by simpa using List.all_eq_true.1 this.2 i (List.mem_range.2 hi), rfl⟩⟩
theorem AWp.drA {id : Nat} {n : Nat} (i0 : Nat) {o0 : Oper} {T : TypeId} {z : List Value} (nds : List (List (Nat × Option Nat))) (new : List (Nat × Nat)) (old : List Nat) (vals : List AV) (hm : P.follows .mixedOrders = true) (hB : drawnB ops n s.n nds = true)
    (hk : drB ops n s.n s.fr new old = true) (ha : noAl ops n (some i0) = true) (hl : vals.length = n) (hp : PSpec P ops s nds vals) (h0 : ops[i0]? = some o0) (ho : o0.op = .alloc T) (hg : o0.guard = none) (hz : zc P T = some z) (hlt : i0 < n) (hv : vals.getD i0 .any = .ptr s.ob.length 0)
    (k : ARun P ops (ops.toList.drop n) { s with fr := (new.map fun p => (p.1, vals.getD p.2 .any)) ++ keepFr s.fr old, ob := s.ob ++ [.box T (z.map AV.val)] } (R .normal)) : AWp P (.region id ops true) s R := by
  subst hl
  refine AWp.drawn vals.length nds vals (some (i0, .box T (z.map AV.val))) _ hm hB (fun i o h => ?_) (fun i o h1 h2 h3 => hp i o h1 h2 ?_) (fun i o ob h h2 => ?_) (drFr hk) (by simpa [oball] using k)
  · cases h; exact hlt
  · have := List.all_eq_true.1 ha i (List.mem_range.2 h1)
    simp only [h2, Bool.or_eq_true, decide_eq_true_eq, Bool.not_eq_true'] at this
    rcases this with h | h
    · cases h; exact absurd rfl (h3 _)
    · exact h
  · cases h
    rw [h0] at h2
    cases h2
    rw [hv]
    exact ASpec.alloc (by simp only [gd, hg]) ho hz
theorem AWp.dr {id : Nat} {n : Nat} (nds : List (List (Nat × Option Nat))) (new : List (Nat × Nat)) (old : List Nat) (vals : List AV) (hm : P.follows .mixedOrders = true) (hB : drawnB ops n s.n nds = true)
    (hk : (drB ops n s.n s.fr new old && noAl ops n none) = true) (hl : vals.length = n) (hp : PSpec P ops s nds vals)
    (k : ARun P ops (ops.toList.drop n) { s with fr := (new.map fun p => (p.1, vals.getD p.2 .any)) ++ keepFr s.fr old } (R .normal)) : AWp P (.region id ops true) s R := by
  subst hl
  rw [Bool.and_eq_true] at hk
  refine AWp.drawn vals.length nds vals none _ hm hB (fun i o h => by cases h) (fun i o h1 h2 _ => hp i o h1 h2 ?_) (fun i o ob h => by cases h) (drFr hk.1) (by simpa [oball] using k)
  have := List.all_eq_true.1 hk.2 i (List.mem_range.2 h1)
  simp only [h2, Bool.or_eq_true, decide_eq_true_eq, Bool.not_eq_true'] at this
  rcases this with h | h
  · cases h
  · exact h
theorem AWp.drS {id : Nat} {y : Code} (nds : List (List (Nat × Option Nat))) (h : ∀ G : Prop, (∀ vals, PSpec P ops s nds vals → AWp P (.region id ops true) s (thenQ (fun s' => AWp P y s' R) R) → G) → Dr P ops s nds [] G) : AWp P (.seq (.region id ops true) y) s R := by
  refine AWp.seq ?_
  exact h _ (fun vals hp hg => hg) (fun i o hi => by simp at hi)
theorem Dr.fin {id : Nat} {n : Nat} {G : Prop} {nds : List (List (Nat × Option Nat))} {vals : List AV} {y : Code} (new : List (Nat × Nat)) (old : List Nat) (hG : ∀ vals, PSpec P ops s nds vals → AWp P (.region id ops true) s (thenQ (fun s' => AWp P y s' R) R) → G)
    (hl : vals.length = n) (hm : P.follows .mixedOrders = true) (hB : drawnB ops n s.n nds = true) (hk : (drB ops n s.n s.fr new old && noAl ops n none) = true)
    (k : ∀ K : AS → Prop, (∀ s', AWp P y s' R → K s') → ARun2 P ops (Abs.srun P ops (ops.toList.drop n) { s with fr := (new.map fun p => (p.1, vals.getD p.2 .any)) ++ keepFr s.fr old }) K) : Dr P ops s nds vals G := by
  intro hp
  exact hG vals hp (AWp.dr nds new old vals hm hB hk hl hp (ARun.srun (k _ fun _ h => h)))
theorem AWp.drE {id : Nat} (nds : List (List (Nat × Option Nat))) (h : ∀ G : Prop, (∀ vals, PSpec P ops s nds vals → AWp P (.region id ops true) s R → G) → Dr P ops s nds [] G) : AWp P (.region id ops true) s R := by
  exact h _ (fun vals hp hg => hg) (fun i o hi => by simp at hi)
theorem Dr.finE {id : Nat} {n : Nat} {G : Prop} {nds : List (List (Nat × Option Nat))} {vals : List AV} (new : List (Nat × Nat)) (old : List Nat) (hG : ∀ vals, PSpec P ops s nds vals → AWp P (.region id ops true) s R → G)
    (hl : vals.length = n) (hm : P.follows .mixedOrders = true) (hB : drawnB ops n s.n nds = true) (hk : (drB ops n s.n s.fr new old && noAl ops n none) = true)
    (k : ∀ K : AS → Prop, (∀ s', R .normal s' → K s') → ARun2 P ops (Abs.srun P ops (ops.toList.drop n) { s with fr := (new.map fun p => (p.1, vals.getD p.2 .any)) ++ keepFr s.fr old }) K) : Dr P ops s nds vals G := by
  intro hp
  exact hG vals hp (AWp.dr nds new old vals hm hB hk hl hp (ARun.srun (k _ fun _ h => h)))
theorem NSpec.grd {g : Bool} {x : AV} (hg : gd ops s o = some g) (h : g = true → NSpec P ops o s x) : NSpec P ops o s (bif g then x else .val (.tuple #[])) := by
  cases g with
  | true => exact h rfl
  | false => exact NSpec.pass hg
theorem NSpec.callA {f : FuncId} {args : Array Operand} {ts : Array TypeId} {ys : List AV} {r : AV} (hp : PC P f ys r) (hg : gd ops s o = some true) (ho : o.op = .call { callee := .value (.func f), args := args, argTypes := ts }) (hc : callable P f = true)
    (hsub : HandL [] (args.toList.map s.ev) ys) : NSpec P ops o s r := NSpec.call hg ho hc hp (SubL.of hsub)
end
attribute [push_cast] bif_not bif_bif1 bif_bif2 bif_nbif1 bif_nbif2 bif_bool bif_same bif_ff bif_tt bif_ft bif_tf gdv_bif gdv keepFr posOf AV.hand AV.handL Ob.hand handOk handObs handObsOk List.contains_cons List.contains_nil List.append_assoc bif_t bif_f beq_true beq_false Bool.not_not List.getElem?_append_left List.nodup_cons List.nodup_nil obAfter rowIds setAll Ob.invalL AV.invalL frInvalL AV.ren AV.renL Ob.ren phi
set_option linter.unusedVariables false
set_option linter.unusedSectionVars false
set_option linter.unusedSimpArgs false
set_option linter.unnecessarySimpa false
section
variable {P : Program} {ops : Array Oper} {E : Env} {s s' : AS} {ρ σ : List Value} {B : Nat → Prop} {a : Act} {w w' : World} {o : Oper} {rest : List Oper} {Q : AS → Prop} {R : Exit → AS → Prop}
theorem ARun2.indexN {T : TypeId} {x i : Operand} {nw : Bool} {sz : Nat} {xs : List AV} {k : IntKind} (n : Nat) (y : AV) (hg : gd ops s o = some true) (ho : o.op = .indexAddr T x i) (hx : s.ev x = .sl nw sz xs) (hi : s.ev i = .val (.int k (N n)))
    (hz : elSz P T = some sz) (hs0 : sz ≠ 0) (hy : xs[n]? = some y) (K : ARun P ops rest (s.put o.dst (.ref nw y)) Q) : ARun2 P ops (o :: rest, s) Q :=
  ARun.exec hg (AOp.index ho hx hi hz hs0 (Int.natCast_nonneg n) (by rw [show (N n).toNat = n from Int.toNat_natCast n]; exact hy) K)
theorem NSpec.indexN {T : TypeId} {x i : Operand} {nw : Bool} {sz : Nat} {xs : List AV} {k : IntKind} (n : Nat) (y : AV) (hg : gd ops s o = some true) (ho : o.op = .indexAddr T x i) (hx : s.ev x = .sl nw sz xs) (hi : s.ev i = .val (.int k (N n)))
    (hz : elSz P T = some sz) (hs0 : sz ≠ 0) (hy : xs[n]? = some y) : NSpec P ops o s (.ref nw y) :=
  NSpec.index hg ho hx hi hz hs0 (Int.natCast_nonneg n) (by rw [show (N n).toNat = n from Int.toNat_natCast n]; exact hy)
theorem Hand.tup {ids : List Nat} {xs ys : List AV} (h : HandL ids xs ys) : Hand ids (.tup xs) (.tup ys) := fun _ _ _ _ _ _ _ hb hi hr => by
  cases hr with
  | tup h1 => exact .tup (h.rel hb hi h1)
theorem PC.of_bodyW {f : FuncId} {fn : Func} {c : Code} {args : List AV} {r : AV} (hr : r.idsOk (fun _ => false) = true) (hf : P.funcs[f]? = some fn) (hb : fn.body = some c) (hn : args.length ≤ fn.ntmps)
    (h : AWp P c { n := fn.ntmps, m := 0, fr := frOf 0 args, ob := [] } (bodyQ P fn fun r' _ => Hand [] r' r)) : PC P f args r := by
  refine ⟨hr, ?_⟩
  intro ep w ρ B vs hg hw hrel R' hR'
  refine ACalls.of_body (τ := []) (R := fun r' _ => Hand [] r' r) hf hb hn h ep w ρ B vs hg hw hrel R' ?_
  rintro r' v τ' ρ' B' w' hh hw' hv
  have hρ : ρ = [] := by have := hw.len; simpa using this
  subst hρ
  refine hR' _ v [] [] B' w' ⟨rfl, rfl⟩ ?_ (hh _ _ _ _ _ [] _ (Nat.le_refl _) (by intro i k hk; simp at hk) hv)
  have := hw'.cut (n := 0) (by simp) (by intro k o h; simp at h)
  simpa using this
theorem endO.mk {ids : List Nat} {r0 r : AV} {τ' : List Ob} (hn : ids.Nodup) (hok : handObsOk ids s.ob ids = true) (hτ : handObs ids s.ob ids = τ') (hr : Hand ids r r0) : endO ids r0 τ' r s :=
  ⟨hn, hτ ▸ SubOL.hand hok, hr⟩
theorem AWp.regionA {id : Nat} {y : Code} (h : ∀ K : AS → Prop, (∀ s', AWp P y s' R → K s') → ARun P ops ops.toList s K) : AWp P (.seq (.region id ops false) y) s R := AWp.seq (AWp.region (h _ fun _ h => h))
theorem AWp.regionB {id : Nat} (h : ∀ K : AS → Prop, (∀ s', R .normal s' → K s') → ARun P ops ops.toList s K) : AWp P (.region id ops false) s R := AWp.region (h _ fun _ h => h)
theorem AWp.loopK0 {α : Type} {c : Code} (ks : List Nat) (upd : α → List (Nat × AV)) (p : α → Prop) (μ : α → Nat) (x : α)
    (h0 : Le s { s with fr := upd x ++ keepFr s.fr ks }) (hp : p x)
    (round : ∀ x, p x → ∀ K : AS → Prop, (∀ s' y, p y → μ y < μ x → Le s' { s with fr := upd y ++ keepFr s.fr ks } → K s') → AWp P c { s with fr := upd x ++ keepFr s.fr ks } (thenQ K R)) : AWp P (.loop c) s R :=
  AWp.loopS (fun x => { s with fr := upd x ++ keepFr s.fr ks }) p μ x h0 hp fun x hx => round x hx _ fun s' y h1 h2 h3 => ⟨y, h1, h2, h3⟩
def sameK (fr fr0 : List (Nat × AV)) : List Nat → Prop
  | [] => True
  | t :: ks => lk fr t = lk fr0 t ∧ sameK fr fr0 ks
theorem sameK_get {fr fr0 : List (Nat × AV)} : ∀ {ks : List Nat}, sameK fr fr0 ks → ∀ t ∈ ks, lk fr t = lk fr0 t
  | [], _, t, h => by simp at h
  | k :: ks, h, t, hm => by
    rcases List.mem_cons.1 hm with e | hm
    · rw [e]; exact h.1
    · exact sameK_get h.2 t hm
theorem Le.grp {S : AS} {d : Nat} {x : AV} {ks : List Nat} {fr0 : List (Nat × AV)} (hS : S = { s with fr := (d, x) :: keepFr fr0 ks }) (hd : decide (d < s.n) = true) (hx : lk s.fr d = x) (hlt : (ks.all fun t => decide (t < s.n)) = true) (hk : sameK s.fr fr0 ks) : Le s S := by
  subst hS
  intro E ρ B a w hs
  refine ⟨ρ, B, hs.rw_, hs.m, hs.n, hs.df, hs.jj, ?_⟩
  intro t y hm
  rcases List.mem_cons.1 hm with e | hm
  · have e1 : t = d := congrArg Prod.fst e
    have e2 : y = x := congrArg Prod.snd e
    subst e1; subst e2
    refine ⟨by rw [hs.n]; simpa using hd, ?_⟩
    rw [← hx]; exact hs.get t
  · obtain ⟨h1, rfl⟩ := keepFr_mem hm
    refine ⟨by rw [hs.n]; simpa using List.all_eq_true.1 hlt t h1, ?_⟩
    rw [← sameK_get hk t h1]; exact hs.get t
theorem AWp.loopKT {α : Type} {c : Code} (ks : List Nat) (upd : α → List (Nat × AV)) (obs : α → List Ob) (trs : α → List (List AV)) (p : α → Prop) (μ : α → Nat) (x : α)
    (h0 : Le s { s with fr := upd x ++ keepFr s.fr ks, ob := obs x, tr := trs x, go := true }) (hp : p x)
    (round : ∀ x, p x → ∀ K : AS → Prop, (∀ s' y, p y → μ y < μ x → Le s' { s with fr := upd y ++ keepFr s.fr ks, ob := obs y, tr := trs y, go := true } → K s') → AWp P c { s with fr := upd x ++ keepFr s.fr ks, ob := obs x, tr := trs x, go := true } (thenQ K R)) : AWp P (.loop c) s R :=
  AWp.loopS (fun x => { s with fr := upd x ++ keepFr s.fr ks, ob := obs x, tr := trs x, go := true }) p μ x h0 hp fun x hx => round x hx _ fun s' y h1 h2 h3 => ⟨y, h1, h2, h3⟩
theorem Le.mk {S : AS} (n : Nat) (h1 : S.n = s.n ∧ S.m = s.m ∧ S.df = s.df ∧ S.yl = s.yl ∧ S.tr = s.tr ∧ S.go = s.go) (hob : s.ob.take n = S.ob) (hmn : decide (s.m ≤ n) = true) (hk : keeps s.fr S.fr) (hf : frIds (· < n) S.fr = true)
    (ho : S.ob.all (obIds (· < n)) = true) : Le s S := Le.to n h1 hob (of_decide_eq_true hmn) hk hf ho
end
attribute [push_cast] sameK
set_option linter.unusedVariables false
set_option linter.unusedSectionVars false
set_option linter.unusedSimpArgs false
set_option linter.unnecessarySimpa false
theorem N_lit (n : Nat) : N (no_index (OfNat.ofNat n)) = OfNat.ofNat n := rfl
theorem N_eq (k m : Nat) : (N k == N m) = (k == m) := by rw [Bool.eq_iff_iff]; simp [N]; omega
theorem N_eql (k n : Nat) : (N k == (no_index (OfNat.ofNat n) : Int)) = (k == OfNat.ofNat n) := N_eq k n
theorem N_ne (k m : Nat) : (N k != N m) = (k != m) := by unfold bne; rw [N_eq]
theorem N_nel (k n : Nat) : (N k != (no_index (OfNat.ofNat n) : Int)) = (k != OfNat.ofNat n) := N_ne k n
theorem N_lt (k m : Nat) : (N k < N m) = (k < m) := by rw [eq_iff_iff]; unfold N; omega
theorem N_ltl (k n : Nat) : (N k < (no_index (OfNat.ofNat n) : Int)) = (k < OfNat.ofNat n) := N_lt k n
theorem N_ltr (k n : Nat) : ((no_index (OfNat.ofNat n) : Int) < N k) = (OfNat.ofNat n < k) := N_lt n k
theorem N_le (k m : Nat) : (N k ≤ N m) = (k ≤ m) := by rw [eq_iff_iff]; unfold N; omega
theorem N_lel (k n : Nat) : (N k ≤ (no_index (OfNat.ofNat n) : Int)) = (k ≤ OfNat.ofNat n) := N_le k n
theorem N_ler (k n : Nat) : ((no_index (OfNat.ofNat n) : Int) ≤ N k) = (OfNat.ofNat n ≤ k) := N_le n k
theorem N_zero (k : Nat) (h : 0 < k) : (N k = 0) = False := eq_false (by unfold N; omega)
theorem N_neg (k : Nat) : (N k < 0) = False := eq_false (by unfold N; omega)
theorem N_toNat (k : Nat) : (N k).toNat = k := Int.toNat_natCast k
theorem N_inj {a b : Nat} : (N a = N b) = (a = b) := by rw [eq_iff_iff]; unfold N; omega
theorem N_div (a b : Nat) : (N a).tdiv (N b) = N (a / b) := rfl
theorem N_divl (a n : Nat) : (N a).tdiv (no_index (OfNat.ofNat n) : Int) = N (a / OfNat.ofNat n) := rfl
theorem N_mod (a b : Nat) : (N a).tmod (N b) = N (a % b) := rfl
theorem N_modl (a n : Nat) : (N a).tmod (no_index (OfNat.ofNat n) : Int) = N (a % OfNat.ofNat n) := rfl
theorem w_nat (a : Nat) (h : a < 2 ^ 63) : IntKind.i64.wrap (N a) = N a := by rw [IntKind.wrap_i64]; unfold N; omega
theorem w_add (a b : Nat) (h : a + b < 2 ^ 63) : IntKind.i64.wrap (N a + N b) = N (a + b) := by rw [IntKind.wrap_i64]; unfold N; omega
theorem w_addl (a n : Nat) (h : a + OfNat.ofNat n < 2 ^ 63) : IntKind.i64.wrap (N a + (no_index (OfNat.ofNat n) : Int)) = N (a + OfNat.ofNat n) := w_add a n h
theorem w_addr (a n : Nat) (h : OfNat.ofNat n + a < 2 ^ 63) : IntKind.i64.wrap ((no_index (OfNat.ofNat n) : Int) + N a) = N (OfNat.ofNat n + a) := w_add n a h
theorem w_sub (a b : Nat) (h : b ≤ a) (h2 : a < 2 ^ 63) : IntKind.i64.wrap (N a - N b) = N (a - b) := by rw [IntKind.wrap_i64]; unfold N; omega
theorem w_subl (a n : Nat) (h : OfNat.ofNat n ≤ a) (h2 : a < 2 ^ 63) : IntKind.i64.wrap (N a - (no_index (OfNat.ofNat n) : Int)) = N (a - OfNat.ofNat n) := w_sub a n h h2
theorem w_mul (a b : Nat) (h : a * b < 2 ^ 63) : IntKind.i64.wrap (N a * N b) = N (a * b) := by
  rw [show N a * N b = N (a * b) from (Int.natCast_mul a b).symm]; exact w_nat _ h
theorem w_mull (a n : Nat) (h : a * OfNat.ofNat n < 2 ^ 63) : IntKind.i64.wrap (N a * (no_index (OfNat.ofNat n) : Int)) = N (a * OfNat.ofNat n) := w_mul a n h
theorem w_mulr (a n : Nat) (h : OfNat.ofNat n * a < 2 ^ 63) : IntKind.i64.wrap ((no_index (OfNat.ofNat n) : Int) * N a) = N (OfNat.ofNat n * a) := w_mul n a h
theorem wrap_u16 (n : Int) : IntKind.u16.wrap n = n % 65536 := by simp [IntKind.wrap, IntKind.bits, IntKind.signed]
theorem w_u32 (a : Nat) (h : a < 2 ^ 32) : IntKind.u32.wrap (N a) = N a := by rw [IntKind.wrap_u32]; unfold N; omega
theorem w_u16 (a : Nat) (h : a < 2 ^ 16) : IntKind.u16.wrap (N a) = N a := by rw [wrap_u16]; unfold N; omega
theorem w_u8 (a : Nat) (h : a < 2 ^ 8) : IntKind.u8.wrap (N a) = N a := by rw [IntKind.wrap_u8]; unfold N; omega
theorem w_b64 (b : UInt8) : IntKind.i64.wrap (N b.toNat) = N b.toNat := w_nat _ (by have := b.toNat_lt; omega)
theorem w_b32 (b : UInt8) : IntKind.u32.wrap (N b.toNat) = N b.toNat := w_u32 _ (by have := b.toNat_lt; omega)
theorem w_b16 (b : UInt8) : IntKind.u16.wrap (N b.toNat) = N b.toNat := w_u16 _ (by have := b.toNat_lt; omega)
theorem w_b8 (b : UInt8) : IntKind.u8.wrap (N b.toNat) = N b.toNat := w_u8 _ b.toNat_lt
theorem w_u32a (a b : Nat) (h : a + b < 2 ^ 32) : IntKind.u32.wrap (N a + N b) = N (a + b) := by rw [IntKind.wrap_u32]; unfold N; omega
attribute [push_cast] N_lit N_eq N_eql N_ne N_nel N_lt N_ltl N_ltr N_le N_lel N_ler N_neg N_toNat Nat.not_lt_zero N_div N_divl N_mod N_modl w_b64 w_b32 w_b16 w_b8 gt_iff_lt ge_iff_le
attribute [push_cast] List.length_cons List.length_nil decide_true decide_false Bool.and_self ne_eq not_false_eq_true not_true_eq_false Bool.true_or Bool.false_or Bool.or_true Bool.or_false Bool.not_false Bool.not_true
section
variable {P : Program} {ops : Array Oper} {E : Env} {s s' : AS} {ρ σ : List Value} {B : Nat → Prop} {a : Act} {w w' : World} {o : Oper} {rest : List Oper} {Q : AS → Prop} {R : Exit → AS → Prop}
theorem Hand.fn {ids : List Nat} {f : Fn} {xs ys zs us : List AV} (h : HandL ids xs ys) (h2 : HandL ids zs us) : Hand ids (.fn f xs zs) (.fn f ys us) := SubX.fn h h2
theorem ARun2.ev {p p' : List Oper × AS} (k : ARun2 P ops p' Q) (h : p = p' := by
        exact Go.Abs.evE) : ARun2 P ops p Q := h ▸ k
theorem ARun2.gom {l : List Oper} {p : List Oper × AS} (k : ARun2 P ops p Q) (h : Abs.srun P ops l s = p := by
        exact Go.Abs.evE) : ARun P ops l s Q := ARun.srun (h ▸ k)
theorem ARun2.endm {K : AS → Prop} {s : AS} (h : K s) : ARun2 P ops ([], s) K := ARun.nil h
theorem AWp.regionM {id : Nat} {y : Code} {p : List Oper × AS} (k : ∀ K : AS → Prop, (∀ s', AWp P y s' R → K s') → ARun2 P ops p K) (h : srun P ops ops.toList s = p := by
        exact Go.Abs.evE) : AWp P (.seq (.region id ops false) y) s R :=
  AWp.regionS (h ▸ k)
theorem AWp.regionN {id : Nat} {p : List Oper × AS} (k : ∀ K : AS → Prop, (∀ s', R .normal s' → K s') → ARun2 P ops p K) (h : srun P ops ops.toList s = p := by
        exact Go.Abs.evE) : AWp P (.region id ops false) s R :=
  AWp.regionE (h ▸ k)
theorem AWp.regionW {id : Nat} {y : Code} {s' : AS} (k : AWp P y s' R) (h : srun P ops ops.toList s = ([], s') := by
        exact Go.Abs.evE) : AWp P (.seq (.region id ops false) y) s R :=
  AWp.regionS fun K hK => by rw [h]; exact ARun.nil (hK _ k)
theorem AWp.regionV {id : Nat} {s' : AS} (k : R .normal s') (h : srun P ops ops.toList s = ([], s') := by
        exact Go.Abs.evE) : AWp P (.region id ops false) s R :=
  AWp.regionE fun K hK => by rw [h]; exact ARun.nil (hK _ k)
theorem ARun.segm {l : List Oper} (n : Nat) {p : List Oper × AS} (k : ∀ K : AS → Prop, (∀ s', ARun P ops (l.drop n) s' Q → K s') → ARun2 P ops p K) (h : Abs.srun P ops (l.take n) s = p := by
        exact Go.Abs.evE) : ARun P ops l s Q :=
  ARun.seg n (h ▸ k)
theorem ARun2.callM {f : FuncId} {args : Array Operand} {ts : Array TypeId} {ys : List AV} {r : AV} {p : List Oper × AS} (hp : PC P f ys r) (k : ARun2 P ops p Q)
    (ho : o.op = .call { callee := .value (.func f), args := args, argTypes := ts } := by rfl) (hg : gd ops s o = some true := by exact Go.Abs.evT) (hc : callable P f = true := by first | exact Go.Abs.evT | assumption)
    (hsub : HandL [] (args.toList.map s.ev) ys := by
      exact Go.Abs.evH)
    (h : srun P ops rest (s.put o.dst r) = p := by
        exact Go.Abs.evE) : ARun2 P ops (o :: rest, s) Q := ARun2.callA hp hg ho hc hsub (ARun.srun (h ▸ k))
theorem ARun2.callVM {f : FuncId} {g : Operand} {cap : List AV} {args : Array Operand} {ts : Array TypeId} {ys : List AV} {r : AV} {p : List Oper × AS} (hp : PC P f ys r) (k : ARun2 P ops p Q)
    (ho : o.op = .call { callee := .value g, args := args, argTypes := ts } := by rfl) (hgd : gd ops s o = some true := by exact Go.Abs.evT) (hg : s.ev g = .fn (.func f) [] cap := by exact Go.Abs.evT) (hc : callable P f = true := by first | exact Go.Abs.evT | assumption)
    (hsub : HandL [] (args.toList.map s.ev ++ cap) ys := by
      exact Go.Abs.evH)
    (h : srun P ops rest (s.put o.dst r) = p := by
        exact Go.Abs.evE) : ARun2 P ops (o :: rest, s) Q := ARun2.callVA hp hgd ho hg hc hsub (ARun.srun (h ▸ k))
theorem ARun2.callOM {f : FuncId} {g : Operand} {cap : List AV} {args : Array Operand} {ts : Array TypeId} {ys : List AV} {τ τ' : List Ob} {r : AV} {p : List Oper × AS} (ids : List Nat) (hp : OC P f ys τ r τ') (k : ARun2 P ops p Q)
    (ho : o.op = .call { callee := .value g, args := args, argTypes := ts } := by rfl) (hgd : gd ops s o = some true := by exact Go.Abs.evT) (hg : s.ev g = .fn (.func f) [] cap := by exact Go.Abs.evT) (hc : callable P f = true := by first | exact Go.Abs.evT | assumption) (hn : ids.Nodup := by first | rfl | decide)
    (hok : handObsOk ids s.ob ids = true := by exact Go.Abs.evT) (hτ : handObs ids s.ob ids = τ := by exact Go.Abs.evT)
    (hsub : HandL ids (args.toList.map s.ev ++ cap) ys := by
      exact Go.Abs.evH) (hm : decide (ids.length ≤ τ'.length) = true := by exact Go.Abs.evT)
    (h : srun P ops rest ({ s with ob := obAfter s.ob ids τ τ', fr := frInvalL (rowIds ids τ) s.fr }.put o.dst (r.ren (phi ids s.ob.length))) = p := by
        exact Go.Abs.evE) : ARun2 P ops (o :: rest, s) Q :=
  ARun2.callB ids hp hgd ho hg hc hn hok hτ hsub (of_decide_eq_true hm) (ARun.srun (h ▸ k))
theorem ARun2.indexM {T : TypeId} {x i : Operand} {nw : Bool} {sz : Nat} {xs : List AV} {k : IntKind} {p : List Oper × AS} (n : Nat) (y : AV) (hy : xs[n]? = some y) (K : ARun2 P ops p Q)
    (ho : o.op = .indexAddr T x i := by rfl) (hg : gd ops s o = some true := by exact Go.Abs.evT) (hx : s.ev x = .sl nw sz xs := by exact Go.Abs.evT) (hi : s.ev i = .val (.int k (N n)) := by exact Go.Abs.evT)
    (hz : elSz P T = some sz := by exact Go.Abs.evT) (hs0 : decide (sz ≠ 0) = true := by first | rfl | decide) (h : srun P ops rest (s.put o.dst (.ref nw y)) = p := by
        exact Go.Abs.evE) : ARun2 P ops (o :: rest, s) Q :=
  ARun2.indexN n y hg ho hx hi hz (of_decide_eq_true hs0) hy (ARun.srun (h ▸ K))
theorem ARun2.sliceLoM {T : TypeId} {x lo : Operand} {nw : Bool} {sz : Nat} {xs : List AV} {k : IntKind} {p : List Oper × AS} (n : Nat) (hn : n ≤ xs.length) (K : ARun2 P ops p Q)
    (ho : o.op = .slice T x (some lo) none none := by rfl) (hg : gd ops s o = some true := by exact Go.Abs.evT) (hx : s.ev x = .sl nw sz xs := by exact Go.Abs.evT) (hl : s.ev lo = .val (.int k (N n)) := by exact Go.Abs.evT)
    (hz : elSz P T = some sz := by exact Go.Abs.evT) (h : srun P ops rest (s.put o.dst (.sl nw sz (xs.drop n))) = p := by
        exact Go.Abs.evE) : ARun2 P ops (o :: rest, s) Q := by
  refine ARun2.slice (l := N n) (h := N xs.length) hg ho hx (by rw [Option.map_some, hl]; rfl) (fun h => by cases h) rfl (fun _ => rfl) hz (Int.natCast_nonneg n) (Int.ofNat_le.2 hn) (Int.le_refl _) ?_
  rw [N_toNat, N_toNat, List.take_of_length_le (Nat.le_refl _)]
  exact ARun.srun (h ▸ K)
theorem ARun2.sliceM {T : TypeId} {x lo hi : Operand} {nw : Bool} {sz : Nat} {xs : List AV} {k k' : IntKind} {p : List Oper × AS} (m n : Nat) (hmn : m ≤ n) (hn : n ≤ xs.length) (K : ARun2 P ops p Q)
    (ho : o.op = .slice T x (some lo) (some hi) none := by rfl) (hg : gd ops s o = some true := by exact Go.Abs.evT) (hx : s.ev x = .sl nw sz xs := by exact Go.Abs.evT) (hl : s.ev lo = .val (.int k (N m)) := by exact Go.Abs.evT) (hh : s.ev hi = .val (.int k' (N n)) := by exact Go.Abs.evT)
    (hz : elSz P T = some sz := by exact Go.Abs.evT) (h : srun P ops rest (s.put o.dst (.sl nw sz ((xs.take n).drop m))) = p := by
        exact Go.Abs.evE) : ARun2 P ops (o :: rest, s) Q := by
  refine ARun2.slice (l := N m) (h := N n) hg ho hx (by rw [Option.map_some, hl]; rfl) (fun h => by cases h) (by rw [Option.map_some, hh]; rfl) (fun h => by cases h) hz (Int.natCast_nonneg m) (Int.ofNat_le.2 hmn) (Int.ofNat_le.2 hn) ?_
  rw [N_toNat, N_toNat]
  exact ARun.srun (h ▸ K)
theorem ARun2.sliceHiM {T : TypeId} {x hi : Operand} {nw : Bool} {sz : Nat} {xs : List AV} {k' : IntKind} {p : List Oper × AS} (n : Nat) (hn : n ≤ xs.length) (K : ARun2 P ops p Q)
    (ho : o.op = .slice T x none (some hi) none := by rfl) (hg : gd ops s o = some true := by exact Go.Abs.evT) (hx : s.ev x = .sl nw sz xs := by exact Go.Abs.evT) (hh : s.ev hi = .val (.int k' (N n)) := by exact Go.Abs.evT)
    (hz : elSz P T = some sz := by exact Go.Abs.evT) (h : srun P ops rest (s.put o.dst (.sl nw sz (xs.take n))) = p := by
        exact Go.Abs.evE) : ARun2 P ops (o :: rest, s) Q := by
  refine ARun2.slice (l := 0) (h := N n) hg ho hx rfl (fun _ => rfl) (by rw [Option.map_some, hh]; rfl) (fun h => by cases h) hz (Int.le_refl _) (Int.natCast_nonneg n) (Int.ofNat_le.2 hn) ?_
  rw [N_toNat]
  exact ARun.srun (h ▸ K)
theorem ARun2.appendM {T T2 : TypeId} {x y : Operand} {k sz : Nat} {e : TypeId} {xs ys : List AV} {p : List Oper × AS} (hb : 2 * (xs.length + ys.length) * elB P T ≤ 2 ^ 48) (hsm : xs.length + ys.length ≤ 2 ^ 60) (K : ARun2 P ops p Q)
    (ho : o.op = .call { callee := .builtin .append, args := #[x, y], argTypes := #[T, T2] } := by rfl) (hg : gd ops s o = some true := by exact Go.Abs.evT) (hx : s.ev x = .own k := by exact Go.Abs.evT) (hk : s.ob[k]? = some (.row e sz xs) := by exact Go.Abs.evT)
    (hz : elSz P T = some sz := by exact Go.Abs.evT) (hT : elT P T = some e := by exact Go.Abs.evT) (h2 : (isSlc P T2 || isStr P T2) = true := by exact Go.Abs.evT) (hsrc : srcOf s sz (s.ev y) = some ys := by exact Go.Abs.evT)
    (hid : AV.idsOkL (· != k) xs = true := by exact Go.Abs.evT) (hid2 : AV.idsOkL (· != k) ys = true := by exact Go.Abs.evT)
    (h : srun P ops rest (({ s with ob := (s.ob.map (Ob.inval k)).set k (.row e sz (xs ++ ys)), fr := frInval k s.fr } : AS).put o.dst (.own k)) = p := by
        exact Go.Abs.evE) : ARun2 P ops (o :: rest, s) Q :=
  ARun2.append hg ho hx hk hz hT (by simpa using h2) hsrc hb hsm hid hid2 (h ▸ K)
theorem ARun2.iminM {x y : Operand} {ts : Array TypeId} {k k' : IntKind} {m n : Nat} {p : List Oper × AS} (K : ARun2 P ops p Q)
    (ho : o.op = .call { callee := .builtin .min, args := #[x, y], argTypes := ts } := by rfl) (hg : gd ops s o = some true := by exact Go.Abs.evT) (hx : s.ev x = .val (.int k (N m)) := by exact Go.Abs.evT) (hy : s.ev y = .val (.int k' (N n)) := by exact Go.Abs.evT)
    (h : srun P ops rest (s.put o.dst (.val (.int k (N (Min.min m n))))) = p := by
        exact Go.Abs.evE) : ARun2 P ops (o :: rest, s) Q := by
  refine ARun2.imin hg ho hx hy ?_
  rw [show Min.min (N m) (N n) = N (Min.min m n) by unfold N; omega]
  exact ARun.srun (h ▸ K)
theorem AWp.condM {c : Operand} {x y : Code} {t : Bool} (ht : t = true → AWp P x s R) (hf : t = false → AWp P y s R) (hc : s.ev c = .val (.bool t) := by exact Go.Abs.evT) : AWp P (.cond c x y) s R := AWp.cond hc ht hf
theorem AWp.condLM {d : Nat} {x y : Code} {t : Bool} (ht : t = true → AWp P x (s.lit d true) R) (hf : t = false → AWp P y (s.lit d false) R) (hc : lk s.fr d = .val (.bool t) := by exact Go.Abs.evT) : AWp P (.cond (.tmp d) x y) s R := by
  intro E hE ρ B a w hs Q' hQ
  have hl := hs.lit hc
  have hv : ∀ b, t = b → (s.lit d b).ev (.tmp d) = .val (.bool b) := fun b e => by simp [AS.ev, AS.lit, lk]
  cases t with
  | true => exact AWp.cond (hv true rfl) (fun _ => ht rfl) (fun h => by cases h) E hE ρ B a w hl Q' hQ
  | false => exact AWp.cond (hv false rfl) (fun h => by cases h) (fun _ => hf rfl) E hE ρ B a w hl Q' hQ
theorem AWp.condT {c : Operand} {x y : Code} (ht : AWp P x s R) (hc : s.ev c = .val (.bool true) := by exact Go.Abs.evT) : AWp P (.cond c x y) s R := AWp.cond hc (fun _ => ht) (fun h => by cases h)
theorem AWp.condF {c : Operand} {x y : Code} (ht : AWp P y s R) (hc : s.ev c = .val (.bool false) := by exact Go.Abs.evT) : AWp P (.cond c x y) s R := AWp.cond hc (fun h => by cases h) (fun _ => ht)
theorem ARun.grpM {l : List Oper} (n j : Nat) {dj : Nat} (want : Bool) {b : Bool} (d : Nat) {x : AV} (ks : List Nat)
    (ht : b = want → ∀ K : AS → Prop, (∀ s', Le s' { s with fr := (d, x) :: keepFr (s.lit dj want).fr ks } → K s') → ARun P ops (l.take n) (s.lit dj want) K)
    (k : ARun P ops (l.drop n) { s with fr := (d, bif b == want then x else .val (.tuple #[])) :: keepFr s.fr ks } Q)
    (hd : (ops[j]?).bind (·.dst) = some dj := by rfl) (e : lk s.fr dj = .val (.bool b) := by exact Go.Abs.evT)
    {s' : AS} (hf : Abs.srun P ops (l.take n) (s.lit dj !want) = ([], s') := by
        exact Go.Abs.evE)
    (hS : s' = { s with fr := s'.fr } := by rfl) (hdn : decide (d < s'.n) = true := by first | rfl | decide) (hx : lk s'.fr d = .val (.tuple #[]) := by exact Go.Abs.evT) (hlt : (ks.all fun t => decide (t < s'.n)) = true := by first | rfl | decide) (hk : sameK s'.fr (s.lit dj !want).fr ks := by exact Go.Abs.evT) : ARun P ops l s Q := by
  refine ARun.grp n j want d ks hd e ht ?_ k
  intro _ K hK
  refine ARun2.go ?_
  rw [hf]
  refine ARun2.nil (hK _ ?_)
  refine Le.grp (d := d) (x := .val (.tuple #[])) (ks := ks) (fr0 := (s.lit dj !want).fr) ?_ hdn hx hlt hk
  rw [hS]
theorem Le.grpM {S : AS} {d : Nat} {x : AV} {ks : List Nat} {fr0 : List (Nat × AV)} (hS : S = { s with fr := (d, x) :: keepFr fr0 ks } := by rfl) (hd : decide (d < s.n) = true := by first | rfl | decide) (hx : lk s.fr d = x := by exact Go.Abs.evT) (hlt : (ks.all fun t => decide (t < s.n)) = true := by first | rfl | decide) (hk : sameK s.fr fr0 ks := by exact Go.Abs.evT) : Le s S :=
  Le.grp hS hd hx hlt hk
theorem bodyQ.m {fn : Func} {Rr : AV → AS → Prop} {xs : List AV} {x : AV} (k : Rr x s) (h : resAVs P s fn.results.toList = some xs := by
        exact Go.Abs.evE) (hx : resOf xs = x := by
        exact Go.Abs.evE) : bodyQ P fn Rr .ret s := ⟨xs, h, hx ▸ k⟩
theorem bodyQ.n {fn : Func} {Rr : AV → AS → Prop} {xs : List AV} {x : AV} (k : Rr x s) (h : resAVs P s fn.results.toList = some xs := by
        exact Go.Abs.evE) (hx : resOf xs = x := by
        exact Go.Abs.evE) : bodyQ P fn Rr .normal s := ⟨xs, h, hx ▸ k⟩
theorem Hand.go {ids : List Nat} {x y : AV} (h : Hand ids x y := by
      exact Go.Abs.evH) : Hand ids x y := h
theorem Hand.goL {ids : List Nat} {x y : List AV} (h : HandL ids x y := by
      exact Go.Abs.evH) : HandL ids x y := h
theorem endO.m {ids : List Nat} {r0 r : AV} {τ' τ : List Ob} (hτ : τ = τ') (hr : Hand ids r r0) (hn : ids.Nodup := by first | rfl | decide) (hok : handObsOk ids s.ob ids = true := by exact Go.Abs.evT) (hh : handObs ids s.ob ids = τ := by
        exact Go.Abs.evE) : endO ids r0 τ' r s :=
  endO.mk hn hok (hh.trans hτ) hr
section dr
variable {nds : List (List (Nat × Option Nat))} {vals : List AV} {G : Prop}
theorem Dr.sim {x : AV} (k : Dr P ops s nds (vals ++ [x]) G) (hn : ndsB nds = true := by first | rfl | decide) (ho : ops[vals.length]? = some o := by exact Go.Abs.evT)
    (hg : gd ops { s with fr := needFr s.fr vals (nds.getD vals.length []) } o = some true := by exact Go.Abs.evT) (h : sval P { s with fr := needFr s.fr vals (nds.getD vals.length []) } o.op = some x := by
        exact Go.Abs.evE) : Dr P ops s nds vals G :=
  Dr.step hn ho (NSpec.simple hg h) k
theorem Dr.simg {x : AV} {g : Bool} (k : Dr P ops s nds (vals ++ [bif g then x else .val (.tuple #[])]) G) (hn : ndsB nds = true := by first | rfl | decide) (ho : ops[vals.length]? = some o := by exact Go.Abs.evT)
    (hg : gd ops { s with fr := needFr s.fr vals (nds.getD vals.length []) } o = some g := by exact Go.Abs.evT) (h : g = true → sval P { s with fr := needFr s.fr vals (nds.getD vals.length []) } o.op = some x := by
      intro hg
      first | (simp (disch := omega) only [push_cast, ↓reduceIte, Nat.reduceEqDiff, Nat.reduceLT, Nat.reduceAdd, Nat.reduceSub, Nat.reduceMul, Nat.reduceLeDiff, reduceCtorEq, hg]; done) | (simp (disch := omega) only [push_cast, ↓reduceIte, Nat.reduceEqDiff, Nat.reduceLT, Nat.reduceAdd, Nat.reduceSub, Nat.reduceMul, Nat.reduceLeDiff, reduceCtorEq, hg]; rfl)) : Dr P ops s nds vals G :=
  Dr.step hn ho (NSpec.grd hg fun e => NSpec.simple (e ▸ hg) (h e)) k
theorem Dr.call {f : FuncId} {args : Array Operand} {ts : Array TypeId} {ys : List AV} {r : AV} (hp : PC P f ys r) (k : Dr P ops s nds (vals ++ [r]) G) (hn : ndsB nds = true := by first | rfl | decide) (hol : ops[vals.length]? = some o := by exact Go.Abs.evT)
    (ho : o.op = .call { callee := .value (.func f), args := args, argTypes := ts } := by rfl) (hg : gd ops { s with fr := needFr s.fr vals (nds.getD vals.length []) } o = some true := by exact Go.Abs.evT) (hc : callable P f = true := by first | exact Go.Abs.evT | assumption)
    (hsub : HandL [] (args.toList.map (AS.ev { s with fr := needFr s.fr vals (nds.getD vals.length []) })) ys := by
      exact Go.Abs.evH) : Dr P ops s nds vals G :=
  Dr.step hn hol (NSpec.callA hp hg ho hc hsub) k
theorem Dr.idx {T : TypeId} {x i : Operand} {nw : Bool} {sz : Nat} {xs : List AV} {kk : IntKind} (n : Nat) (y : AV) (hy : xs[n]? = some y) (k : Dr P ops s nds (vals ++ [.ref nw y]) G) (hn : ndsB nds = true := by first | rfl | decide) (hol : ops[vals.length]? = some o := by exact Go.Abs.evT)
    (ho : o.op = .indexAddr T x i := by rfl) (hg : gd ops { s with fr := needFr s.fr vals (nds.getD vals.length []) } o = some true := by exact Go.Abs.evT) (hx : AS.ev { s with fr := needFr s.fr vals (nds.getD vals.length []) } x = .sl nw sz xs := by exact Go.Abs.evT)
    (hi : AS.ev { s with fr := needFr s.fr vals (nds.getD vals.length []) } i = .val (.int kk (N n)) := by exact Go.Abs.evT) (hz : elSz P T = some sz := by exact Go.Abs.evT) (hs0 : decide (sz ≠ 0) = true := by first | rfl | decide) : Dr P ops s nds vals G :=
  Dr.step hn hol (NSpec.indexN n y hg ho hx hi hz (of_decide_eq_true hs0) hy) k
theorem Dr.sliceLo {T : TypeId} {x lo : Operand} {nw : Bool} {sz : Nat} {xs : List AV} {kk : IntKind} (n : Nat) (hnl : n ≤ xs.length) (k : Dr P ops s nds (vals ++ [.sl nw sz (xs.drop n)]) G) (hn : ndsB nds = true := by first | rfl | decide) (hol : ops[vals.length]? = some o := by exact Go.Abs.evT)
    (ho : o.op = .slice T x (some lo) none none := by rfl) (hg : gd ops { s with fr := needFr s.fr vals (nds.getD vals.length []) } o = some true := by exact Go.Abs.evT) (hx : AS.ev { s with fr := needFr s.fr vals (nds.getD vals.length []) } x = .sl nw sz xs := by exact Go.Abs.evT)
    (hl : AS.ev { s with fr := needFr s.fr vals (nds.getD vals.length []) } lo = .val (.int kk (N n)) := by exact Go.Abs.evT) (hz : elSz P T = some sz := by exact Go.Abs.evT) : Dr P ops s nds vals G := by
  refine Dr.step hn hol (NSpec.cast ?_ (NSpec.slice (l := N n) (h := N xs.length) hg ho hx (by rw [Option.map_some, hl]; rfl) (fun h => by cases h) rfl (fun _ => rfl) hz (Int.natCast_nonneg n) (Int.ofNat_le.2 hnl) (Int.le_refl _))) k
  rw [N_toNat, N_toNat, List.take_of_length_le (Nat.le_refl _)]
theorem Dr.build {T : TypeId} {len sz : Nat} {parts : Array (Nat × Operand)} (k : Dr P ops s nds (vals ++ [.sl true sz (parts.toList.map fun p => AS.ev { s with fr := needFr s.fr vals (nds.getD vals.length []) } p.2)]) G) (hn : ndsB nds = true := by first | rfl | decide) (hol : ops[vals.length]? = some o := by exact Go.Abs.evT)
    (ho : o.op = .buildSlice T len parts := by rfl) (hg : gd ops { s with fr := needFr s.fr vals (nds.getD vals.length []) } o = some true := by exact Go.Abs.evT) (hz : elSz P T = some sz := by exact Go.Abs.evT)
    (hp : parts.toList.map (·.1) = List.range len := by rfl) (hx : ∀ p ∈ parts.toList, (AS.ev { s with fr := needFr s.fr vals (nds.getD vals.length []) } p.2).flat = true ∧ (AS.ev { s with fr := needFr s.fr vals (nds.getD vals.length []) } p.2).cells.length = sz := by exact Go.Abs.evT)
    (hl : decide (len * sz ≤ 2 ^ 24) = true := by first | rfl | decide) : Dr P ops s nds vals G :=
  Dr.step hn hol (NSpec.buildSlice hg ho hz ⟨hp, hx, of_decide_eq_true hl⟩) k
theorem Dr.finM {id : Nat} {n : Nat} {y : Code} {p : List Oper × AS} (new : List (Nat × Nat)) (old : List Nat) (hG : ∀ vals, PSpec P ops s nds vals → AWp P (.region id ops true) s (thenQ (fun s' => AWp P y s' R) R) → G) (hm : P.follows .mixedOrders = true)
    (k : ∀ K : AS → Prop, (∀ s', AWp P y s' R → K s') → ARun2 P ops p K)
    (hl : vals.length = n := by rfl) (hB : drawnB ops n s.n nds = true := by kernel_rfl) (hk : (drB ops n s.n s.fr new old && noAl ops n none) = true := by kernel_rfl)
    (h : srun P ops (ops.toList.drop n) { s with fr := (new.map fun p => (p.1, vals.getD p.2 .any)) ++ keepFr s.fr old } = p := by
        exact Go.Abs.evE) : Dr P ops s nds vals G :=
  Dr.fin new old hG hl hm hB hk (h ▸ k)
theorem Dr.finN {id : Nat} {n : Nat} {p : List Oper × AS} (new : List (Nat × Nat)) (old : List Nat) (hG : ∀ vals, PSpec P ops s nds vals → AWp P (.region id ops true) s R → G) (hm : P.follows .mixedOrders = true)
    (k : ∀ K : AS → Prop, (∀ s', R .normal s' → K s') → ARun2 P ops p K)
    (hl : vals.length = n := by rfl) (hB : drawnB ops n s.n nds = true := by kernel_rfl) (hk : (drB ops n s.n s.fr new old && noAl ops n none) = true := by kernel_rfl)
    (h : srun P ops (ops.toList.drop n) { s with fr := (new.map fun p => (p.1, vals.getD p.2 .any)) ++ keepFr s.fr old } = p := by
        exact Go.Abs.evE) : Dr P ops s nds vals G :=
  Dr.finE new old hG hl hm hB hk (h ▸ k)
end dr
theorem Le.m {S : AS} (n : Nat) (hob : s.ob.take n = S.ob) (hk : keeps s.fr S.fr) (h1 : S.n = s.n ∧ S.m = s.m ∧ S.df = s.df ∧ S.yl = s.yl ∧ S.tr = s.tr ∧ S.go = s.go := by exact ⟨rfl, rfl, rfl, rfl, rfl, rfl⟩) (hmn : decide (s.m ≤ n) = true := by first | rfl | decide)
    (hf : frIds (· < n) S.fr = true := by exact Go.Abs.evT) (ho : S.ob.all (obIds (· < n)) = true := by exact Go.Abs.evT) : Le s S := Le.mk n h1 hob hmn hk hf ho
end
section
variable {P : Program} {ops : Array Oper} {E : Env} {s s' : AS} {ρ σ : List Value} {B : Nat → Prop} {a : Act} {w w' : World} {o : Oper} {rest : List Oper} {Q : AS → Prop} {R : Exit → AS → Prop}
theorem ARun2.yieldM {g : Operand} {l : Nat} {X : List (List AV)} {x : List AV} {args : Array Operand} {ts : Array TypeId} {p : Bool → List Oper × AS} (post : List (List AV)) (hX : X = s.tr ++ x :: post) (k : ∀ b : Bool, ARun2 P ops (p b) Q)
    (ho : o.op = .call { callee := .value g, args := args, argTypes := ts } := by rfl) (hgd : gd ops s o = some true := by exact Go.Abs.evT) (hg : s.ev g = .val (.func (.yield l) #[] #[]) := by exact Go.Abs.evT)
    (hy : s.yl = some (l, X) := by rfl) (hgo : s.go = true := by rfl) (hx : args.toList.map s.ev = x := by exact Go.Abs.evT) (hcl : AV.idsOkL (fun _ => false) x = true := by exact Go.Abs.evT)
    (h : ∀ b : Bool, srun P ops rest ({ s with tr := s.tr ++ [x], go := b }.put o.dst (.val (.bool b))) = p b := by
        intro b
        exact Go.Abs.evE) : ARun2 P ops (o :: rest, s) Q :=
  ARun2.yield post hgd ho hg hy hgo hx hX hcl fun b => ARun.srun (h b ▸ k b)
theorem AWp.rangeFuncM {g : Operand} {ps : Array Tmp} {assign body : Code} {f : FuncId} {cap cap' : List AV} {xs : List (List AV)} {Q : Exit → AS → Prop} (hit : IterC P f cap' xs)
    (ks : List Nat) (I : List (List AV) → List Ob → List (List AV) → Bool → Prop) (Ix : Exit → List Ob → List (List AV) → Bool → Prop)
    (hps : ∀ x ∈ xs, x.length = ps.size) (h0 : I [] s.ob s.tr s.go)
    (hround : ∀ pre x post ob tr go, xs = pre ++ x :: post → I pre ob tr go →
      AWp P assign { n := s.n, m := max s.m ob.length, fr := setps (keepFr s.fr ks) ps.toList x, ob := ob, df := [], yl := s.yl, tr := tr, go := go } (thenQ (fun s1 => AWp P body s1 (roundQ I Ix (pre ++ [x]))) fun _ _ => False))
    (hdone : ∀ ob tr go df, I xs ob tr go → Q .normal { s with fr := keepFr s.fr ks, ob := ob, tr := tr, go := go, df := df })
    (hstop : ∀ e ob tr go df, Ix e ob tr go → Q e { s with fr := keepFr s.fr ks, ob := ob, tr := tr, go := go, df := df })
    (hg : s.ev g = .fn (.func f) [] cap := by exact Go.Abs.evT) (hc : callable P f = true := by first | exact Go.Abs.evT | assumption)
    (hsub : HandL [] cap cap' := by
      exact Go.Abs.evH)
    (hlt : (ps.toList.all fun p => decide (p < s.n)) = true := by first | rfl | decide) (hfr : keeps s.fr (keepFr s.fr ks) := by exact Go.Abs.evT) (hid : frIds (isBox s.ob) (keepFr s.fr ks) = true := by exact Go.Abs.evT) : AWp P (.rangeFunc g ps assign body) s Q :=
  AWp.rangeFunc hit _ I Ix hg hc (SubL.of hsub) hps (fun p hp => of_decide_eq_true (List.all_eq_true.1 hlt p hp)) hfr hid h0 hround hdone hstop
theorem Dr.imin {nds : List (List (Nat × Option Nat))} {vals : List AV} {G : Prop} {x y : Operand} {ts : Array TypeId} {k' k'' : IntKind} {m n : Nat} (k : Dr P ops s nds (vals ++ [.val (.int k' (N (Min.min m n)))]) G) (hn : ndsB nds = true := by first | rfl | decide) (hol : ops[vals.length]? = some o := by exact Go.Abs.evT)
    (ho : o.op = .call { callee := .builtin .min, args := #[x, y], argTypes := ts } := by rfl) (hg : gd ops { s with fr := needFr s.fr vals (nds.getD vals.length []) } o = some true := by exact Go.Abs.evT)
    (hx : AS.ev { s with fr := needFr s.fr vals (nds.getD vals.length []) } x = .val (.int k' (N m)) := by exact Go.Abs.evT) (hy : AS.ev { s with fr := needFr s.fr vals (nds.getD vals.length []) } y = .val (.int k'' (N n)) := by exact Go.Abs.evT) : Dr P ops s nds vals G := by
  refine Dr.step hn hol (NSpec.cast ?_ (NSpec.imin hg ho hx hy)) k
  rw [show Min.min (N m) (N n) = N (Min.min m n) by unfold N; omega]
theorem ARun2.slice3M {T : TypeId} {x lo hi mx : Operand} {nw : Bool} {sz : Nat} {xs : List AV} {k1 k2 k3 : IntKind} {p : List Oper × AS} (l h : Nat) (h1 : l ≤ h) (h2 : h ≤ xs.length) (K : ARun2 P ops p Q)
    (ho : o.op = .slice T x (some lo) (some hi) (some mx) := by rfl) (hg : gd ops s o = some true := by exact Go.Abs.evT) (hx : s.ev x = .sl nw sz xs := by exact Go.Abs.evT)
    (hl : s.ev lo = .val (.int k1 (N l)) := by exact Go.Abs.evT) (hh : s.ev hi = .val (.int k2 (N h)) := by exact Go.Abs.evT) (hm : s.ev mx = .val (.int k3 (N h)) := by exact Go.Abs.evT) (hz : elSz P T = some sz := by exact Go.Abs.evT)
    (hp : srun P ops rest (s.put o.dst (.sl nw sz ((xs.take h).drop l))) = p := by
        exact Go.Abs.evE) : ARun2 P ops (o :: rest, s) Q := by
  refine ARun2.slice3 hg ho hx hl hh hm hz (Int.natCast_nonneg l) (Int.ofNat_le.2 h1) (Int.le_refl _) (Int.ofNat_le.2 h2) ?_
  rw [N_toNat, N_toNat]
  exact ARun.srun (hp ▸ K)
end
attribute [push_cast] setps bys_drop bys_take List.length_drop
@[push_cast] theorem bys_hand (ids : List Nat) (l : List UInt8) : AV.handL ids (bys l) = bys l := by
  rw [AV.handL_map]; simp [bys, AV.hand]
set_option linter.unusedVariables false
set_option linter.unusedSectionVars false
set_option linter.unusedSimpArgs false
set_option linter.unnecessarySimpa false
section
variable {P : Program} {ops : Array Oper} {E : Env} {s s' : AS} {ρ : List Value} {B : Nat → Prop} {a : Act} {w w' : World} {o : Oper} {rest : List Oper} {Q : AS → Prop}
def ofV : Value → AV
  | .agg cs => .agg (cs.toList.map AV.val)
  | v => .val v
def valOf : AV → Option Value
  | .val v => some v
  | _ => none
def valsOf : List AV → Option (List Value)
  | [] => some []
  | x :: xs => match valOf x, valsOf xs with
    | some v, some vs => some (v :: vs)
    | _, _ => none
def toV : AV → Option Value
  | .agg l => (valsOf l).map fun vs => .agg vs.toArray
  | .val v => some v
  | _ => none
theorem rel_ofV (v : Value) : Rel w B E.bs ρ (ofV v) v := by
  cases v with
  | agg cs => exact .agg (cs := cs.toList) (RelL.vals _)
  | _ => exact .val _
theorem valsOf_rel {bs : Nat} : ∀ {l : List AV} {vs us : List Value}, valsOf l = some vs → RelL w B bs ρ l us → us = vs
  | [], vs, us, h, hr => by simp [valsOf] at h; subst h; cases hr; rfl
  | x :: l, vs, us, h, hr => by
    simp only [valsOf] at h
    split at h <;> simp only [Option.some.injEq, reduceCtorEq] at h
    rename_i v vs' h1 h2
    subst h
    cases hr with
    | cons r1 r2 =>
      have e1 : x = .val v := by cases x <;> simp [valOf] at h1; subst h1; rfl
      subst e1
      rw [r1.val_eq, valsOf_rel h2 r2]
theorem toV_rel {x : AV} {v u : Value} {bs : Nat} (h : toV x = some v) (hr : Rel w B bs ρ x u) : u = v := by
  cases x <;> simp only [toV, Option.map_eq_some_iff, Option.some.injEq, reduceCtorEq] at h
  · subst h; exact hr.val_eq
  · obtain ⟨vs, h1, rfl⟩ := h
    cases hr with
    | agg h2 => rw [valsOf_rel h1 h2]
theorem AOp.makeMap {T : TypeId} (ho : o.op = .makeMap T none) (k : ARun P ops rest (({ s with ob := s.ob ++ [.mp []] } : AS).put o.dst (.own s.ob.length)) Q) : AOp P ops o rest s Q := by
  refine AOp.value (s' := { s with ob := s.ob ++ [.mp []] }) (fun E ρ B a w hs => ?_) k
  have hsame := same_alloc w (.map #[] 0)
  have hn := hs.new (o := .mp []) (v := .map (some w.heap.size)) hsame ⟨w.heap.size, #[], 0, by rw [← hs.rw_.len]; simp, alloc_get _ _, rfl⟩ (by intro b hb; simp [blk] at hb; subst hb; exact ⟨Nat.le_refl _, by simp⟩)
  refine ⟨.map (some w.heap.size), _, _, B, ?_, hn, .own (by rw [← hs.rw_.len]; simp) rfl⟩
  simp only [execOp, ho]
  exact val_run rfl
def mpFree (kk : IntKind) (n : Int) : List (Value × Value) → Bool
  | [] => true
  | (.int k m, _) :: r => decide (k = kk) && decide (m ≠ n) && mpFree kk n r
  | _ => false
theorem findNow_free {kk : IntKind} {n : Int} : ∀ (es : List MapEntry) (i : Nat), mpFree kk n (es.map fun e => (e.key, e.val)) = true → Instr.findNow (.int kk) (.int kk n) es i = some none
  | [], i, _ => rfl
  | e :: es, i, h => by
    obtain ⟨key, val, born⟩ := e
    cases key with
    | int k m =>
      simp only [List.map_cons, mpFree, Bool.and_eq_true, decide_eq_true_eq] at h
      obtain ⟨⟨h1, h2⟩, h3⟩ := h
      subst h1
      have hne : (n == m) = false := by simpa using Ne.symm h2
      simp only [Instr.findNow, Instr.sameNow, if_true, hne]
      exact findNow_free es (i + 1) h3
    | _ => simp [mpFree] at h
def mpKey (P : Program) (T : TypeId) : Option (IntKind × TypeId) :=
  match P.underlying T with
  | some (.map kt et) => match P.underlying kt with
    | some (.int k) => some (k, et)
    | _ => none
  | _ => none
theorem mpKey_spec {T : TypeId} {kk : IntKind} {et : TypeId} (h : mpKey P T = some (kk, et)) : ∃ kt, P.underlying T = some (.map kt et) ∧ P.underlying kt = some (.int kk) := by
  unfold mpKey at h
  split at h <;> (try (simp at h; done))
  rename_i kt et' hu
  split at h <;> simp only [Option.some.injEq, Prod.mk.injEq, reduceCtorEq] at h
  rename_i k hk
  obtain ⟨rfl, rfl⟩ := h
  exact ⟨kt, hu, hk⟩
theorem run_checkKey {kt : TypeId} {kk : IntKind} {n : Int} {em : Bool} (hk : P.underlying kt = some (.int kk)) : (Instr.checkKey em 10000 kt (.int kk n)).run P w = .ok () w := by
  unfold Instr.checkKey
  simp only [Sem.run_bind, run_underlying hk, Result.andThen_ok]
  rfl
theorem AOp.mapUpdate {T : TypeId} {m k x : Operand} {j : Nat} {es : List (Value × Value)} {kk : IntKind} {et : TypeId} {n : Int} {v : Value} (ho : o.op = .mapUpdate T m k x) (hm : s.ev m = .own j) (hj : s.ob[j]? = some (.mp es)) (hk : s.ev k = .val (.int kk n))
    (hx : toV (s.ev x) = some v) (hT : mpKey P T = some (kk, et)) (hf : mpFree kk n es = true) (K : ARun P ops rest (({ s with ob := s.ob.set j (.mp (es ++ [(.int kk n, v)])) } : AS).put o.dst .any) Q) : AOp P ops o rest s Q := by
  refine AOp.unit (s' := { s with ob := s.ob.set j (.mp (es ++ [(.int kk n, v)])) }) (fun E ρ B a w hs => ?_) (by rw [ho]; intro c h; cases h) K
  obtain ⟨kt, hu, hku⟩ := mpKey_spec hT
  obtain ⟨b, ms, c, r1, r2, r3⟩ := hs.rw_.obs j _ hj
  have hmr := hs.ev m
  rw [hm] at hmr
  have hkr := hs.ev k
  rw [hk] at hkr
  have hkv := hkr.val_eq
  have hxv := toV_rel hx (hs.ev x)
  have hlt : b < w.heap.size := heap_lt r2
  have hmv : a.eval m = .map (some b) := by
    generalize a.eval m = u at hmr
    cases hmr with
    | own h1 _ => rw [r1] at h1; exact (Option.some.inj h1).symm
  refine ⟨setBlk w b (.map (ms.push { key := .int kk n, val := v, born := c }) (c + 1)), ρ, B, ?_, ?_⟩
  · simp only [execOp, ho, hmv, hkv, hxv]
    have hfn : Instr.findNow (.int kk) (.int kk n) ms.toList 0 = some none := findNow_free _ _ (by rw [r3]; exact hf)
    have hrun : (Instr.mapUpdate T (.map (some b)) (.int kk n) v).run P w = .ok () (setBlk w b (.map (ms.push { key := .int kk n, val := v, born := c }) (c + 1))) := by
      unfold Instr.mapUpdate
      simp only [Sem.run_bind, run_underlying hu, Result.andThen_ok, getObj, Sem.run, r2, run_checkKey hku, Instr.findKey, run_underlying hku, hfn]
      simp [setObj, Sem.run, r2, setBlk]
    simp [hrun]
  · refine hs.write (b := b) hj rfl r1 rfl ⟨b, _, c + 1, r1, by rw [setBlk_get _ _ _ _ hlt, if_pos rfl], ?_⟩
    simp [r3]
def mpFind (kk : IntKind) (n : Int) : List (Value × Value) → Option (Option Value)
  | [] => some none
  | (.int k m, v) :: r => if k = kk then if m = n then some (some v) else mpFind kk n r else none
  | _ => none
theorem findNow_find {kk : IntKind} {n : Int} : ∀ (es : List MapEntry) (i : Nat) {r : Option Value}, mpFind kk n (es.map fun e => (e.key, e.val)) = some r → ∃ j, Instr.findNow (.int kk) (.int kk n) es i = some (r.map fun v => (j, v))
  | [], i, r, h => by simp [mpFind] at h; subst h; exact ⟨0, rfl⟩
  | e :: es, i, r, h => by
    obtain ⟨key, val, born⟩ := e
    cases key with
    | int k m =>
      simp only [List.map_cons, mpFind] at h
      split at h <;> (try (simp at h; done))
      rename_i hkk
      subst hkk
      split at h
      · rename_i hmn
        subst hmn
        simp only [Option.some.injEq] at h
        subst h
        refine ⟨i, ?_⟩
        simp [Instr.findNow, Instr.sameNow]
      · rename_i hmn
        have hne : (n == m) = false := by simpa using Ne.symm hmn
        obtain ⟨j, hj⟩ := findNow_find es (i + 1) (r := r) h
        refine ⟨j, ?_⟩
        simp only [Instr.findNow, Instr.sameNow, if_true, hne]
        exact hj
    | _ => simp [mpFind] at h
def mpZero (P : Program) (et : TypeId) : Option Value := (P.info? et).bind (·.zero)
theorem AOp.lookup {T : TypeId} {x i : Operand} {j : Nat} {es : List (Value × Value)} {kk : IntKind} {et : TypeId} {n : Int} {z : Value} {r : Option Value} (ho : o.op = .lookup T x i true) (hx : s.ev x = .own j) (hj : s.ob[j]? = some (.mp es)) (hi : s.ev i = .val (.int kk n))
    (hT : mpKey P T = some (kk, et)) (hz : mpZero P et = some z) (hf : mpFind kk n es = some r) (K : ARun P ops rest (s.put o.dst (.tup [ofV (r.getD z), .val (.bool r.isSome)])) Q) : AOp P ops o rest s Q := by
  refine AOp.pure1 (fun E ρ B a w hs => ?_) K
  obtain ⟨kt, hu, hku⟩ := mpKey_spec hT
  obtain ⟨b, ms, c, r1, r2, r3⟩ := hs.rw_.obs j _ hj
  have hmr := hs.ev x
  rw [hx] at hmr
  have hkr := hs.ev i
  rw [hi] at hkr
  have hkv := hkr.val_eq
  have hmv : a.eval x = .map (some b) := by
    generalize a.eval x = u at hmr
    cases hmr with
    | own h1 _ => rw [r1] at h1; exact (Option.some.inj h1).symm
  refine ⟨.tuple #[r.getD z, .bool r.isSome], ?_, ?_⟩
  · simp only [execOp, ho, hmv, hkv]
    refine val_run ?_
    obtain ⟨jj, hfn⟩ := findNow_find ms.toList 0 (r := r) (by rw [r3]; exact hf)
    unfold mpZero at hz
    have hzr : (zeroValue et).run P w = .ok z w := by
      cases hinf : P.info? et with
      | none => simp [hinf] at hz
      | some inf => simp [hinf] at hz; simp [zeroValue, typeInfo, hinf, hz]
    unfold Instr.lookup
    simp only [Sem.run_bind, run_underlying hu, Result.andThen_ok, getObj, Sem.run, r2, Sem.run_pure, run_checkKey hku, Instr.findKey, run_underlying hku, hfn]
    cases r with
    | none => simp [hzr]
    | some v => simp
  · have h1 : RelL w B E.bs ρ [ofV (r.getD z), .val (.bool r.isSome)] [r.getD z, .bool r.isSome] := .cons (rel_ofV _) (.cons (.val _) .nil)
    exact .tup h1
def arrT (P : Program) (T : TypeId) : Option (Nat × TypeId × Nat) :=
  match P.underlying T with
  | some (.array n e) => (P.info? e).map fun i => (n, e, i.size)
  | _ => none
theorem AOp.aindex {T e : TypeId} {x i : Operand} {l : List AV} {kk : IntKind} {n len sz : Nat} {y : AV} (ho : o.op = .index T x i) (hx : s.ev x = .agg l) (hi : s.ev i = .val (.int kk (N n)))
    (hT : arrT P T = some (len, e, sz)) (hn : n < len) (hy : part' l (n * sz) (tk P e) = some y) (K : ARun P ops rest (s.put o.dst y) Q) : AOp P ops o rest s Q := by
  refine AOp.pure1 (fun E ρ B a w hs => ?_) K
  unfold arrT at hT
  split at hT <;> (try (simp at hT; done))
  rename_i n' e' hu
  simp only [Option.map_eq_some_iff, Prod.mk.injEq] at hT
  obtain ⟨inf, hinf, rfl, rfl, rfl⟩ := hT
  have hxr := hs.ev x
  rw [hx] at hxr
  have hir := hs.ev i
  rw [hi] at hir
  have hiv := hir.val_eq
  generalize hu' : a.eval x = u at hxr
  cases hxr with
  | agg hl =>
    rename_i cs
    have hb : (0 : Int) ≤ N n ∧ N n < (n' : Int) := ⟨Int.natCast_nonneg n, Int.ofNat_lt.2 hn⟩
    have hrun : ∀ v, (part e' cs.toArray (n * inf.size)).run P w = .ok v w → (execOp a.eval o).run P w = .ok (.value v) w := by
      intro v hv
      simp only [execOp, ho, hu', hiv]
      refine val_run ?_
      unfold Instr.index
      simp only [asIntOf, Sem.run_bind, Sem.run_pure, Result.andThen_ok, run_underlying hu, Sem.run_ite, if_pos hb, run_sizeOf hinf, N_toNat, hv]
    rcases hl.part' hy with ⟨h1, v, hv, hr⟩ | ⟨m, h1, hle, hr⟩
    · obtain ⟨d, i2, hd, hi2, hsz, hag⟩ := tk_scal h1
      refine ⟨v, hrun v ?_, hr⟩
      have : cs.toArray[n * inf.size]? = some v := by simpa using hv
      simp [part, run_isAgg hd, hag, this]
    · obtain ⟨d, i2, hd, hi2, hsz, hag⟩ := tk_aggr h1
      refine ⟨_, hrun _ ?_, hr⟩
      simp only [part, Sem.run_bind, run_isAgg hd, hag, Result.andThen_ok, run_sizeOf hi2, if_true, hsz]
      have e1 : cs.toArray.extract (n * inf.size) (n * inf.size + m) = ((cs.drop (n * inf.size)).take m).toArray := by
        apply Array.ext'
        simp [Array.toList_extract, List.extract]
      simp [e1]
theorem ARun2.makeMapM {T : TypeId} {p : List Oper × AS} (K : ARun2 P ops p Q) (ho : o.op = .makeMap T none := by rfl) (hg : gd ops s o = some true := by exact Go.Abs.evT)
    (h : srun P ops rest (({ s with ob := s.ob ++ [.mp []] } : AS).put o.dst (.own s.ob.length)) = p := by
        exact Go.Abs.evE) : ARun2 P ops (o :: rest, s) Q := ARun.exec hg (AOp.makeMap ho (ARun.srun (h ▸ K)))
theorem ARun2.mapUpdateM {T : TypeId} {m k x : Operand} {j : Nat} {es : List (Value × Value)} {kk : IntKind} {et : TypeId} {n : Int} {v : Value} {p : List Oper × AS} (hf : mpFree kk n es = true) (K : ARun2 P ops p Q)
    (ho : o.op = .mapUpdate T m k x := by rfl) (hg : gd ops s o = some true := by exact Go.Abs.evT) (hm : s.ev m = .own j := by exact Go.Abs.evT) (hj : s.ob[j]? = some (.mp es) := by exact Go.Abs.evT) (hk : s.ev k = .val (.int kk n) := by exact Go.Abs.evT)
    (hx : toV (s.ev x) = some v := by
        exact Go.Abs.evE) (hT : mpKey P T = some (kk, et) := by exact Go.Abs.evT)
    (h : srun P ops rest (({ s with ob := s.ob.set j (.mp (es ++ [(.int kk n, v)])) } : AS).put o.dst .any) = p := by
        exact Go.Abs.evE) : ARun2 P ops (o :: rest, s) Q := ARun.exec hg (AOp.mapUpdate ho hm hj hk hx hT hf (ARun.srun (h ▸ K)))
theorem ARun2.lookupM {T : TypeId} {x i : Operand} {j : Nat} {es : List (Value × Value)} {kk : IntKind} {et : TypeId} {n : Int} {z : Value} {p : List Oper × AS} (r : Option Value) (y : AV) (hf : mpFind kk n es = some r) (hy : ofV (r.getD z) = y) (K : ARun2 P ops p Q)
    (ho : o.op = .lookup T x i true := by rfl) (hg : gd ops s o = some true := by exact Go.Abs.evT) (hx : s.ev x = .own j := by exact Go.Abs.evT) (hj : s.ob[j]? = some (.mp es) := by exact Go.Abs.evT) (hi : s.ev i = .val (.int kk n) := by exact Go.Abs.evT)
    (hT : mpKey P T = some (kk, et) := by exact Go.Abs.evT) (hz : mpZero P et = some z := by exact Go.Abs.evT) (h : srun P ops rest (s.put o.dst (.tup [y, .val (.bool r.isSome)])) = p := by
        exact Go.Abs.evE) : ARun2 P ops (o :: rest, s) Q :=
  ARun.exec hg (AOp.lookup ho hx hj hi hT hz hf (by rw [hy]; exact ARun.srun (h ▸ K)))
theorem ARun2.aindexM {T e : TypeId} {x i : Operand} {l : List AV} {kk : IntKind} {len sz : Nat} {p : List Oper × AS} (n : Nat) (y : AV) (hy : part' l (n * sz) (tk P e) = some y) (K : ARun2 P ops p Q)
    (ho : o.op = .index T x i := by rfl) (hg : gd ops s o = some true := by exact Go.Abs.evT) (hx : s.ev x = .agg l := by exact Go.Abs.evT) (hi : s.ev i = .val (.int kk (N n)) := by exact Go.Abs.evT)
    (hT : arrT P T = some (len, e, sz) := by exact Go.Abs.evT) (hn : n < len := by omega) (h : srun P ops rest (s.put o.dst y) = p := by
        exact Go.Abs.evE) : ARun2 P ops (o :: rest, s) Q :=
  ARun.exec hg (AOp.aindex ho hx hi hT hn hy (ARun.srun (h ▸ K)))
theorem zeros_bys (n : Nat) : List.replicate n (AV.val (.int .u8 0)) = bys (List.replicate n 0) := by simp [bys, N]
theorem ARun2.makeM {T : TypeId} {x y : Operand} {k1 k2 : IntKind} {z : Value} {p : List Oper × AS} (n : Nat) (hn : n ≤ 2 ^ 31) (K : ARun2 P ops p Q) (ho : o.op = .makeSlice T x y := by rfl) (hg : gd ops s o = some true := by exact Go.Abs.evT)
    (hx : s.ev x = .val (.int k1 (N n)) := by exact Go.Abs.evT) (hy : s.ev y = .val (.int k2 (N n)) := by exact Go.Abs.evT) (hz : elSz P T = some 1 := by exact Go.Abs.evT) (hzc : (elT P T).bind (zc P) = some [z] := by exact Go.Abs.evT) (hb : decide (elB P T ≤ 2 ^ 10) = true := by exact Go.Abs.evT)
    (h : srun P ops rest (s.put o.dst (.sl true 1 (List.replicate n (.val z)))) = p := by
        exact Go.Abs.evE) : ARun2 P ops (o :: rest, s) Q := ARun2.make hg ho hx hy hz hzc hn (of_decide_eq_true hb) (ARun.srun (h ▸ K))
theorem Dr.make {nds : List (List (Nat × Option Nat))} {vals : List AV} {G : Prop} {T : TypeId} {x y : Operand} {k1 k2 : IntKind} {z : Value} (n : Nat) (hnn : n ≤ 2 ^ 31) (k : Dr P ops s nds (vals ++ [.sl true 1 (List.replicate n (.val z))]) G) (hn : ndsB nds = true := by first | rfl | decide) (hol : ops[vals.length]? = some o := by exact Go.Abs.evT)
    (ho : o.op = .makeSlice T x y := by rfl) (hg : gd ops { s with fr := needFr s.fr vals (nds.getD vals.length []) } o = some true := by exact Go.Abs.evT)
    (hx : AS.ev { s with fr := needFr s.fr vals (nds.getD vals.length []) } x = .val (.int k1 (N n)) := by exact Go.Abs.evT) (hy : AS.ev { s with fr := needFr s.fr vals (nds.getD vals.length []) } y = .val (.int k2 (N n)) := by exact Go.Abs.evT)
    (hz : elSz P T = some 1 := by exact Go.Abs.evT) (hzc : (elT P T).bind (zc P) = some [z] := by exact Go.Abs.evT) (hb : decide (elB P T ≤ 2 ^ 10) = true := by exact Go.Abs.evT) : Dr P ops s nds vals G :=
  Dr.step hn hol (NSpec.make hg ho hx hy hz hzc hnn (of_decide_eq_true hb)) k
end
attribute [push_cast] zeros_bys
attribute [push_cast] ofV valOf valsOf toV Option.getD_some Option.getD_none Option.isSome_some Option.isSome_none
set_option linter.unusedVariables false
set_option linter.unusedSectionVars false
set_option linter.unusedSimpArgs false
set_option linter.unnecessarySimpa false
mutual
def AV.osub (k : Nat) (r : AV) : AV → AV
  | .val v => .val v
  | .any => .any
  | .agg l => .agg (AV.osubL k r l)
  | .tup l => .tup (AV.osubL k r l)
  | .sl nw sz xs => .sl nw sz xs
  | .slc sz xs => .slc sz xs
  | .own j => if j = k then r else .own j
  | .ptr j o => .ptr j o
  | .ept j o => .ept j o
  | .ref nw x => .ref nw x
  | .ifc t x => .ifc t (if x.idsOk (· != k) = true then x else AV.osub k r x)
  | .fn f l m => .fn f (AV.osubL k r l) (AV.osubL k r m)
def AV.osubL (k : Nat) (r : AV) : List AV → List AV
  | [] => []
  | x :: xs => (if x.idsOk (· != k) = true then x else AV.osub k r x) :: AV.osubL k r xs
end
def AV.osub1 (k : Nat) (r : AV) (x : AV) : AV := if x.idsOk (· != k) = true then x else AV.osub k r x
def Ob.osub (k : Nat) (r : AV) : Ob → Ob
  | .box T cs => .box T (AV.osubL k r cs)
  | o => o
def frOsub (k : Nat) (r : AV) (fr : List (Nat × AV)) : List (Nat × AV) := fr.map fun p => (p.1, AV.osub1 k r p.2)
section
variable {P : Program} {ops : Array Oper} {E : Env} {s s' : AS} {ρ : List Value} {B : Nat → Prop} {a : Act} {w w' : World} {o : Oper} {rest : List Oper} {Q : AS → Prop} {R : Exit → AS → Prop}
mutual
theorem Rel.osub {k : Nat} {r : AV} {u : Value} {bs : Nat} (hu : ρ[k]? = some u) (hr : Rel w B bs ρ r u) : ∀ {x : AV} {v : Value}, Rel w B bs ρ x v → Rel w B bs ρ (AV.osub k r x) v
  | _, _, .val v => .val v
  | _, _, .agg h => .agg (RelL.osub hu hr h)
  | _, _, .tup h => .tup (RelL.osub hu hr h)
  | _, _, .slE nw sz A cap => .slE nw sz A cap
  | _, _, .sl h hc => .sl h hc
  | .own j, _, .own h h1 => by
    simp only [AV.osub]
    split
    · rename_i e
      subst e
      rw [hu] at h
      have := Option.some.inj h
      subst this
      exact hr
    · exact .own h h1
  | _, _, .ptr h => .ptr h
  | _, _, .ept h => .ept h
  | _, _, .ref h hn => .ref h hn
  | .ifc t x, _, .ifc h => by
    simp only [AV.osub]
    refine .ifc ?_
    split
    · exact h
    · exact Rel.osub hu hr h
  | _, _, .fn h h2 => .fn (RelL.osub hu hr h) (RelL.osub hu hr h2)
  | _, _, .any v => .any v
  | _, _, .slc h => .slc h
theorem RelL.osub {k : Nat} {r : AV} {u : Value} {bs : Nat} (hu : ρ[k]? = some u) (hr : Rel w B bs ρ r u) : ∀ {xs : List AV} {vs : List Value}, RelL w B bs ρ xs vs → RelL w B bs ρ (AV.osubL k r xs) vs
  | _, _, .nil => .nil
  | x :: xs, _, .cons h h2 => by
    simp only [AV.osubL]
    refine .cons ?_ (RelL.osub hu hr h2)
    split
    · exact h
    · exact Rel.osub hu hr h
end
theorem Rel.osub1 {k : Nat} {r : AV} {u : Value} {bs : Nat} (hu : ρ[k]? = some u) (hr : Rel w B bs ρ r u) {x : AV} {v : Value} (h : Rel w B bs ρ x v) : Rel w B bs ρ (AV.osub1 k r x) v := by
  unfold AV.osub1
  split
  · exact h
  · exact Rel.osub hu hr h
theorem AV.osub_oc {k : Nat} {r : AV} (hr : r.one = true) {x : AV} (h : x.oc = true) : (if x.idsOk (· != k) = true then x else AV.osub k r x).oc = true := by
  split
  · exact h
  · cases x with
    | own j =>
      simp only [AV.osub]
      split
      · exact AV.oc_of hr
      · rfl
    | _ => simp_all [AV.osub, AV.oc, AV.one]
theorem AV.osubL_oc {k : Nat} {r : AV} (hr : r.one = true) : ∀ {l : List AV}, (∀ c ∈ l, c.oc = true) → ∀ c ∈ AV.osubL k r l, c.oc = true
  | [], _, c, hc => by simp [AV.osubL] at hc
  | x :: l, h, c, hc => by
    simp only [AV.osubL] at hc
    rcases List.mem_cons.1 hc with rfl | hc
    · exact AV.osub_oc hr (h x (by simp))
    · exact AV.osubL_oc hr (fun c hc => h c (by simp [hc])) c hc
theorem Ob.osub_live {k : Nat} {r : AV} {o : Ob} : (o.osub k r).live = o.live := by cases o <;> rfl
theorem RO.osub {k j : Nat} {r : AV} {u : Value} {bs : Nat} {o : Ob} (hu : ρ[k]? = some u) (hr : Rel w B bs ρ r u) (h1 : r.one = true) (h : RO w B bs ρ j o) : RO w B bs ρ j (o.osub k r) := by
  cases o with
  | box T cs =>
    obtain ⟨b, vs, fz, a1, a2, a3, a4, a5⟩ := h
    exact ⟨b, vs, fz, a1, a2, a3, RelL.osub hu hr a4, AV.osubL_oc h1 a5⟩
  | _ => exact h
theorem get_map_osub {k : Nat} {r : AV} {ob : List Ob} {i : Nat} {o : Ob} (h : (ob.map (Ob.osub k r))[i]? = some o) : ∃ o2, ob[i]? = some o2 ∧ o = o2.osub k r := by
  rw [List.getElem?_map] at h
  simp only [Option.map_eq_some_iff] at h
  obtain ⟨o2, h1, h2⟩ := h
  exact ⟨o2, h1, h2.symm⟩
theorem RW.osub {ob : List Ob} {k : Nat} {r : AV} {u : Value} (h : RW E ob ρ B w) (hu : ρ[k]? = some u) (hr : Rel w B E.bs ρ r u) (h1 : r.one = true) : RW E (ob.map (Ob.osub k r)) ρ B w := by
  refine { ep := h.ep, os := h.os, tape := h.tape, output := h.output, size := h.size, block := h.block, pre := h.pre, bsub := h.bsub, bnew := h.bnew, blt := h.blt, len := by simpa using h.len, obs := ?_, dis := ?_, prv := ?_ }
  · intro i o hi
    obtain ⟨o2, hi2, rfl⟩ := get_map_osub hi
    exact (h.obs i o2 hi2).osub hu hr h1
  · intro i j o o' u v b hij a1 l1 a2 l2
    obtain ⟨o2, b1, rfl⟩ := get_map_osub a1
    obtain ⟨o3, b2, rfl⟩ := get_map_osub a2
    rw [Ob.osub_live] at l1 l2
    exact h.dis i j o2 o3 u v b hij b1 l1 b2 l2
  · intro i o v b a1 l1
    obtain ⟨o2, b1, rfl⟩ := get_map_osub a1
    rw [Ob.osub_live] at l1
    exact h.prv i o2 v b b1 l1
theorem Dof.osub {k : Nat} {r : AV} {ob : List Ob} {b : Nat} (h : Dof (ob.map (Ob.osub k r)) ρ b) : Dof ob ρ b := by
  obtain ⟨i, o, v, a1, a2, a3, a4⟩ := h
  obtain ⟨o2, b1, rfl⟩ := get_map_osub a1
  rw [Ob.osub_live] at a2
  exact ⟨i, o2, v, b1, a2, a3, a4⟩
theorem Le.pubD {k : Nat} {e : TypeId} {sz : Nat} {xs : List AV} (hk : s.ob[k]? = some (.row e sz xs)) (hm : s.m ≤ k) :
    Le s { s with ob := (s.ob.set k .gone).map (Ob.osub k (.sl true sz xs)), fr := frOsub k (.sl true sz xs) s.fr } := by
  intro E ρ B a w hs
  obtain ⟨B', v, h1, h2, h3, h4, h5⟩ := hs.rw_.publish hk (Nat.le_trans hs.m.1 hm)
  have h3' := h3.osub h2 h4 rfl
  refine ⟨ρ, B', h3', ?_, hs.n, hs.df, hs.jj.chg ⟨rfl, rfl, rfl, Nat.le_refl _, fun _ _ _ => rfl, fun b hd => .inl (Dof.set hk rfl b (Dof.osub hd)), h1, fun b hb => (h5 b hb).elim .inl fun h => .inr (.inl h)⟩ h3'.bd, ?_⟩
  · simpa using hs.m
  intro t x hmem
  simp only [frOsub, List.mem_map] at hmem
  obtain ⟨⟨t', x'⟩, hmem, he⟩ := hmem
  simp only [Prod.mk.injEq] at he
  obtain ⟨rfl, rfl⟩ := he
  obtain ⟨r1, r2⟩ := hs.rf t' x' hmem
  exact ⟨r1, Rel.osub1 h2 h4 (r2.mono (B' := B') (ρ' := ρ) h1 (fun _ _ => rfl) (Nat.le_refl _) (fun _ _ h => h))⟩
theorem AWp.pubD {c : Code} (k : Nat) {e : TypeId} {sz : Nat} {xs : List AV} {s' : AS} (K : AWp P c s' R) (hk : s.ob[k]? = some (.row e sz xs) := by rfl) (hm : decide (s.m ≤ k) = true := by first | rfl | decide)
    (h : ({ s with ob := (s.ob.set k .gone).map (Ob.osub k (.sl true sz xs)), fr := frOsub k (.sl true sz xs) s.fr } : AS) = s' := by
        exact Go.Abs.evE) : AWp P c s R :=
  AWp.weak (Le.pubD hk (of_decide_eq_true hm)) (h ▸ K)
theorem ARun2.pubD {l : List Oper} (k : Nat) {e : TypeId} {sz : Nat} {xs : List AV} {p : List Oper × AS} (K : ARun2 P ops p Q) (hk : s.ob[k]? = some (.row e sz xs) := by rfl) (hm : decide (s.m ≤ k) = true := by first | rfl | decide)
    (h : Abs.srun P ops l ({ s with ob := (s.ob.set k .gone).map (Ob.osub k (.sl true sz xs)), fr := frOsub k (.sl true sz xs) s.fr } : AS) = p := by
        exact Go.Abs.evE) : ARun2 P ops (l, s) Q :=
  ARun2.weak (Le.pubD hk (of_decide_eq_true hm)) (ARun.srun (h ▸ K))
section dr
variable {nds : List (List (Nat × Option Nat))} {vals : List AV} {G : Prop}
theorem Dr.al (k : Dr P ops s nds (vals ++ [.ptr s.ob.length 0]) G) (hn : ndsB nds = true := by first | rfl | decide) (hol : ops[vals.length]? = some o := by exact Go.Abs.evT) (ho : isAl o.op = true := by rfl) : Dr P ops s nds vals G :=
  Dr.step' hn hol (fun h => by rw [ho] at h; cases h) k
theorem Dr.finA {id : Nat} {n : Nat} {y : Code} (i0 : Nat) {T : TypeId} {z : List Value} {p : List Oper × AS} (new : List (Nat × Nat)) (old : List Nat) (hG : ∀ vals, PSpec P ops s nds vals → AWp P (.region id ops true) s (thenQ (fun s' => AWp P y s' R) R) → G) (hm : P.follows .mixedOrders = true)
    (k : ∀ K : AS → Prop, (∀ s', AWp P y s' R → K s') → ARun2 P ops p K)
    (hl : vals.length = n := by rfl) (hB : drawnB ops n s.n nds = true := by kernel_rfl) (hk : drB ops n s.n s.fr new old = true := by kernel_rfl) (ha : noAl ops n (some i0) = true := by kernel_rfl)
    (h0 : ops[i0]? = some o := by exact Go.Abs.evT) (ho : o.op = .alloc T := by rfl) (hg : o.guard = none := by rfl) (hz : zc P T = some z := by exact Go.Abs.evT) (hlt : decide (i0 < n) = true := by first | rfl | decide) (hv : vals.getD i0 .any = .ptr s.ob.length 0 := by rfl)
    (h : srun P ops (ops.toList.drop n) { s with fr := (new.map fun p => (p.1, vals.getD p.2 .any)) ++ keepFr s.fr old, ob := s.ob ++ [.box T (z.map AV.val)] } = p := by
        exact Go.Abs.evE) : Dr P ops s nds vals G := by
  intro hp
  exact hG vals hp (AWp.drA i0 nds new old vals hm hB hk ha hl hp h0 ho hg hz (of_decide_eq_true hlt) hv (ARun.srun (h ▸ k _ fun _ h => h)))
theorem Dr.callg {f : FuncId} {args : Array Operand} {ts : Array TypeId} {ys : List AV} {r : AV} {g : Bool} (hp : g = true → PC P f ys r) (k : Dr P ops s nds (vals ++ [bif g then r else .val (.tuple #[])]) G) (hn : ndsB nds = true := by first | rfl | decide) (hol : ops[vals.length]? = some o := by exact Go.Abs.evT)
    (ho : o.op = .call { callee := .value (.func f), args := args, argTypes := ts } := by rfl) (hg : gd ops { s with fr := needFr s.fr vals (nds.getD vals.length []) } o = some g := by exact Go.Abs.evT) (hc : callable P f = true := by first | exact Go.Abs.evT | assumption)
    (hsub : g = true → HandL [] (args.toList.map (AS.ev { s with fr := needFr s.fr vals (nds.getD vals.length []) })) ys := by
      intro hg
      try simp only [hg]
      exact Go.Abs.evH) : Dr P ops s nds vals G :=
  Dr.step hn hol (NSpec.grd hg fun e => NSpec.callA (hp e) (e ▸ hg) ho hc (hsub e)) k
theorem Dr.idxg {T : TypeId} {x i : Operand} {nw : Bool} {sz : Nat} {xs : List AV} {kk : IntKind} {g : Bool} (n : Nat) (y : AV) (hy : g = true → xs[n]? = some y) (k : Dr P ops s nds (vals ++ [bif g then .ref nw y else .val (.tuple #[])]) G) (hn : ndsB nds = true := by first | rfl | decide) (hol : ops[vals.length]? = some o := by exact Go.Abs.evT)
    (ho : o.op = .indexAddr T x i := by rfl) (hg : gd ops { s with fr := needFr s.fr vals (nds.getD vals.length []) } o = some g := by exact Go.Abs.evT) (hx : g = true → AS.ev { s with fr := needFr s.fr vals (nds.getD vals.length []) } x = .sl nw sz xs := by intro hg; (try simp only [hg]); exact Go.Abs.evT)
    (hi : g = true → AS.ev { s with fr := needFr s.fr vals (nds.getD vals.length []) } i = .val (.int kk (N n)) := by intro hg; (try simp only [hg]); exact Go.Abs.evT) (hz : elSz P T = some sz := by exact Go.Abs.evT) (hs0 : decide (sz ≠ 0) = true := by first | rfl | decide) : Dr P ops s nds vals G :=
  Dr.step hn hol (NSpec.grd hg fun e => NSpec.indexN n y (e ▸ hg) ho (hx e) (hi e) hz (of_decide_eq_true hs0) (hy e)) k
end dr
end
attribute [push_cast] AV.osub AV.osubL AV.osub1 Ob.osub frOsub isAl
end Go.Abs
namespace Go.Proofs.YtokbbdodbjiciaaGreatDoor.Facts
open Go.Abs
@[push_cast] theorem tk2 : tk Tryz.prog 2 = .scal := by kernel_rfl
@[push_cast] theorem nk2 : nk Tryz.prog 2 = .other := by kernel_rfl
@[push_cast] theorem pl7 : places Tryz.prog 7 = some [(0, 1), (1, 1), (2, 1), (3, 1)] := by kernel_rfl
@[push_cast] theorem pl8 : places Tryz.prog 8 = some [(0, 1), (1, 1), (2, 1), (3, 1)] := by kernel_rfl
@[push_cast] theorem pl13 : places Tryz.prog 13 = some [(0, 1), (1, 1)] := by kernel_rfl
@[push_cast] theorem pl14 : places Tryz.prog 14 = some [(0, 1), (1, 1)] := by kernel_rfl
@[push_cast] theorem pl18 : places Tryz.prog 18 = some [(0, 1)] := by kernel_rfl
@[push_cast] theorem pl19 : places Tryz.prog 19 = some [(0, 1)] := by kernel_rfl
@[push_cast] theorem nk23 : nk Tryz.prog 23 = .slc := by kernel_rfl
@[push_cast] theorem es23 : elSz Tryz.prog 23 = some 1 := by kernel_rfl
@[push_cast] theorem eb23 : elB Tryz.prog 23 = 1 := by kernel_rfl
@[push_cast] theorem el23 : elT Tryz.prog 23 = some 5 := by kernel_rfl
@[push_cast] theorem es24 : elSz Tryz.prog 24 = some 3 := by kernel_rfl
@[push_cast] theorem eb24 : elB Tryz.prog 24 = 56 := by kernel_rfl
@[push_cast] theorem el24 : elT Tryz.prog 24 = some 26 := by kernel_rfl
@[push_cast] theorem tk25 : tk Tryz.prog 25 = .aggr 3 := by kernel_rfl
@[push_cast] theorem pl25 : places Tryz.prog 25 = some [(0, 1), (1, 1), (2, 1)] := by kernel_rfl
@[push_cast] theorem pl26 : places Tryz.prog 26 = some [(0, 1), (1, 1), (2, 1)] := by kernel_rfl
@[push_cast] theorem pl29 : places Tryz.prog 29 = some [(0, 1), (1, 1), (2, 1), (3, 1)] := by kernel_rfl
@[push_cast] theorem pl30 : places Tryz.prog 30 = some [(0, 1), (1, 1), (2, 1), (3, 1)] := by kernel_rfl
@[push_cast] theorem pl39 : places Tryz.prog 39 = some [(0, 1), (1, 1), (2, 1)] := by kernel_rfl
@[push_cast] theorem pl40 : places Tryz.prog 40 = some [(0, 1), (1, 1), (2, 1)] := by kernel_rfl
@[push_cast] theorem es41 : elSz Tryz.prog 41 = some 4 := by kernel_rfl
@[push_cast] theorem eb41 : elB Tryz.prog 41 = 56 := by kernel_rfl
@[push_cast] theorem el41 : elT Tryz.prog 41 = some 30 := by kernel_rfl
@[push_cast] theorem pl42 : places Tryz.prog 42 = some [(0, 3), (3, 1)] := by kernel_rfl
@[push_cast] theorem pl43 : places Tryz.prog 43 = some [(0, 3), (3, 1)] := by kernel_rfl
@[push_cast] theorem pl57 : places Tryz.prog 57 = some [(0, 1), (1, 1), (2, 1), (3, 1)] := by kernel_rfl
@[push_cast] theorem pl58 : places Tryz.prog 58 = some [(0, 1), (1, 1), (2, 1), (3, 1)] := by kernel_rfl
@[push_cast] theorem pl69 : places Tryz.prog 69 = some [(0, 1), (1, 1), (2, 1), (3, 1), (4, 1), (5, 1), (6, 1)] := by kernel_rfl
@[push_cast] theorem pl70 : places Tryz.prog 70 = some [(0, 1), (1, 1), (2, 1), (3, 1), (4, 1), (5, 1), (6, 1)] := by kernel_rfl
@[push_cast] theorem pl85 : places Tryz.prog 85 = some [(0, 1), (1, 1), (2, 1), (3, 1)] := by kernel_rfl
@[push_cast] theorem mk96 : mpKey Tryz.prog 96 = some (.u8, 5) := by kernel_rfl
@[push_cast] theorem mz96 : mpZero Tryz.prog 5 = some (.int .u8 0) := by kernel_rfl
@[push_cast] theorem pl107 : places Tryz.prog 107 = some [(0, 1), (1, 1), (2, 1), (3, 1), (4, 1)] := by kernel_rfl
@[push_cast] theorem pl108 : places Tryz.prog 108 = some [(0, 1), (1, 1), (2, 1), (3, 1), (4, 1)] := by kernel_rfl
@[push_cast] theorem es115 : elSz Tryz.prog 115 = some 1 := by kernel_rfl
@[push_cast] theorem eb115 : elB Tryz.prog 115 = 24 := by kernel_rfl
@[push_cast] theorem el115 : elT Tryz.prog 115 = some 23 := by kernel_rfl
@[push_cast] theorem pl123 : places Tryz.prog 123 = some [(0, 1), (1, 1), (2, 1), (3, 1), (4, 1), (5, 1), (6, 1)] := by kernel_rfl
@[push_cast] theorem es128 : elSz Tryz.prog 128 = some 7 := by kernel_rfl
@[push_cast] theorem eb128 : elB Tryz.prog 128 = 64 := by kernel_rfl
@[push_cast] theorem el128 : elT Tryz.prog 128 = some 70 := by kernel_rfl
@[push_cast] theorem pl144 : places Tryz.prog 144 = some [(0, 1), (1, 1), (2, 1), (3, 1), (4, 1), (5, 1), (6, 1)] := by kernel_rfl
@[push_cast] theorem pl145 : places Tryz.prog 145 = some [(0, 1), (1, 1), (2, 1), (3, 1), (4, 1), (5, 1), (6, 1)] := by kernel_rfl
@[push_cast] theorem pl151 : places Tryz.prog 151 = some [(0, 1), (1, 1), (2, 1)] := by kernel_rfl
@[push_cast] theorem pl152 : places Tryz.prog 152 = some [(0, 1), (1, 1), (2, 1)] := by kernel_rfl
@[push_cast] theorem es156 : elSz Tryz.prog 156 = some 1 := by kernel_rfl
@[push_cast] theorem eb156 : elB Tryz.prog 156 = 8 := by kernel_rfl
@[push_cast] theorem el156 : elT Tryz.prog 156 = some 3 := by kernel_rfl
@[push_cast] theorem es173 : elSz Tryz.prog 173 = some 7 := by kernel_rfl
@[push_cast] theorem eb173 : elB Tryz.prog 173 = 64 := by kernel_rfl
@[push_cast] theorem el173 : elT Tryz.prog 173 = some 123 := by kernel_rfl
@[push_cast] theorem pl174 : places Tryz.prog 174 = some [(0, 7), (7, 7), (14, 7), (21, 7), (28, 7), (35, 7), (42, 7), (49, 7), (56, 7), (63, 7), (70, 7), (77, 7), (84, 7), (91, 7), (98, 7), (105, 7), (112, 7), (119, 7), (126, 7), (133, 7), (140, 7), (147, 7), (154, 7)] := by kernel_rfl
@[push_cast] theorem at174 : arrT Tryz.prog 174 = some (23, 123, 7) := by kernel_rfl
@[push_cast] theorem pl176 : places Tryz.prog 176 = some [(0, 1), (1, 1), (2, 1)] := by kernel_rfl
@[push_cast] theorem at176 : arrT Tryz.prog 176 = some (3, 3, 1) := by kernel_rfl
@[push_cast] theorem pl177 : places Tryz.prog 177 = some [(0, 3), (3, 3), (6, 3), (9, 3), (12, 3), (15, 3), (18, 3)] := by kernel_rfl
@[push_cast] theorem at177 : arrT Tryz.prog 177 = some (7, 176, 3) := by kernel_rfl
@[push_cast] theorem pl178 : places Tryz.prog 178 = some [(0, 1), (1, 1), (2, 1), (3, 1), (4, 1), (5, 1), (6, 1)] := by kernel_rfl
@[push_cast] theorem pl184 : places Tryz.prog 184 = some [(0, 1), (1, 1)] := by kernel_rfl
@[push_cast] theorem pl185 : places Tryz.prog 185 = some [(0, 1), (1, 1)] := by kernel_rfl
@[push_cast] theorem pl186 : places Tryz.prog 186 = some [(0, 1), (1, 1)] := by kernel_rfl
@[push_cast] theorem pl187 : places Tryz.prog 187 = some [(0, 1), (1, 1)] := by kernel_rfl
@[push_cast] theorem es188 : elSz Tryz.prog 188 = some 1 := by kernel_rfl
@[push_cast] theorem eb188 : elB Tryz.prog 188 = 8 := by kernel_rfl
@[push_cast] theorem el188 : elT Tryz.prog 188 = some 189 := by kernel_rfl
@[push_cast] theorem es191 : elSz Tryz.prog 191 = some 1 := by kernel_rfl
@[push_cast] theorem eb191 : elB Tryz.prog 191 = 4 := by kernel_rfl
@[push_cast] theorem el191 : elT Tryz.prog 191 = some 38 := by kernel_rfl
@[push_cast] theorem es194 : elSz Tryz.prog 194 = some 1 := by kernel_rfl
@[push_cast] theorem eb194 : elB Tryz.prog 194 = 2 := by kernel_rfl
@[push_cast] theorem el194 : elT Tryz.prog 194 = some 22 := by kernel_rfl
@[push_cast] theorem es197 : elSz Tryz.prog 197 = some 7 := by kernel_rfl
@[push_cast] theorem eb197 : elB Tryz.prog 197 = 64 := by kernel_rfl
@[push_cast] theorem el197 : elT Tryz.prog 197 = some 145 := by kernel_rfl
@[push_cast] theorem es200 : elSz Tryz.prog 200 = some 2 := by kernel_rfl
@[push_cast] theorem eb200 : elB Tryz.prog 200 = 32 := by kernel_rfl
@[push_cast] theorem el200 : elT Tryz.prog 200 = some 205 := by kernel_rfl
@[push_cast] theorem pl201 : places Tryz.prog 201 = some [(0, 1), (1, 1), (2, 1), (3, 1)] := by kernel_rfl
@[push_cast] theorem pl202 : places Tryz.prog 202 = some [(0, 1), (1, 1), (2, 1), (3, 1)] := by kernel_rfl
@[push_cast] theorem pl204 : places Tryz.prog 204 = some [(0, 1), (1, 1)] := by kernel_rfl
@[push_cast] theorem pl205 : places Tryz.prog 205 = some [(0, 1), (1, 1)] := by kernel_rfl
@[push_cast] theorem es214 : elSz Tryz.prog 214 = some 2 := by kernel_rfl
@[push_cast] theorem eb214 : elB Tryz.prog 214 = 32 := by kernel_rfl
@[push_cast] theorem el214 : elT Tryz.prog 214 = some 219 := by kernel_rfl
@[push_cast] theorem pl219 : places Tryz.prog 219 = some [(0, 1), (1, 1)] := by kernel_rfl
@[push_cast] theorem mk221 : mpKey Tryz.prog 221 = some (.u16, 178) := by kernel_rfl
@[push_cast] theorem mz221 : mpZero Tryz.prog 178 = some (.agg #[.int .i64 0, .int .u16 0, .string ⟨#[]⟩, .int .i64 0, .int .i64 0, .int .i64 0, .int .i64 0]) := by kernel_rfl
@[push_cast] theorem pl241 : places Tryz.prog 241 = some [(0, 1), (1, 1), (2, 1)] := by kernel_rfl
@[push_cast] theorem pl242 : places Tryz.prog 242 = some [(0, 1), (1, 1), (2, 1)] := by kernel_rfl
@[push_cast] theorem tk252 : tk Tryz.prog 252 = .scal := by kernel_rfl
@[push_cast] theorem es252 : elSz Tryz.prog 252 = some 7 := by kernel_rfl
@[push_cast] theorem eb252 : elB Tryz.prog 252 = 64 := by kernel_rfl
@[push_cast] theorem el252 : elT Tryz.prog 252 = some 178 := by kernel_rfl
@[push_cast] theorem pl253 : places Tryz.prog 253 = some [(0, 1), (1, 1), (2, 1)] := by kernel_rfl
@[push_cast] theorem at253 : arrT Tryz.prog 253 = some (3, 252, 1) := by kernel_rfl
@[push_cast] theorem pl264 : places Tryz.prog 264 = some [(0, 1)] := by kernel_rfl
@[push_cast] theorem pl265 : places Tryz.prog 265 = some [(0, 1)] := by kernel_rfl
@[push_cast] theorem es276 : elSz Tryz.prog 276 = some 1 := by kernel_rfl
@[push_cast] theorem eb276 : elB Tryz.prog 276 = 16 := by kernel_rfl
@[push_cast] theorem el276 : elT Tryz.prog 276 = some 76 := by kernel_rfl
@[push_cast] theorem pl280 : places Tryz.prog 280 = some [(0, 1), (1, 1), (2, 1)] := by kernel_rfl
@[push_cast] theorem at280 : arrT Tryz.prog 280 = some (3, 5, 1) := by kernel_rfl
@[push_cast] theorem pl284 : places Tryz.prog 284 = some [(0, 1), (1, 1), (2, 1), (3, 1)] := by kernel_rfl
@[push_cast] theorem pl285 : places Tryz.prog 285 = some [(0, 1), (1, 1), (2, 1), (3, 1)] := by kernel_rfl
@[push_cast] theorem pl286 : places Tryz.prog 286 = some [] := by kernel_rfl
@[push_cast] theorem at286 : arrT Tryz.prog 286 = some (0, 16, 1) := by kernel_rfl
@[push_cast] theorem pl287 : places Tryz.prog 287 = some [(0, 0)] := by kernel_rfl
@[push_cast] theorem pl288 : places Tryz.prog 288 = some [(0, 0)] := by kernel_rfl
@[push_cast] theorem pl295 : places Tryz.prog 295 = some [(0, 1), (1, 1), (2, 1), (3, 1), (4, 1), (5, 1), (6, 1), (7, 1), (8, 1), (9, 1), (10, 1)] := by kernel_rfl
@[push_cast] theorem pl296 : places Tryz.prog 296 = some [(0, 1), (1, 1), (2, 1), (3, 1), (4, 1), (5, 1), (6, 1), (7, 1), (8, 1), (9, 1), (10, 1)] := by kernel_rfl
@[push_cast] theorem pl299 : places Tryz.prog 299 = some [(0, 1), (1, 1)] := by kernel_rfl
@[push_cast] theorem pl300 : places Tryz.prog 300 = some [(0, 1), (1, 1)] := by kernel_rfl
@[push_cast] theorem pl303 : places Tryz.prog 303 = some [(0, 1), (1, 1), (2, 1), (3, 1), (4, 1)] := by kernel_rfl
@[push_cast] theorem pl304 : places Tryz.prog 304 = some [(0, 1), (1, 1), (2, 1), (3, 1), (4, 1)] := by kernel_rfl
@[push_cast] theorem pl307 : places Tryz.prog 307 = some [(0, 1), (1, 1), (2, 1), (3, 1)] := by kernel_rfl
@[push_cast] theorem pl308 : places Tryz.prog 308 = some [(0, 1), (1, 1), (2, 1), (3, 1)] := by kernel_rfl
@[push_cast] theorem mixed : Tryz.prog.follows .mixedOrders = true := by kernel_rfl
@[push_cast] theorem rg0 : List.range 0 = [] := rfl
@[push_cast] theorem rg1 : List.range 1 = [0] := rfl
@[push_cast] theorem rg2 : List.range 2 = [0, 1] := rfl
@[push_cast] theorem rg3 : List.range 3 = [0, 1, 2] := rfl
@[push_cast] theorem rg4 : List.range 4 = [0, 1, 2, 3] := rfl
@[push_cast] theorem rg5 : List.range 5 = [0, 1, 2, 3, 4] := rfl
@[push_cast] theorem rg6 : List.range 6 = [0, 1, 2, 3, 4, 5] := rfl
@[push_cast] theorem rg7 : List.range 7 = [0, 1, 2, 3, 4, 5, 6] := rfl
@[push_cast] theorem rg8 : List.range 8 = [0, 1, 2, 3, 4, 5, 6, 7] := rfl
@[push_cast] theorem rg9 : List.range 9 = [0, 1, 2, 3, 4, 5, 6, 7, 8] := rfl
@[push_cast] theorem rg10 : List.range 10 = [0, 1, 2, 3, 4, 5, 6, 7, 8, 9] := rfl
@[push_cast] theorem rg11 : List.range 11 = [0, 1, 2, 3, 4, 5, 6, 7, 8, 9, 10] := rfl
@[push_cast] theorem rg12 : List.range 12 = [0, 1, 2, 3, 4, 5, 6, 7, 8, 9, 10, 11] := rfl
@[push_cast] theorem rg13 : List.range 13 = [0, 1, 2, 3, 4, 5, 6, 7, 8, 9, 10, 11, 12] := rfl
@[push_cast] theorem rg14 : List.range 14 = [0, 1, 2, 3, 4, 5, 6, 7, 8, 9, 10, 11, 12, 13] := rfl
@[push_cast] theorem rg15 : List.range 15 = [0, 1, 2, 3, 4, 5, 6, 7, 8, 9, 10, 11, 12, 13, 14] := rfl
@[push_cast] theorem rg16 : List.range 16 = [0, 1, 2, 3, 4, 5, 6, 7, 8, 9, 10, 11, 12, 13, 14, 15] := rfl
@[push_cast] theorem rg17 : List.range 17 = [0, 1, 2, 3, 4, 5, 6, 7, 8, 9, 10, 11, 12, 13, 14, 15, 16] := rfl
@[push_cast] theorem rg18 : List.range 18 = [0, 1, 2, 3, 4, 5, 6, 7, 8, 9, 10, 11, 12, 13, 14, 15, 16, 17] := rfl
@[push_cast] theorem rg19 : List.range 19 = [0, 1, 2, 3, 4, 5, 6, 7, 8, 9, 10, 11, 12, 13, 14, 15, 16, 17, 18] := rfl
@[push_cast] theorem rg20 : List.range 20 = [0, 1, 2, 3, 4, 5, 6, 7, 8, 9, 10, 11, 12, 13, 14, 15, 16, 17, 18, 19] := rfl
@[push_cast] theorem rg21 : List.range 21 = [0, 1, 2, 3, 4, 5, 6, 7, 8, 9, 10, 11, 12, 13, 14, 15, 16, 17, 18, 19, 20] := rfl
@[push_cast] theorem rg22 : List.range 22 = [0, 1, 2, 3, 4, 5, 6, 7, 8, 9, 10, 11, 12, 13, 14, 15, 16, 17, 18, 19, 20, 21] := rfl
@[push_cast] theorem rg23 : List.range 23 = [0, 1, 2, 3, 4, 5, 6, 7, 8, 9, 10, 11, 12, 13, 14, 15, 16, 17, 18, 19, 20, 21, 22] := rfl
@[push_cast] theorem rg24 : List.range 24 = [0, 1, 2, 3, 4, 5, 6, 7, 8, 9, 10, 11, 12, 13, 14, 15, 16, 17, 18, 19, 20, 21, 22, 23] := rfl
@[push_cast] theorem rg25 : List.range 25 = [0, 1, 2, 3, 4, 5, 6, 7, 8, 9, 10, 11, 12, 13, 14, 15, 16, 17, 18, 19, 20, 21, 22, 23, 24] := rfl
@[push_cast] theorem rg26 : List.range 26 = [0, 1, 2, 3, 4, 5, 6, 7, 8, 9, 10, 11, 12, 13, 14, 15, 16, 17, 18, 19, 20, 21, 22, 23, 24, 25] := rfl
@[push_cast] theorem rg27 : List.range 27 = [0, 1, 2, 3, 4, 5, 6, 7, 8, 9, 10, 11, 12, 13, 14, 15, 16, 17, 18, 19, 20, 21, 22, 23, 24, 25, 26] := rfl
@[push_cast] theorem rg28 : List.range 28 = [0, 1, 2, 3, 4, 5, 6, 7, 8, 9, 10, 11, 12, 13, 14, 15, 16, 17, 18, 19, 20, 21, 22, 23, 24, 25, 26, 27] := rfl
@[push_cast] theorem rg29 : List.range 29 = [0, 1, 2, 3, 4, 5, 6, 7, 8, 9, 10, 11, 12, 13, 14, 15, 16, 17, 18, 19, 20, 21, 22, 23, 24, 25, 26, 27, 28] := rfl
@[push_cast] theorem rg30 : List.range 30 = [0, 1, 2, 3, 4, 5, 6, 7, 8, 9, 10, 11, 12, 13, 14, 15, 16, 17, 18, 19, 20, 21, 22, 23, 24, 25, 26, 27, 28, 29] := rfl
@[push_cast] theorem rg31 : List.range 31 = [0, 1, 2, 3, 4, 5, 6, 7, 8, 9, 10, 11, 12, 13, 14, 15, 16, 17, 18, 19, 20, 21, 22, 23, 24, 25, 26, 27, 28, 29, 30] := rfl
@[push_cast] theorem rg32 : List.range 32 = [0, 1, 2, 3, 4, 5, 6, 7, 8, 9, 10, 11, 12, 13, 14, 15, 16, 17, 18, 19, 20, 21, 22, 23, 24, 25, 26, 27, 28, 29, 30, 31] := rfl
attribute [push_cast] Tryz.ntmps3 Tryz.results3 Tryz.ntmps10 Tryz.results10 Tryz.ntmps11 Tryz.results11 Tryz.ntmps12 Tryz.results12 Tryz.ntmps13 Tryz.results13 Tryz.ntmps14 Tryz.results14 Tryz.ntmps15 Tryz.results15 Tryz.ntmps16 Tryz.results16 Tryz.ntmps17 Tryz.results17 Tryz.ntmps19 Tryz.results19 Tryz.ntmps22 Tryz.results22 Tryz.ntmps23 Tryz.results23 Tryz.ntmps27 Tryz.results27 Tryz.ntmps38 Tryz.results38 Tryz.ntmps41 Tryz.results41 Tryz.ntmps43 Tryz.results43 Tryz.ntmps44 Tryz.results44 Tryz.ntmps46 Tryz.results46 Tryz.ntmps47 Tryz.results47 Tryz.ntmps48 Tryz.results48 Tryz.ntmps49 Tryz.results49 Tryz.ntmps50 Tryz.results50 Tryz.ntmps51 Tryz.results51 Tryz.ntmps54 Tryz.results54 Tryz.ntmps55 Tryz.results55 Tryz.ntmps57 Tryz.results57 Tryz.ntmps64 Tryz.results64 Tryz.ntmps68 Tryz.results68 Tryz.ntmps70 Tryz.results70 Tryz.ntmps71 Tryz.results71 Tryz.ntmps72 Tryz.results72 Tryz.ntmps73 Tryz.results73 Tryz.ntmps82 Tryz.results82 Tryz.ntmps84 Tryz.results84 Tryz.ntmps85 Tryz.results85 Tryz.ntmps87 Tryz.results87 Tryz.ntmps88 Tryz.results88 Tryz.ntmps89 Tryz.results89 Tryz.ntmps90 Tryz.results90 Tryz.ntmps94 Tryz.results94 Tryz.ntmps95 Tryz.results95 Tryz.ntmps96 Tryz.results96 Tryz.ntmps97 Tryz.results97 Tryz.ntmps98 Tryz.results98 Tryz.ntmps99 Tryz.results99 Tryz.ntmps100 Tryz.results100 Tryz.ntmps101 Tryz.results101 Tryz.ntmps102 Tryz.results102 Tryz.ntmps103 Tryz.results103 Tryz.ntmps104 Tryz.results104 Tryz.ntmps105 Tryz.results105 Tryz.ntmps106 Tryz.results106 Tryz.ntmps107 Tryz.results107 Tryz.ntmps108 Tryz.results108 Tryz.ntmps109 Tryz.results109 Tryz.ntmps110 Tryz.results110 Tryz.ntmps111 Tryz.results111 Tryz.ntmps112 Tryz.results112 Tryz.ntmps113 Tryz.results113 Tryz.ntmps114 Tryz.results114 Tryz.ntmps115 Tryz.results115 Tryz.ntmps116 Tryz.results116 Tryz.ntmps117 Tryz.results117 Tryz.ntmps118 Tryz.results118 Tryz.ntmps119 Tryz.results119 Tryz.ntmps120 Tryz.results120 Tryz.ntmps121 Tryz.results121 Tryz.ntmps123 Tryz.results123 Tryz.ntmps126 Tryz.results126 Tryz.ntmps128 Tryz.results128 Tryz.ntmps129 Tryz.results129 Tryz.ntmps130 Tryz.results130 Tryz.ntmps131 Tryz.results131 Tryz.ntmps132 Tryz.results132 Tryz.ntmps133 Tryz.results133 Tryz.ntmps134 Tryz.results134 Tryz.ntmps135 Tryz.results135 Tryz.ntmps136 Tryz.results136 Tryz.ntmps137 Tryz.results137 Tryz.ntmps138 Tryz.results138 Tryz.ntmps139 Tryz.results139 Tryz.ntmps140 Tryz.results140 Tryz.ntmps141 Tryz.results141 Tryz.ntmps142 Tryz.results142 Tryz.ntmps143 Tryz.results143 Tryz.ntmps144 Tryz.results144 Tryz.ntmps145 Tryz.results145 Tryz.ntmps146 Tryz.results146 Tryz.ntmps147 Tryz.results147 Tryz.ntmps148 Tryz.results148 Tryz.ntmps149 Tryz.results149 Tryz.ntmps150 Tryz.results150 Tryz.ntmps151 Tryz.results151 Tryz.ntmps152 Tryz.results152 Tryz.ntmps153 Tryz.results153 Tryz.ntmps154 Tryz.results154 Tryz.ntmps155 Tryz.results155 Tryz.ntmps156 Tryz.results156 Tryz.ntmps158 Tryz.results158 Tryz.ntmps159 Tryz.results159 Tryz.ntmps160 Tryz.results160 Tryz.ntmps161 Tryz.results161 Tryz.ntmps162 Tryz.results162 Tryz.ntmps163 Tryz.results163 Tryz.ntmps164 Tryz.results164 Tryz.ntmps165 Tryz.results165 Tryz.ntmps166 Tryz.results166 Tryz.ntmps167 Tryz.results167 Tryz.ntmps168 Tryz.results168 Tryz.ntmps169 Tryz.results169 Tryz.ntmps170 Tryz.results170 Tryz.ntmps171 Tryz.results171 Tryz.ntmps172 Tryz.results172 Tryz.ntmps173 Tryz.results173 Tryz.ntmps174 Tryz.results174 Tryz.ntmps175 Tryz.results175 Tryz.ntmps176 Tryz.results176 Tryz.ntmps177 Tryz.results177 Tryz.ntmps181 Tryz.results181 Tryz.ntmps182 Tryz.results182 Tryz.ntmps183 Tryz.results183 Tryz.ntmps184 Tryz.results184 Tryz.ntmps185 Tryz.results185 Tryz.ntmps186 Tryz.results186 Tryz.ntmps187 Tryz.results187 Tryz.ntmps188 Tryz.results188 Tryz.ntmps189 Tryz.results189 Tryz.ntmps190 Tryz.results190 Tryz.ntmps194 Tryz.results194 Tryz.ntmps195 Tryz.results195 Tryz.ntmps196 Tryz.results196 Tryz.ntmps197 Tryz.results197 Tryz.ntmps201 Tryz.results201 Tryz.ntmps202 Tryz.results202 Tryz.ntmps203 Tryz.results203 Tryz.ntmps204 Tryz.results204 Tryz.ntmps225 Tryz.results225
abbrev TyF (P : Go.Program) (n : Go.TypeId) (a : TK) (z : Option (List Go.Value)) (k : NK) (c s t : Bool) (i : Option Go.IntKind) : Prop :=
  tk P n = a ∧ zc P n = z ∧ nk P n = k ∧ Go.Abs.concrete P n = c ∧ isSlc P n = s ∧ isStr P n = t ∧ ikd P n = i
@[push_cast] theorem y1 : TyF Tryz.prog 1 .scal (some [.nilFunc]) .fnc true false false none := by and_intros <;> kernel_rfl
@[push_cast] theorem y2 : zc Tryz.prog 2 = some [.int .i64 0] ∧ Go.Abs.concrete Tryz.prog 2 = true ∧ isSlc Tryz.prog 2 = false ∧ isStr Tryz.prog 2 = false ∧ ikd Tryz.prog 2 = some .i64 := by and_intros <;> kernel_rfl
@[push_cast] theorem y3 : TyF Tryz.prog 3 .scal (some [.int .i64 0]) .other true false false (some .i64) := by and_intros <;> kernel_rfl
@[push_cast] theorem y4 : TyF Tryz.prog 4 .scal (some [.bool false]) .other true false false none := by and_intros <;> kernel_rfl
@[push_cast] theorem y5 : TyF Tryz.prog 5 .scal (some [.int .u8 0]) .other true false false (some .u8) := by and_intros <;> kernel_rfl
@[push_cast] theorem y6 : TyF Tryz.prog 6 .scal (some [.int .u8 0]) .other true false false (some .u8) := by and_intros <;> kernel_rfl
@[push_cast] theorem y7 : TyF Tryz.prog 7 (.aggr 4) (some [.int .i64 0, .int .i64 0, .bool false, .int .u8 0]) .other true false false none := by and_intros <;> kernel_rfl
@[push_cast] theorem y8 : TyF Tryz.prog 8 (.aggr 4) (some [.int .i64 0, .int .i64 0, .bool false, .int .u8 0]) .other true false false none := by and_intros <;> kernel_rfl
@[push_cast] theorem y9 : TyF Tryz.prog 9 .scal (some [.string ⟨#[]⟩]) .other true false true none := by and_intros <;> kernel_rfl
@[push_cast] theorem y10 : TyF Tryz.prog 10 .scal (some [.string ⟨#[]⟩]) .other true false true none := by and_intros <;> kernel_rfl
@[push_cast] theorem y11 : TyF Tryz.prog 11 .scal (some [.string ⟨#[]⟩]) .other true false true none := by and_intros <;> kernel_rfl
@[push_cast] theorem y12 : TyF Tryz.prog 12 .scal (some [.int .u64 0]) .other true false false (some .u64) := by and_intros <;> kernel_rfl
@[push_cast] theorem y13 : TyF Tryz.prog 13 (.aggr 2) (some [.string ⟨#[]⟩, .int .u64 0]) .other true false false none := by and_intros <;> kernel_rfl
@[push_cast] theorem y14 : TyF Tryz.prog 14 (.aggr 2) (some [.string ⟨#[]⟩, .int .u64 0]) .other true false false none := by and_intros <;> kernel_rfl
@[push_cast] theorem y15 : TyF Tryz.prog 15 .scal (some [.pointer none]) .ptr true false false none := by and_intros <;> kernel_rfl
@[push_cast] theorem y16 : TyF Tryz.prog 16 .scal (some [.pointer none]) .ptr true false false none := by and_intros <;> kernel_rfl
@[push_cast] theorem y17 : TyF Tryz.prog 17 .scal (some [.pointer none]) .ptr true false false none := by and_intros <;> kernel_rfl
@[push_cast] theorem y18 : TyF Tryz.prog 18 (.aggr 1) (some [.pointer none]) .other true false false none := by and_intros <;> kernel_rfl
@[push_cast] theorem y19 : TyF Tryz.prog 19 (.aggr 1) (some [.pointer none]) .other true false false none := by and_intros <;> kernel_rfl
@[push_cast] theorem y20 : tk Tryz.prog 20 = .scal ∧ zc Tryz.prog 20 = some [.nilIface] ∧ nk Tryz.prog 20 = .ifc ∧ isSlc Tryz.prog 20 = false ∧ isStr Tryz.prog 20 = false ∧ ikd Tryz.prog 20 = none := by and_intros <;> kernel_rfl
@[push_cast] theorem y21 : TyF Tryz.prog 21 .scal (some [.int .i32 0]) .other true false false (some .i32) := by and_intros <;> kernel_rfl
@[push_cast] theorem y22 : TyF Tryz.prog 22 .scal (some [.int .u16 0]) .other true false false (some .u16) := by and_intros <;> kernel_rfl
@[push_cast] theorem y23 : tk Tryz.prog 23 = .scal ∧ zc Tryz.prog 23 = some [.slice none 0 0] ∧ Go.Abs.concrete Tryz.prog 23 = true ∧ isSlc Tryz.prog 23 = true ∧ isStr Tryz.prog 23 = false ∧ ikd Tryz.prog 23 = none := by and_intros <;> kernel_rfl
@[push_cast] theorem y24 : TyF Tryz.prog 24 .scal (some [.slice none 0 0]) .slc true true false none := by and_intros <;> kernel_rfl
@[push_cast] theorem y25 : zc Tryz.prog 25 = some [.int .u16 0, .slice none 0 0, .slice none 0 0] ∧ nk Tryz.prog 25 = .other ∧ Go.Abs.concrete Tryz.prog 25 = true ∧ isSlc Tryz.prog 25 = false ∧ isStr Tryz.prog 25 = false ∧ ikd Tryz.prog 25 = none := by and_intros <;> kernel_rfl
@[push_cast] theorem y26 : TyF Tryz.prog 26 (.aggr 3) (some [.int .u16 0, .slice none 0 0, .slice none 0 0]) .other true false false none := by and_intros <;> kernel_rfl
@[push_cast] theorem y27 : TyF Tryz.prog 27 .scal (some [.nilFunc]) .fnc true false false none := by and_intros <;> kernel_rfl
@[push_cast] theorem y28 : TyF Tryz.prog 28 .scal (some [.nilFunc]) .fnc true false false none := by and_intros <;> kernel_rfl
@[push_cast] theorem y29 : TyF Tryz.prog 29 (.aggr 4) (some [.int .u8 0, .int .u8 0, .slice none 0 0, .slice none 0 0]) .other true false false none := by and_intros <;> kernel_rfl
@[push_cast] theorem y30 : TyF Tryz.prog 30 (.aggr 4) (some [.int .u8 0, .int .u8 0, .slice none 0 0, .slice none 0 0]) .other true false false none := by and_intros <;> kernel_rfl
@[push_cast] theorem y32 : TyF Tryz.prog 32 .scal (some [.nilFunc]) .fnc true false false none := by and_intros <;> kernel_rfl
@[push_cast] theorem y34 : TyF Tryz.prog 34 .scal (some [.nilFunc]) .fnc true false false none := by and_intros <;> kernel_rfl
@[push_cast] theorem y35 : TyF Tryz.prog 35 .scal (some [.nilFunc]) .fnc true false false none := by and_intros <;> kernel_rfl
@[push_cast] theorem y36 : TyF Tryz.prog 36 .scal (some [.nilFunc]) .fnc true false false none := by and_intros <;> kernel_rfl
@[push_cast] theorem y37 : TyF Tryz.prog 37 .scal (some [.nilFunc]) .fnc true false false none := by and_intros <;> kernel_rfl
@[push_cast] theorem y38 : TyF Tryz.prog 38 .scal (some [.int .u32 0]) .other true false false (some .u32) := by and_intros <;> kernel_rfl
@[push_cast] theorem y39 : TyF Tryz.prog 39 (.aggr 3) (some [.int .u16 0, .int .u16 0, .int .u32 0]) .other true false false none := by and_intros <;> kernel_rfl
@[push_cast] theorem y40 : TyF Tryz.prog 40 (.aggr 3) (some [.int .u16 0, .int .u16 0, .int .u32 0]) .other true false false none := by and_intros <;> kernel_rfl
@[push_cast] theorem y41 : TyF Tryz.prog 41 .scal (some [.slice none 0 0]) .slc true true false none := by and_intros <;> kernel_rfl
@[push_cast] theorem y42 : TyF Tryz.prog 42 (.aggr 4) (some [.int .u16 0, .int .u16 0, .int .u32 0, .slice none 0 0]) .other true false false none := by and_intros <;> kernel_rfl
@[push_cast] theorem y43 : TyF Tryz.prog 43 (.aggr 4) (some [.int .u16 0, .int .u16 0, .int .u32 0, .slice none 0 0]) .other true false false none := by and_intros <;> kernel_rfl
@[push_cast] theorem y44 : TyF Tryz.prog 44 .scal (some [.nilFunc]) .fnc true false false none := by and_intros <;> kernel_rfl
@[push_cast] theorem y46 : TyF Tryz.prog 46 .scal (some [.nilFunc]) .fnc true false false none := by and_intros <;> kernel_rfl
@[push_cast] theorem y47 : TyF Tryz.prog 47 .scal (some [.nilFunc]) .fnc true false false none := by and_intros <;> kernel_rfl
@[push_cast] theorem y48 : TyF Tryz.prog 48 .scal (some [.nilFunc]) .fnc true false false none := by and_intros <;> kernel_rfl
@[push_cast] theorem y49 : TyF Tryz.prog 49 .scal (some [.nilFunc]) .fnc true false false none := by and_intros <;> kernel_rfl
@[push_cast] theorem y51 : TyF Tryz.prog 51 .scal (some [.nilFunc]) .fnc true false false none := by and_intros <;> kernel_rfl
@[push_cast] theorem y52 : TyF Tryz.prog 52 .scal (some [.nilFunc]) .fnc true false false none := by and_intros <;> kernel_rfl
@[push_cast] theorem y53 : TyF Tryz.prog 53 .scal (some [.nilFunc]) .fnc true false false none := by and_intros <;> kernel_rfl
@[push_cast] theorem y55 : TyF Tryz.prog 55 .scal (some [.nilFunc]) .fnc true false false none := by and_intros <;> kernel_rfl
@[push_cast] theorem y56 : TyF Tryz.prog 56 .scal (some [.nilFunc]) .fnc true false false none := by and_intros <;> kernel_rfl
@[push_cast] theorem y57 : TyF Tryz.prog 57 (.aggr 4) (some [.slice none 0 0, .slice none 0 0, .slice none 0 0, .bool false]) .other true false false none := by and_intros <;> kernel_rfl
@[push_cast] theorem y58 : TyF Tryz.prog 58 (.aggr 4) (some [.slice none 0 0, .slice none 0 0, .slice none 0 0, .bool false]) .other true false false none := by and_intros <;> kernel_rfl
@[push_cast] theorem y59 : TyF Tryz.prog 59 .scal (some [.nilFunc]) .fnc true false false none := by and_intros <;> kernel_rfl
@[push_cast] theorem y60 : TyF Tryz.prog 60 .scal (some [.nilFunc]) .fnc true false false none := by and_intros <;> kernel_rfl
@[push_cast] theorem y61 : TyF Tryz.prog 61 .scal (some [.nilFunc]) .fnc true false false none := by and_intros <;> kernel_rfl
@[push_cast] theorem y62 : TyF Tryz.prog 62 .scal (some [.nilFunc]) .fnc true false false none := by and_intros <;> kernel_rfl
@[push_cast] theorem y64 : TyF Tryz.prog 64 .scal (some [.nilFunc]) .fnc true false false none := by and_intros <;> kernel_rfl
@[push_cast] theorem y65 : TyF Tryz.prog 65 .scal (some [.nilFunc]) .fnc true false false none := by and_intros <;> kernel_rfl
@[push_cast] theorem y66 : TyF Tryz.prog 66 .scal (some [.nilFunc]) .fnc true false false none := by and_intros <;> kernel_rfl
@[push_cast] theorem y67 : TyF Tryz.prog 67 .scal (some [.nilFunc]) .fnc true false false none := by and_intros <;> kernel_rfl
@[push_cast] theorem y68 : TyF Tryz.prog 68 .scal (some [.nilFunc]) .fnc true false false none := by and_intros <;> kernel_rfl
@[push_cast] theorem y69 : TyF Tryz.prog 69 (.aggr 7) (some [.int .u8 0, .string ⟨#[]⟩, .int .u8 0, .int .i64 0, .int .i64 0, .int .i64 0, .int .i64 0]) .other true false false none := by and_intros <;> kernel_rfl
@[push_cast] theorem y70 : TyF Tryz.prog 70 (.aggr 7) (some [.int .u8 0, .string ⟨#[]⟩, .int .u8 0, .int .i64 0, .int .i64 0, .int .i64 0, .int .i64 0]) .other true false false none := by and_intros <;> kernel_rfl
@[push_cast] theorem y72 : TyF Tryz.prog 72 .scal (some [.nilFunc]) .fnc true false false none := by and_intros <;> kernel_rfl
@[push_cast] theorem y73 : TyF Tryz.prog 73 .scal (some [.nilFunc]) .fnc true false false none := by and_intros <;> kernel_rfl
@[push_cast] theorem y74 : TyF Tryz.prog 74 .scal (some [.nilFunc]) .fnc true false false none := by and_intros <;> kernel_rfl
@[push_cast] theorem y75 : tk Tryz.prog 75 = .scal ∧ zc Tryz.prog 75 = some [.nilIface] ∧ nk Tryz.prog 75 = .ifc ∧ isSlc Tryz.prog 75 = false ∧ isStr Tryz.prog 75 = false ∧ ikd Tryz.prog 75 = none := by and_intros <;> kernel_rfl
@[push_cast] theorem y76 : tk Tryz.prog 76 = .scal ∧ zc Tryz.prog 76 = some [.nilIface] ∧ nk Tryz.prog 76 = .ifc ∧ isSlc Tryz.prog 76 = false ∧ isStr Tryz.prog 76 = false ∧ ikd Tryz.prog 76 = none := by and_intros <;> kernel_rfl
@[push_cast] theorem y77 : TyF Tryz.prog 77 .scal (some [.nilFunc]) .fnc true false false none := by and_intros <;> kernel_rfl
@[push_cast] theorem y79 : TyF Tryz.prog 79 .scal (some [.nilFunc]) .fnc true false false none := by and_intros <;> kernel_rfl
@[push_cast] theorem y80 : TyF Tryz.prog 80 .scal (some [.nilFunc]) .fnc true false false none := by and_intros <;> kernel_rfl
@[push_cast] theorem y82 : TyF Tryz.prog 82 .scal (some [.nilFunc]) .fnc true false false none := by and_intros <;> kernel_rfl
@[push_cast] theorem y84 : TyF Tryz.prog 84 .scal (some [.nilFunc]) .fnc true false false none := by and_intros <;> kernel_rfl
@[push_cast] theorem y85 : TyF Tryz.prog 85 (.aggr 4) (some [.slice none 0 0, .slice none 0 0, .slice none 0 0, .bool false]) .other true false false none := by and_intros <;> kernel_rfl
@[push_cast] theorem y86 : TyF Tryz.prog 86 .scal (some [.nilFunc]) .fnc true false false none := by and_intros <;> kernel_rfl
@[push_cast] theorem y87 : TyF Tryz.prog 87 .scal (some [.nilFunc]) .fnc true false false none := by and_intros <;> kernel_rfl
@[push_cast] theorem y88 : TyF Tryz.prog 88 .scal (some [.nilFunc]) .fnc true false false none := by and_intros <;> kernel_rfl
@[push_cast] theorem y89 : TyF Tryz.prog 89 .scal (some [.nilFunc]) .fnc true false false none := by and_intros <;> kernel_rfl
@[push_cast] theorem y91 : TyF Tryz.prog 91 .scal (some [.nilFunc]) .fnc true false false none := by and_intros <;> kernel_rfl
@[push_cast] theorem y92 : TyF Tryz.prog 92 .scal (some [.nilFunc]) .fnc true false false none := by and_intros <;> kernel_rfl
@[push_cast] theorem y93 : TyF Tryz.prog 93 .scal (some [.nilFunc]) .fnc true false false none := by and_intros <;> kernel_rfl
@[push_cast] theorem y94 : TyF Tryz.prog 94 .scal (some [.nilFunc]) .fnc true false false none := by and_intros <;> kernel_rfl
@[push_cast] theorem y96 : TyF Tryz.prog 96 .scal (some [.map none]) .other true false false none := by and_intros <;> kernel_rfl
@[push_cast] theorem y97 : TyF Tryz.prog 97 .scal (some [.nilFunc]) .fnc true false false none := by and_intros <;> kernel_rfl
@[push_cast] theorem y98 : TyF Tryz.prog 98 .scal (some [.nilFunc]) .fnc true false false none := by and_intros <;> kernel_rfl
@[push_cast] theorem y99 : TyF Tryz.prog 99 .scal (some [.nilFunc]) .fnc true false false none := by and_intros <;> kernel_rfl
@[push_cast] theorem y100 : TyF Tryz.prog 100 .scal (some [.nilFunc]) .fnc true false false none := by and_intros <;> kernel_rfl
@[push_cast] theorem y101 : TyF Tryz.prog 101 .scal (some [.nilFunc]) .fnc true false false none := by and_intros <;> kernel_rfl
@[push_cast] theorem y102 : TyF Tryz.prog 102 .scal (some [.nilFunc]) .fnc true false false none := by and_intros <;> kernel_rfl
@[push_cast] theorem y103 : TyF Tryz.prog 103 .scal (some [.nilFunc]) .fnc true false false none := by and_intros <;> kernel_rfl
@[push_cast] theorem y104 : TyF Tryz.prog 104 .scal (some [.nilFunc]) .fnc true false false none := by and_intros <;> kernel_rfl
@[push_cast] theorem y105 : TyF Tryz.prog 105 .scal (some [.nilFunc]) .fnc true false false none := by and_intros <;> kernel_rfl
@[push_cast] theorem y106 : TyF Tryz.prog 106 .scal (some [.nilFunc]) .fnc true false false none := by and_intros <;> kernel_rfl
@[push_cast] theorem y107 : TyF Tryz.prog 107 (.aggr 5) (some [.int .u32 0, .int .u32 0, .int .u16 0, .int .u16 0, .int .u32 0]) .other true false false none := by and_intros <;> kernel_rfl
@[push_cast] theorem y108 : TyF Tryz.prog 108 (.aggr 5) (some [.int .u32 0, .int .u32 0, .int .u16 0, .int .u16 0, .int .u32 0]) .other true false false none := by and_intros <;> kernel_rfl
@[push_cast] theorem y109 : TyF Tryz.prog 109 .scal (some [.nilFunc]) .fnc true false false none := by and_intros <;> kernel_rfl
@[push_cast] theorem y111 : TyF Tryz.prog 111 .scal (some [.nilFunc]) .fnc true false false none := by and_intros <;> kernel_rfl
@[push_cast] theorem y113 : TyF Tryz.prog 113 .scal (some [.nilFunc]) .fnc true false false none := by and_intros <;> kernel_rfl
@[push_cast] theorem y114 : TyF Tryz.prog 114 .scal (some [.nilFunc]) .fnc true false false none := by and_intros <;> kernel_rfl
@[push_cast] theorem y115 : TyF Tryz.prog 115 .scal (some [.slice none 0 0]) .slc true true false none := by and_intros <;> kernel_rfl
@[push_cast] theorem y116 : TyF Tryz.prog 116 .scal (some [.nilFunc]) .fnc true false false none := by and_intros <;> kernel_rfl
@[push_cast] theorem y118 : TyF Tryz.prog 118 .scal (some [.nilFunc]) .fnc true false false none := by and_intros <;> kernel_rfl
@[push_cast] theorem y119 : TyF Tryz.prog 119 .scal (some [.nilFunc]) .fnc true false false none := by and_intros <;> kernel_rfl
@[push_cast] theorem y120 : TyF Tryz.prog 120 .scal (some [.nilFunc]) .fnc true false false none := by and_intros <;> kernel_rfl
@[push_cast] theorem y121 : TyF Tryz.prog 121 .scal (some [.nilFunc]) .fnc true false false none := by and_intros <;> kernel_rfl
@[push_cast] theorem y122 : TyF Tryz.prog 122 .scal (some [.nilFunc]) .fnc true false false none := by and_intros <;> kernel_rfl
@[push_cast] theorem y123 : TyF Tryz.prog 123 (.aggr 7) (some [.int .u8 0, .string ⟨#[]⟩, .int .u8 0, .int .i64 0, .int .i64 0, .int .i64 0, .int .i64 0]) .other true false false none := by and_intros <;> kernel_rfl
@[push_cast] theorem y128 : TyF Tryz.prog 128 .scal (some [.slice none 0 0]) .slc true true false none := by and_intros <;> kernel_rfl
@[push_cast] theorem y129 : TyF Tryz.prog 129 .scal (some [.nilFunc]) .fnc true false false none := by and_intros <;> kernel_rfl
@[push_cast] theorem y130 : TyF Tryz.prog 130 .scal (some [.nilFunc]) .fnc true false false none := by and_intros <;> kernel_rfl
@[push_cast] theorem y131 : TyF Tryz.prog 131 .scal (some [.nilFunc]) .fnc true false false none := by and_intros <;> kernel_rfl
@[push_cast] theorem y132 : TyF Tryz.prog 132 .scal (some [.pointer none]) .ptr true false false none := by and_intros <;> kernel_rfl
@[push_cast] theorem y133 : TyF Tryz.prog 133 .scal (some [.nilFunc]) .fnc true false false none := by and_intros <;> kernel_rfl
@[push_cast] theorem y134 : TyF Tryz.prog 134 .scal (some [.nilFunc]) .fnc true false false none := by and_intros <;> kernel_rfl
@[push_cast] theorem y135 : TyF Tryz.prog 135 .scal (some [.nilFunc]) .fnc true false false none := by and_intros <;> kernel_rfl
@[push_cast] theorem y136 : TyF Tryz.prog 136 .scal (some [.int .i64 0]) .other true false false (some .i64) := by and_intros <;> kernel_rfl
@[push_cast] theorem y137 : TyF Tryz.prog 137 .scal (some [.nilFunc]) .fnc true false false none := by and_intros <;> kernel_rfl
@[push_cast] theorem y138 : TyF Tryz.prog 138 .scal (some [.nilFunc]) .fnc true false false none := by and_intros <;> kernel_rfl
@[push_cast] theorem y139 : TyF Tryz.prog 139 .scal (some [.nilFunc]) .fnc true false false none := by and_intros <;> kernel_rfl
@[push_cast] theorem y140 : TyF Tryz.prog 140 .scal (some [.nilFunc]) .fnc true false false none := by and_intros <;> kernel_rfl
@[push_cast] theorem y142 : TyF Tryz.prog 142 .scal (some [.nilFunc]) .fnc true false false none := by and_intros <;> kernel_rfl
@[push_cast] theorem y143 : TyF Tryz.prog 143 .scal (some [.nilFunc]) .fnc true false false none := by and_intros <;> kernel_rfl
@[push_cast] theorem y144 : TyF Tryz.prog 144 (.aggr 7) (some [.int .i64 0, .int .u16 0, .string ⟨#[]⟩, .int .i64 0, .int .i64 0, .int .i64 0, .int .i64 0]) .other true false false none := by and_intros <;> kernel_rfl
@[push_cast] theorem y145 : TyF Tryz.prog 145 (.aggr 7) (some [.int .i64 0, .int .u16 0, .string ⟨#[]⟩, .int .i64 0, .int .i64 0, .int .i64 0, .int .i64 0]) .other true false false none := by and_intros <;> kernel_rfl
@[push_cast] theorem y146 : TyF Tryz.prog 146 .scal (some [.nilFunc]) .fnc true false false none := by and_intros <;> kernel_rfl
@[push_cast] theorem y147 : TyF Tryz.prog 147 .scal (some [.nilFunc]) .fnc true false false none := by and_intros <;> kernel_rfl
@[push_cast] theorem y148 : TyF Tryz.prog 148 .scal (some [.nilFunc]) .fnc true false false none := by and_intros <;> kernel_rfl
@[push_cast] theorem y149 : TyF Tryz.prog 149 .scal (some [.nilFunc]) .fnc true false false none := by and_intros <;> kernel_rfl
@[push_cast] theorem y150 : TyF Tryz.prog 150 .scal (some [.nilFunc]) .fnc true false false none := by and_intros <;> kernel_rfl
@[push_cast] theorem y151 : TyF Tryz.prog 151 (.aggr 3) (some [.slice none 0 0, .int .i64 0, .int .i64 0]) .other true false false none := by and_intros <;> kernel_rfl
@[push_cast] theorem y152 : TyF Tryz.prog 152 (.aggr 3) (some [.slice none 0 0, .int .i64 0, .int .i64 0]) .other true false false none := by and_intros <;> kernel_rfl
@[push_cast] theorem y153 : TyF Tryz.prog 153 .scal (some [.nilFunc]) .fnc true false false none := by and_intros <;> kernel_rfl
@[push_cast] theorem y154 : TyF Tryz.prog 154 .scal (some [.nilFunc]) .fnc true false false none := by and_intros <;> kernel_rfl
@[push_cast] theorem y155 : TyF Tryz.prog 155 .scal (some [.nilFunc]) .fnc true false false none := by and_intros <;> kernel_rfl
@[push_cast] theorem y156 : TyF Tryz.prog 156 .scal (some [.slice none 0 0]) .slc true true false none := by and_intros <;> kernel_rfl
@[push_cast] theorem y158 : TyF Tryz.prog 158 .scal (some [.nilFunc]) .fnc true false false none := by and_intros <;> kernel_rfl
@[push_cast] theorem y159 : TyF Tryz.prog 159 .scal (some [.nilFunc]) .fnc true false false none := by and_intros <;> kernel_rfl
@[push_cast] theorem y160 : TyF Tryz.prog 160 .scal (some [.nilFunc]) .fnc true false false none := by and_intros <;> kernel_rfl
@[push_cast] theorem y161 : TyF Tryz.prog 161 .scal (some [.nilFunc]) .fnc true false false none := by and_intros <;> kernel_rfl
@[push_cast] theorem y162 : TyF Tryz.prog 162 .scal (some [.nilFunc]) .fnc true false false none := by and_intros <;> kernel_rfl
@[push_cast] theorem y163 : TyF Tryz.prog 163 .scal (some [.nilFunc]) .fnc true false false none := by and_intros <;> kernel_rfl
@[push_cast] theorem y164 : TyF Tryz.prog 164 .scal (some [.nilFunc]) .fnc true false false none := by and_intros <;> kernel_rfl
@[push_cast] theorem y165 : TyF Tryz.prog 165 .scal (some [.nilFunc]) .fnc true false false none := by and_intros <;> kernel_rfl
@[push_cast] theorem y166 : TyF Tryz.prog 166 .scal (some [.nilFunc]) .fnc true false false none := by and_intros <;> kernel_rfl
@[push_cast] theorem y168 : TyF Tryz.prog 168 .scal (some [.nilFunc]) .fnc true false false none := by and_intros <;> kernel_rfl
@[push_cast] theorem y170 : TyF Tryz.prog 170 .scal (some [.nilFunc]) .fnc true false false none := by and_intros <;> kernel_rfl
@[push_cast] theorem y171 : TyF Tryz.prog 171 .scal (some [.nilFunc]) .fnc true false false none := by and_intros <;> kernel_rfl
@[push_cast] theorem y172 : TyF Tryz.prog 172 .scal (some [.nilFunc]) .fnc true false false none := by and_intros <;> kernel_rfl
@[push_cast] theorem y173 : TyF Tryz.prog 173 .scal (some [.slice none 0 0]) .slc true true false none := by and_intros <;> kernel_rfl
@[push_cast] theorem y174 : nk Tryz.prog 174 = .other ∧ Go.Abs.concrete Tryz.prog 174 = true ∧ isSlc Tryz.prog 174 = false ∧ isStr Tryz.prog 174 = false ∧ ikd Tryz.prog 174 = none := by and_intros <;> kernel_rfl
@[push_cast] theorem y175 : TyF Tryz.prog 175 .scal (some [.nilFunc]) .fnc true false false none := by and_intros <;> kernel_rfl
@[push_cast] theorem y176 : TyF Tryz.prog 176 (.aggr 3) (some [.int .i64 0, .int .i64 0, .int .i64 0]) .other true false false none := by and_intros <;> kernel_rfl
@[push_cast] theorem y177 : TyF Tryz.prog 177 (.aggr 21) (some [.int .i64 0, .int .i64 0, .int .i64 0, .int .i64 0, .int .i64 0, .int .i64 0, .int .i64 0, .int .i64 0, .int .i64 0, .int .i64 0, .int .i64 0, .int .i64 0, .int .i64 0, .int .i64 0, .int .i64 0, .int .i64 0, .int .i64 0, .int .i64 0, .int .i64 0, .int .i64 0, .int .i64 0]) .other true false false none := by and_intros <;> kernel_rfl
@[push_cast] theorem y178 : TyF Tryz.prog 178 (.aggr 7) (some [.int .i64 0, .int .u16 0, .string ⟨#[]⟩, .int .i64 0, .int .i64 0, .int .i64 0, .int .i64 0]) .other true false false none := by and_intros <;> kernel_rfl
@[push_cast] theorem y180 : TyF Tryz.prog 180 .scal (some [.nilFunc]) .fnc true false false none := by and_intros <;> kernel_rfl
@[push_cast] theorem y181 : TyF Tryz.prog 181 .scal (some [.nilFunc]) .fnc true false false none := by and_intros <;> kernel_rfl
@[push_cast] theorem y182 : TyF Tryz.prog 182 .scal (some [.nilFunc]) .fnc true false false none := by and_intros <;> kernel_rfl
@[push_cast] theorem y183 : TyF Tryz.prog 183 .scal (some [.nilFunc]) .fnc true false false none := by and_intros <;> kernel_rfl
@[push_cast] theorem y184 : TyF Tryz.prog 184 (.aggr 2) (some [.slice none 0 0, .int .i64 0]) .other true false false none := by and_intros <;> kernel_rfl
@[push_cast] theorem y185 : TyF Tryz.prog 185 (.aggr 2) (some [.slice none 0 0, .int .i64 0]) .other true false false none := by and_intros <;> kernel_rfl
@[push_cast] theorem y186 : TyF Tryz.prog 186 (.aggr 2) (some [.int .i64 0, .int .i64 0]) .other true false false none := by and_intros <;> kernel_rfl
@[push_cast] theorem y187 : TyF Tryz.prog 187 (.aggr 2) (some [.int .i64 0, .int .i64 0]) .other true false false none := by and_intros <;> kernel_rfl
@[push_cast] theorem y188 : TyF Tryz.prog 188 .scal (some [.slice none 0 0]) .slc true true false none := by and_intros <;> kernel_rfl
@[push_cast] theorem y189 : TyF Tryz.prog 189 .scal (some [.nilFunc]) .fnc true false false none := by and_intros <;> kernel_rfl
@[push_cast] theorem y190 : TyF Tryz.prog 190 .scal (some [.nilFunc]) .fnc true false false none := by and_intros <;> kernel_rfl
@[push_cast] theorem y191 : TyF Tryz.prog 191 .scal (some [.slice none 0 0]) .slc true true false none := by and_intros <;> kernel_rfl
@[push_cast] theorem y192 : TyF Tryz.prog 192 .scal (some [.nilFunc]) .fnc true false false none := by and_intros <;> kernel_rfl
@[push_cast] theorem y193 : TyF Tryz.prog 193 .scal (some [.nilFunc]) .fnc true false false none := by and_intros <;> kernel_rfl
@[push_cast] theorem y194 : TyF Tryz.prog 194 .scal (some [.slice none 0 0]) .slc true true false none := by and_intros <;> kernel_rfl
@[push_cast] theorem y195 : TyF Tryz.prog 195 .scal (some [.nilFunc]) .fnc true false false none := by and_intros <;> kernel_rfl
@[push_cast] theorem y196 : TyF Tryz.prog 196 .scal (some [.nilFunc]) .fnc true false false none := by and_intros <;> kernel_rfl
@[push_cast] theorem y197 : TyF Tryz.prog 197 .scal (some [.slice none 0 0]) .slc true true false none := by and_intros <;> kernel_rfl
@[push_cast] theorem y198 : TyF Tryz.prog 198 .scal (some [.nilFunc]) .fnc true false false none := by and_intros <;> kernel_rfl
@[push_cast] theorem y199 : TyF Tryz.prog 199 .scal (some [.nilFunc]) .fnc true false false none := by and_intros <;> kernel_rfl
@[push_cast] theorem y200 : TyF Tryz.prog 200 .scal (some [.slice none 0 0]) .slc true true false none := by and_intros <;> kernel_rfl
@[push_cast] theorem y201 : TyF Tryz.prog 201 (.aggr 4) (some [.slice none 0 0, .slice none 0 0, .int .i64 0, .int .i64 0]) .other true false false none := by and_intros <;> kernel_rfl
@[push_cast] theorem y202 : TyF Tryz.prog 202 (.aggr 4) (some [.slice none 0 0, .slice none 0 0, .int .i64 0, .int .i64 0]) .other true false false none := by and_intros <;> kernel_rfl
@[push_cast] theorem y203 : TyF Tryz.prog 203 .scal (some [.nilFunc]) .fnc true false false none := by and_intros <;> kernel_rfl
@[push_cast] theorem y204 : TyF Tryz.prog 204 (.aggr 2) (some [.int .u16 0, .slice none 0 0]) .other true false false none := by and_intros <;> kernel_rfl
@[push_cast] theorem y205 : TyF Tryz.prog 205 (.aggr 2) (some [.int .u16 0, .slice none 0 0]) .other true false false none := by and_intros <;> kernel_rfl
@[push_cast] theorem y206 : TyF Tryz.prog 206 .scal (some [.nilFunc]) .fnc true false false none := by and_intros <;> kernel_rfl
@[push_cast] theorem y209 : TyF Tryz.prog 209 .scal (some [.int .u64 0]) .other true false false (some .u64) := by and_intros <;> kernel_rfl
@[push_cast] theorem y214 : TyF Tryz.prog 214 .scal (some [.slice none 0 0]) .slc true true false none := by and_intros <;> kernel_rfl
@[push_cast] theorem y217 : TyF Tryz.prog 217 .scal (some [.pointer none]) .ptr true false false none := by and_intros <;> kernel_rfl
@[push_cast] theorem y218 : TyF Tryz.prog 218 .scal (some [.pointer none]) .ptr true false false none := by and_intros <;> kernel_rfl
@[push_cast] theorem y219 : TyF Tryz.prog 219 (.aggr 2) (some [.int .u16 0, .slice none 0 0]) .other true false false none := by and_intros <;> kernel_rfl
@[push_cast] theorem y221 : TyF Tryz.prog 221 .scal (some [.map none]) .other true false false none := by and_intros <;> kernel_rfl
@[push_cast] theorem y223 : TyF Tryz.prog 223 .scal (some [.nilFunc]) .fnc true false false none := by and_intros <;> kernel_rfl
@[push_cast] theorem y224 : TyF Tryz.prog 224 .scal (some [.nilFunc]) .fnc true false false none := by and_intros <;> kernel_rfl
@[push_cast] theorem y225 : TyF Tryz.prog 225 .scal (some [.nilFunc]) .fnc true false false none := by and_intros <;> kernel_rfl
@[push_cast] theorem y229 : TyF Tryz.prog 229 .scal (some [.nilFunc]) .fnc true false false none := by and_intros <;> kernel_rfl
@[push_cast] theorem y230 : TyF Tryz.prog 230 .scal (some [.nilFunc]) .fnc true false false none := by and_intros <;> kernel_rfl
@[push_cast] theorem y233 : TyF Tryz.prog 233 .scal (some [.nilFunc]) .fnc true false false none := by and_intros <;> kernel_rfl
@[push_cast] theorem y242 : TyF Tryz.prog 242 (.aggr 3) (some [.pointer none, .pointer none, .int .u64 0]) .other true false false none := by and_intros <;> kernel_rfl
@[push_cast] theorem y245 : tk Tryz.prog 245 = .scal ∧ zc Tryz.prog 245 = some [.nilIface] ∧ nk Tryz.prog 245 = .ifc ∧ isSlc Tryz.prog 245 = false ∧ isStr Tryz.prog 245 = false ∧ ikd Tryz.prog 245 = none := by and_intros <;> kernel_rfl
@[push_cast] theorem y247 : TyF Tryz.prog 247 .scal (some [.int .u8 0]) .other true false false (some .u8) := by and_intros <;> kernel_rfl
@[push_cast] theorem y252 : zc Tryz.prog 252 = some [.slice none 0 0] ∧ nk Tryz.prog 252 = .slc ∧ Go.Abs.concrete Tryz.prog 252 = true ∧ isSlc Tryz.prog 252 = true ∧ isStr Tryz.prog 252 = false ∧ ikd Tryz.prog 252 = none := by and_intros <;> kernel_rfl
@[push_cast] theorem y253 : TyF Tryz.prog 253 (.aggr 3) (some [.slice none 0 0, .slice none 0 0, .slice none 0 0]) .other true false false none := by and_intros <;> kernel_rfl
@[push_cast] theorem y255 : TyF Tryz.prog 255 .scal (some [.nilFunc]) .fnc true false false none := by and_intros <;> kernel_rfl
@[push_cast] theorem y256 : TyF Tryz.prog 256 .scal (some [.nilFunc]) .fnc true false false none := by and_intros <;> kernel_rfl
@[push_cast] theorem y257 : TyF Tryz.prog 257 .scal (some [.nilFunc]) .fnc true false false none := by and_intros <;> kernel_rfl
@[push_cast] theorem y261 : TyF Tryz.prog 261 .scal (some [.nilFunc]) .fnc true false false none := by and_intros <;> kernel_rfl
@[push_cast] theorem y262 : TyF Tryz.prog 262 .scal (some [.nilFunc]) .fnc true false false none := by and_intros <;> kernel_rfl
@[push_cast] theorem y265 : TyF Tryz.prog 265 (.aggr 1) (some [.pointer none]) .other true false false none := by and_intros <;> kernel_rfl
@[push_cast] theorem y270 : tk Tryz.prog 270 = .scal ∧ zc Tryz.prog 270 = some [.nilIface] ∧ nk Tryz.prog 270 = .ifc ∧ isSlc Tryz.prog 270 = false ∧ isStr Tryz.prog 270 = false ∧ ikd Tryz.prog 270 = none := by and_intros <;> kernel_rfl
@[push_cast] theorem y273 : tk Tryz.prog 273 = .scal ∧ zc Tryz.prog 273 = some [.nilIface] ∧ nk Tryz.prog 273 = .ifc ∧ isSlc Tryz.prog 273 = false ∧ isStr Tryz.prog 273 = false ∧ ikd Tryz.prog 273 = none := by and_intros <;> kernel_rfl
@[push_cast] theorem y275 : tk Tryz.prog 275 = .scal ∧ zc Tryz.prog 275 = some [.nilIface] ∧ nk Tryz.prog 275 = .ifc ∧ isSlc Tryz.prog 275 = false ∧ isStr Tryz.prog 275 = false ∧ ikd Tryz.prog 275 = none := by and_intros <;> kernel_rfl
@[push_cast] theorem y276 : TyF Tryz.prog 276 .scal (some [.slice none 0 0]) .slc true true false none := by and_intros <;> kernel_rfl
@[push_cast] theorem y278 : TyF Tryz.prog 278 .scal (some [.nilFunc]) .fnc true false false none := by and_intros <;> kernel_rfl
@[push_cast] theorem y280 : TyF Tryz.prog 280 (.aggr 3) (some [.int .u8 0, .int .u8 0, .int .u8 0]) .other true false false none := by and_intros <;> kernel_rfl
@[push_cast] theorem cls0 : callable Tryz.prog 2 = true ∧ callable Tryz.prog 3 = true ∧ callable Tryz.prog 4 = true ∧ callable Tryz.prog 5 = true ∧ callable Tryz.prog 6 = true ∧ callable Tryz.prog 7 = true ∧ callable Tryz.prog 8 = true ∧ callable Tryz.prog 9 = true ∧ callable Tryz.prog 10 = true ∧ callable Tryz.prog 11 = true ∧ callable Tryz.prog 12 = true ∧ callable Tryz.prog 13 = true := by and_intros <;> kernel_rfl
@[push_cast] theorem cls12 : callable Tryz.prog 14 = true ∧ callable Tryz.prog 15 = true ∧ callable Tryz.prog 16 = true ∧ callable Tryz.prog 17 = true ∧ callable Tryz.prog 18 = true ∧ callable Tryz.prog 19 = true ∧ callable Tryz.prog 20 = true ∧ callable Tryz.prog 21 = true ∧ callable Tryz.prog 22 = true ∧ callable Tryz.prog 23 = true ∧ callable Tryz.prog 24 = true ∧ callable Tryz.prog 25 = true := by and_intros <;> kernel_rfl
@[push_cast] theorem cls24 : callable Tryz.prog 26 = true ∧ callable Tryz.prog 27 = true ∧ callable Tryz.prog 28 = true ∧ callable Tryz.prog 29 = true ∧ callable Tryz.prog 30 = true ∧ callable Tryz.prog 31 = true ∧ callable Tryz.prog 32 = true ∧ callable Tryz.prog 33 = true ∧ callable Tryz.prog 34 = true ∧ callable Tryz.prog 35 = true ∧ callable Tryz.prog 36 = true ∧ callable Tryz.prog 37 = true := by and_intros <;> kernel_rfl
@[push_cast] theorem cls36 : callable Tryz.prog 38 = true ∧ callable Tryz.prog 39 = true ∧ callable Tryz.prog 40 = true ∧ callable Tryz.prog 41 = true ∧ callable Tryz.prog 42 = true ∧ callable Tryz.prog 43 = true ∧ callable Tryz.prog 44 = true ∧ callable Tryz.prog 45 = true ∧ callable Tryz.prog 46 = true ∧ callable Tryz.prog 47 = true ∧ callable Tryz.prog 48 = true ∧ callable Tryz.prog 49 = true := by and_intros <;> kernel_rfl
@[push_cast] theorem cls48 : callable Tryz.prog 50 = true ∧ callable Tryz.prog 51 = true ∧ callable Tryz.prog 52 = true ∧ callable Tryz.prog 53 = true ∧ callable Tryz.prog 54 = true ∧ callable Tryz.prog 55 = true ∧ callable Tryz.prog 56 = true ∧ callable Tryz.prog 57 = true ∧ callable Tryz.prog 58 = true ∧ callable Tryz.prog 59 = true ∧ callable Tryz.prog 60 = true ∧ callable Tryz.prog 61 = true := by and_intros <;> kernel_rfl
@[push_cast] theorem cls60 : callable Tryz.prog 62 = true ∧ callable Tryz.prog 63 = true ∧ callable Tryz.prog 64 = true ∧ callable Tryz.prog 65 = true ∧ callable Tryz.prog 66 = true ∧ callable Tryz.prog 67 = true ∧ callable Tryz.prog 68 = true ∧ callable Tryz.prog 69 = true ∧ callable Tryz.prog 70 = true ∧ callable Tryz.prog 71 = true ∧ callable Tryz.prog 72 = true ∧ callable Tryz.prog 73 = true := by and_intros <;> kernel_rfl
@[push_cast] theorem cls72 : callable Tryz.prog 74 = true ∧ callable Tryz.prog 75 = true ∧ callable Tryz.prog 76 = true ∧ callable Tryz.prog 77 = true ∧ callable Tryz.prog 78 = true ∧ callable Tryz.prog 79 = true ∧ callable Tryz.prog 80 = true ∧ callable Tryz.prog 81 = true ∧ callable Tryz.prog 82 = true ∧ callable Tryz.prog 84 = true ∧ callable Tryz.prog 85 = true ∧ callable Tryz.prog 86 = true := by and_intros <;> kernel_rfl
@[push_cast] theorem cls84 : callable Tryz.prog 87 = true ∧ callable Tryz.prog 88 = true ∧ callable Tryz.prog 89 = true ∧ callable Tryz.prog 90 = true ∧ callable Tryz.prog 91 = true ∧ callable Tryz.prog 92 = true ∧ callable Tryz.prog 93 = true ∧ callable Tryz.prog 94 = true ∧ callable Tryz.prog 95 = true ∧ callable Tryz.prog 96 = true ∧ callable Tryz.prog 97 = true ∧ callable Tryz.prog 98 = true := by and_intros <;> kernel_rfl
@[push_cast] theorem cls96 : callable Tryz.prog 99 = true ∧ callable Tryz.prog 100 = true ∧ callable Tryz.prog 101 = true ∧ callable Tryz.prog 102 = true ∧ callable Tryz.prog 103 = true ∧ callable Tryz.prog 104 = true ∧ callable Tryz.prog 105 = true ∧ callable Tryz.prog 106 = true ∧ callable Tryz.prog 107 = true ∧ callable Tryz.prog 108 = true ∧ callable Tryz.prog 109 = true ∧ callable Tryz.prog 110 = true := by and_intros <;> kernel_rfl
@[push_cast] theorem cls108 : callable Tryz.prog 111 = true ∧ callable Tryz.prog 112 = true ∧ callable Tryz.prog 113 = true ∧ callable Tryz.prog 114 = true ∧ callable Tryz.prog 115 = true ∧ callable Tryz.prog 116 = true ∧ callable Tryz.prog 117 = true ∧ callable Tryz.prog 118 = true ∧ callable Tryz.prog 119 = true ∧ callable Tryz.prog 120 = true ∧ callable Tryz.prog 121 = true ∧ callable Tryz.prog 122 = true := by and_intros <;> kernel_rfl
@[push_cast] theorem cls120 : callable Tryz.prog 123 = true ∧ callable Tryz.prog 124 = true ∧ callable Tryz.prog 126 = true ∧ callable Tryz.prog 128 = true ∧ callable Tryz.prog 129 = true ∧ callable Tryz.prog 130 = true ∧ callable Tryz.prog 131 = true ∧ callable Tryz.prog 132 = true ∧ callable Tryz.prog 133 = true ∧ callable Tryz.prog 134 = true ∧ callable Tryz.prog 135 = true ∧ callable Tryz.prog 136 = true := by and_intros <;> kernel_rfl
@[push_cast] theorem cls132 : callable Tryz.prog 137 = true ∧ callable Tryz.prog 138 = true ∧ callable Tryz.prog 139 = true ∧ callable Tryz.prog 140 = true ∧ callable Tryz.prog 141 = true ∧ callable Tryz.prog 142 = true ∧ callable Tryz.prog 143 = true ∧ callable Tryz.prog 144 = true ∧ callable Tryz.prog 145 = true ∧ callable Tryz.prog 146 = true ∧ callable Tryz.prog 147 = true ∧ callable Tryz.prog 148 = true := by and_intros <;> kernel_rfl
@[push_cast] theorem cls144 : callable Tryz.prog 149 = true ∧ callable Tryz.prog 150 = true ∧ callable Tryz.prog 151 = true ∧ callable Tryz.prog 152 = true ∧ callable Tryz.prog 153 = true ∧ callable Tryz.prog 154 = true ∧ callable Tryz.prog 155 = true ∧ callable Tryz.prog 156 = true ∧ callable Tryz.prog 157 = true ∧ callable Tryz.prog 158 = true ∧ callable Tryz.prog 159 = true ∧ callable Tryz.prog 160 = true := by and_intros <;> kernel_rfl
@[push_cast] theorem cls156 : callable Tryz.prog 161 = true ∧ callable Tryz.prog 162 = true ∧ callable Tryz.prog 163 = true ∧ callable Tryz.prog 164 = true ∧ callable Tryz.prog 165 = true ∧ callable Tryz.prog 166 = true ∧ callable Tryz.prog 167 = true ∧ callable Tryz.prog 168 = true ∧ callable Tryz.prog 169 = true ∧ callable Tryz.prog 170 = true ∧ callable Tryz.prog 171 = true ∧ callable Tryz.prog 172 = true := by and_intros <;> kernel_rfl
@[push_cast] theorem cls168 : callable Tryz.prog 173 = true ∧ callable Tryz.prog 174 = true ∧ callable Tryz.prog 175 = true ∧ callable Tryz.prog 176 = true ∧ callable Tryz.prog 177 = true ∧ callable Tryz.prog 181 = true ∧ callable Tryz.prog 182 = true ∧ callable Tryz.prog 183 = true ∧ callable Tryz.prog 184 = true ∧ callable Tryz.prog 185 = true ∧ callable Tryz.prog 186 = true ∧ callable Tryz.prog 187 = true := by and_intros <;> kernel_rfl
@[push_cast] theorem cls180 : callable Tryz.prog 188 = true ∧ callable Tryz.prog 189 = true ∧ callable Tryz.prog 190 = true ∧ callable Tryz.prog 194 = true ∧ callable Tryz.prog 195 = true ∧ callable Tryz.prog 196 = true ∧ callable Tryz.prog 197 = true ∧ callable Tryz.prog 198 = true ∧ callable Tryz.prog 199 = true ∧ callable Tryz.prog 200 = true ∧ callable Tryz.prog 201 = true ∧ callable Tryz.prog 202 = true := by and_intros <;> kernel_rfl
@[push_cast] theorem cls192 : callable Tryz.prog 203 = true ∧ callable Tryz.prog 204 = true ∧ callable Tryz.prog 225 = true := by and_intros <;> kernel_rfl
@[push_cast] theorem flds7 : fld Tryz.prog 7 0 = some (0, .scal) ∧ fld Tryz.prog 7 1 = some (1, .scal) ∧ fld Tryz.prog 7 2 = some (2, .scal) ∧ fld Tryz.prog 7 3 = some (3, .scal) := by and_intros <;> kernel_rfl
@[push_cast] theorem flds8 : fld Tryz.prog 8 0 = some (0, .scal) ∧ fld Tryz.prog 8 1 = some (1, .scal) ∧ fld Tryz.prog 8 2 = some (2, .scal) ∧ fld Tryz.prog 8 3 = some (3, .scal) := by and_intros <;> kernel_rfl
@[push_cast] theorem flds13 : fld Tryz.prog 13 0 = some (0, .scal) ∧ fld Tryz.prog 13 1 = some (1, .scal) := by and_intros <;> kernel_rfl
@[push_cast] theorem flds14 : fld Tryz.prog 14 0 = some (0, .scal) ∧ fld Tryz.prog 14 1 = some (1, .scal) := by and_intros <;> kernel_rfl
@[push_cast] theorem flds18 : fld Tryz.prog 18 0 = some (0, .scal) := by kernel_rfl
@[push_cast] theorem flds19 : fld Tryz.prog 19 0 = some (0, .scal) := by kernel_rfl
@[push_cast] theorem flds25 : fld Tryz.prog 25 0 = some (0, .scal) ∧ fld Tryz.prog 25 1 = some (1, .scal) ∧ fld Tryz.prog 25 2 = some (2, .scal) := by and_intros <;> kernel_rfl
@[push_cast] theorem flds26 : fld Tryz.prog 26 0 = some (0, .scal) ∧ fld Tryz.prog 26 1 = some (1, .scal) ∧ fld Tryz.prog 26 2 = some (2, .scal) := by and_intros <;> kernel_rfl
@[push_cast] theorem flds29 : fld Tryz.prog 29 0 = some (0, .scal) ∧ fld Tryz.prog 29 1 = some (1, .scal) ∧ fld Tryz.prog 29 2 = some (2, .scal) ∧ fld Tryz.prog 29 3 = some (3, .scal) := by and_intros <;> kernel_rfl
@[push_cast] theorem flds30 : fld Tryz.prog 30 0 = some (0, .scal) ∧ fld Tryz.prog 30 1 = some (1, .scal) ∧ fld Tryz.prog 30 2 = some (2, .scal) ∧ fld Tryz.prog 30 3 = some (3, .scal) := by and_intros <;> kernel_rfl
@[push_cast] theorem flds39 : fld Tryz.prog 39 0 = some (0, .scal) ∧ fld Tryz.prog 39 1 = some (1, .scal) ∧ fld Tryz.prog 39 2 = some (2, .scal) := by and_intros <;> kernel_rfl
@[push_cast] theorem flds40 : fld Tryz.prog 40 0 = some (0, .scal) ∧ fld Tryz.prog 40 1 = some (1, .scal) ∧ fld Tryz.prog 40 2 = some (2, .scal) := by and_intros <;> kernel_rfl
@[push_cast] theorem flds42 : fld Tryz.prog 42 0 = some (0, .aggr 3) ∧ fld Tryz.prog 42 1 = some (3, .scal) := by and_intros <;> kernel_rfl
@[push_cast] theorem flds43 : fld Tryz.prog 43 0 = some (0, .aggr 3) ∧ fld Tryz.prog 43 1 = some (3, .scal) := by and_intros <;> kernel_rfl
@[push_cast] theorem flds57 : fld Tryz.prog 57 0 = some (0, .scal) ∧ fld Tryz.prog 57 1 = some (1, .scal) ∧ fld Tryz.prog 57 2 = some (2, .scal) ∧ fld Tryz.prog 57 3 = some (3, .scal) := by and_intros <;> kernel_rfl
@[push_cast] theorem flds58 : fld Tryz.prog 58 0 = some (0, .scal) ∧ fld Tryz.prog 58 1 = some (1, .scal) ∧ fld Tryz.prog 58 2 = some (2, .scal) ∧ fld Tryz.prog 58 3 = some (3, .scal) := by and_intros <;> kernel_rfl
@[push_cast] theorem flds69 : fld Tryz.prog 69 0 = some (0, .scal) ∧ fld Tryz.prog 69 1 = some (1, .scal) ∧ fld Tryz.prog 69 2 = some (2, .scal) ∧ fld Tryz.prog 69 3 = some (3, .scal) ∧ fld Tryz.prog 69 4 = some (4, .scal) ∧ fld Tryz.prog 69 5 = some (5, .scal) ∧ fld Tryz.prog 69 6 = some (6, .scal) := by and_intros <;> kernel_rfl
@[push_cast] theorem flds70 : fld Tryz.prog 70 0 = some (0, .scal) ∧ fld Tryz.prog 70 1 = some (1, .scal) ∧ fld Tryz.prog 70 2 = some (2, .scal) ∧ fld Tryz.prog 70 3 = some (3, .scal) ∧ fld Tryz.prog 70 4 = some (4, .scal) ∧ fld Tryz.prog 70 5 = some (5, .scal) ∧ fld Tryz.prog 70 6 = some (6, .scal) := by and_intros <;> kernel_rfl
@[push_cast] theorem flds85 : fld Tryz.prog 85 0 = some (0, .scal) ∧ fld Tryz.prog 85 1 = some (1, .scal) ∧ fld Tryz.prog 85 2 = some (2, .scal) ∧ fld Tryz.prog 85 3 = some (3, .scal) := by and_intros <;> kernel_rfl
@[push_cast] theorem flds107 : fld Tryz.prog 107 0 = some (0, .scal) ∧ fld Tryz.prog 107 1 = some (1, .scal) ∧ fld Tryz.prog 107 2 = some (2, .scal) ∧ fld Tryz.prog 107 3 = some (3, .scal) ∧ fld Tryz.prog 107 4 = some (4, .scal) := by and_intros <;> kernel_rfl
@[push_cast] theorem flds108 : fld Tryz.prog 108 0 = some (0, .scal) ∧ fld Tryz.prog 108 1 = some (1, .scal) ∧ fld Tryz.prog 108 2 = some (2, .scal) ∧ fld Tryz.prog 108 3 = some (3, .scal) ∧ fld Tryz.prog 108 4 = some (4, .scal) := by and_intros <;> kernel_rfl
@[push_cast] theorem flds123 : fld Tryz.prog 123 0 = some (0, .scal) ∧ fld Tryz.prog 123 1 = some (1, .scal) ∧ fld Tryz.prog 123 2 = some (2, .scal) ∧ fld Tryz.prog 123 3 = some (3, .scal) ∧ fld Tryz.prog 123 4 = some (4, .scal) ∧ fld Tryz.prog 123 5 = some (5, .scal) ∧ fld Tryz.prog 123 6 = some (6, .scal) := by and_intros <;> kernel_rfl
@[push_cast] theorem flds144 : fld Tryz.prog 144 0 = some (0, .scal) ∧ fld Tryz.prog 144 1 = some (1, .scal) ∧ fld Tryz.prog 144 2 = some (2, .scal) ∧ fld Tryz.prog 144 3 = some (3, .scal) ∧ fld Tryz.prog 144 4 = some (4, .scal) ∧ fld Tryz.prog 144 5 = some (5, .scal) ∧ fld Tryz.prog 144 6 = some (6, .scal) := by and_intros <;> kernel_rfl
@[push_cast] theorem flds145 : fld Tryz.prog 145 0 = some (0, .scal) ∧ fld Tryz.prog 145 1 = some (1, .scal) ∧ fld Tryz.prog 145 2 = some (2, .scal) ∧ fld Tryz.prog 145 3 = some (3, .scal) ∧ fld Tryz.prog 145 4 = some (4, .scal) ∧ fld Tryz.prog 145 5 = some (5, .scal) ∧ fld Tryz.prog 145 6 = some (6, .scal) := by and_intros <;> kernel_rfl
@[push_cast] theorem flds151 : fld Tryz.prog 151 0 = some (0, .scal) ∧ fld Tryz.prog 151 1 = some (1, .scal) ∧ fld Tryz.prog 151 2 = some (2, .scal) := by and_intros <;> kernel_rfl
@[push_cast] theorem flds152 : fld Tryz.prog 152 0 = some (0, .scal) ∧ fld Tryz.prog 152 1 = some (1, .scal) ∧ fld Tryz.prog 152 2 = some (2, .scal) := by and_intros <;> kernel_rfl
@[push_cast] theorem flds178 : fld Tryz.prog 178 0 = some (0, .scal) ∧ fld Tryz.prog 178 1 = some (1, .scal) ∧ fld Tryz.prog 178 2 = some (2, .scal) ∧ fld Tryz.prog 178 3 = some (3, .scal) ∧ fld Tryz.prog 178 4 = some (4, .scal) ∧ fld Tryz.prog 178 5 = some (5, .scal) ∧ fld Tryz.prog 178 6 = some (6, .scal) := by and_intros <;> kernel_rfl
@[push_cast] theorem flds184 : fld Tryz.prog 184 0 = some (0, .scal) ∧ fld Tryz.prog 184 1 = some (1, .scal) := by and_intros <;> kernel_rfl
@[push_cast] theorem flds185 : fld Tryz.prog 185 0 = some (0, .scal) ∧ fld Tryz.prog 185 1 = some (1, .scal) := by and_intros <;> kernel_rfl
@[push_cast] theorem flds186 : fld Tryz.prog 186 0 = some (0, .scal) ∧ fld Tryz.prog 186 1 = some (1, .scal) := by and_intros <;> kernel_rfl
@[push_cast] theorem flds187 : fld Tryz.prog 187 0 = some (0, .scal) ∧ fld Tryz.prog 187 1 = some (1, .scal) := by and_intros <;> kernel_rfl
@[push_cast] theorem flds201 : fld Tryz.prog 201 0 = some (0, .scal) ∧ fld Tryz.prog 201 1 = some (1, .scal) ∧ fld Tryz.prog 201 2 = some (2, .scal) ∧ fld Tryz.prog 201 3 = some (3, .scal) := by and_intros <;> kernel_rfl
@[push_cast] theorem flds202 : fld Tryz.prog 202 0 = some (0, .scal) ∧ fld Tryz.prog 202 1 = some (1, .scal) ∧ fld Tryz.prog 202 2 = some (2, .scal) ∧ fld Tryz.prog 202 3 = some (3, .scal) := by and_intros <;> kernel_rfl
@[push_cast] theorem flds204 : fld Tryz.prog 204 0 = some (0, .scal) ∧ fld Tryz.prog 204 1 = some (1, .scal) := by and_intros <;> kernel_rfl
@[push_cast] theorem flds205 : fld Tryz.prog 205 0 = some (0, .scal) ∧ fld Tryz.prog 205 1 = some (1, .scal) := by and_intros <;> kernel_rfl
@[push_cast] theorem flds219 : fld Tryz.prog 219 0 = some (0, .scal) ∧ fld Tryz.prog 219 1 = some (1, .scal) := by and_intros <;> kernel_rfl
@[push_cast] theorem flds242 : fld Tryz.prog 242 0 = some (0, .scal) ∧ fld Tryz.prog 242 1 = some (1, .scal) ∧ fld Tryz.prog 242 2 = some (2, .scal) := by and_intros <;> kernel_rfl
@[push_cast] theorem flds265 : fld Tryz.prog 265 0 = some (0, .scal) := by kernel_rfl
end Go.Proofs.YtokbbdodbjiciaaGreatDoor.Facts
set_option linter.unusedVariables false
set_option linter.unusedSimpArgs false
namespace Go.Abs
def gapN (n : Nat) : Nat := (4 - n % 4) % 4
def upN (n : Nat) : Nat := n + gapN n
theorem gap_val (n : Nat) (h : n < 2 ^ 62) : bitsV .and .i64 (IntKind.i64.wrap (0 - N n)) 3 = N (gapN n) := by
  unfold N
  have hw : IntKind.i64.wrap (0 - (n : Int)) = -(n : Int) := by rw [IntKind.wrap_i64]; omega
  rw [hw]
  have h3 : BitVec.ofInt 64 3 = 3#64 := rfl
  have hx : (BitVec.ofInt 64 (-(n : Int)) &&& 3#64).toNat = gapN n := by
    rw [BitVec.toNat_and]
    have : (3#64).toNat = 2 ^ 2 - 1 := rfl
    rw [this, Nat.and_two_pow_sub_one_eq_mod, BitVec.toNat_ofInt]
    unfold gapN
    omega
  show IntKind.i64.wrap ((BitVec.ofInt 64 (-(n : Int)) &&& BitVec.ofInt 64 3).toNat : Nat) = _
  rw [h3, hx, IntKind.wrap_i64]
  unfold gapN
  omega
theorem w64 {a : Int} (h0 : -2 ^ 63 ≤ a) (h : a < 2 ^ 63) : IntKind.i64.wrap a = a := by rw [IntKind.wrap_i64]; omega
theorem gapN_le (n : Nat) : gapN n ≤ 3 := by unfold gapN; omega
abbrev nat (n : Nat) : AV := .val (.int .i64 (N n))
attribute [push_cast] nat
def sumUp (s : Nat) : List Nat → Nat
  | [] => s
  | n :: l => sumUp (upN s + n) l
theorem le_sumUp : ∀ (l : List Nat) (s : Nat), s ≤ sumUp s l
  | [], s => Nat.le_refl s
  | n :: l, s => by have := le_sumUp l (upN s + n); simp only [sumUp, upN] at *; omega
theorem sumUp_append (n : Nat) : ∀ (l : List Nat) (s : Nat), sumUp s (l ++ [n]) = upN (sumUp s l) + n
  | [], s => rfl
  | m :: l, s => sumUp_append n l _
theorem sumUp_take : ∀ (l : List Nat) (i : Nat) {s : Nat}, sumUp s (l.take i) ≤ sumUp s l
  | [], i, s => by simp
  | n :: l, 0, s => by simpa [sumUp] using le_sumUp (n :: l) s
  | n :: l, i + 1, s => by simp only [List.take_succ_cons, sumUp]; exact sumUp_take l i
def nats (l : List Nat) : List AV := l.map nat
@[push_cast] theorem nats_hand (ids : List Nat) (l : List Nat) : AV.handL ids (nats l) = nats l := by
  rw [AV.handL_map]; simp [nats, AV.hand]
@[push_cast] theorem nats_len (l : List Nat) : (nats l).length = l.length := by simp [nats]
theorem nats_get (l : List Nat) (i : Nat) : (nats l)[i]? = l[i]?.map nat := by simp [nats]
@[push_cast] theorem nats_pl (l : List Nat) : AV.plL (nats l) = true := by
  rw [AV.plL_iff]; intro x hx; simp only [nats, List.mem_map] at hx; obtain ⟨b, _, rfl⟩ := hx; rfl
@[push_cast] theorem nats_ids (p : Nat → Bool) (l : List Nat) : AV.idsOkL p (nats l) = true := by
  rw [AV.idsOkL_iff]; intro x hx; simp only [nats, List.mem_map] at hx; obtain ⟨b, _, rfl⟩ := hx; rfl
end Go.Abs
namespace Go.Proofs.YtokbbdodbjiciaaGreatDoor.C
open Go.Abs
theorem pad_gap (n : Nat) (h : n < 2 ^ 62) : PC Tryz.prog 190 [nat n] (nat (gapN n)) := by
  refine PC.of_bodyW (by simp only [push_cast]) Tryz.func190 rfl (by rw [Tryz.ntmps190]; simp) ?_
  refine AWp.regionW ?_
  refine AWp.regionW ?_
  refine AWp.ret ?_
  try simp only [thenQ, blockQ, noGo]
  refine bodyQ.m ?_
  rw [gap_val n h]
  first | done | exact Hand.go
theorem pad_up (n : Nat) (h : n < 2 ^ 62) : PC Tryz.prog 195 [nat n] (nat (upN n)) := by
  have hg := gapN_le n
  refine PC.of_bodyW (by simp only [push_cast]) Tryz.func195 rfl (by rw [Tryz.ntmps195]; simp) ?_
  refine AWp.regionW ?_
  refine AWp.regionM fun K1 hK1 => ?_
  refine ARun2.callM (pad_gap n h) ?_
  refine ARun2.endm (hK1 _ ?_)
  refine AWp.ret ?_
  try simp only [thenQ, blockQ, noGo]
  refine bodyQ.m ?_
  clear hK1 K1
  rw [upN]
  first | done | exact Hand.go
theorem pad_sizes1 (m n : Nat) (h : m < 2 ^ 61) (h2 : n < 2 ^ 61) : OC Tryz.prog 194 [nat n, .ptr 0 0] [.box 3 [nat m]] (.tup []) [.box 3 [nat (upN m + n)]] := by
  have hg := gapN_le m
  have hu : upN m < 2 ^ 62 := by unfold upN; omega
  refine OC.of_body [0] (by intro k hk; simp at hk; subst hk; rfl) Tryz.func194 rfl (by rw [Tryz.ntmps194]; simp) ?_
  refine AWp.regionN fun K1 hK1 => ?_
  refine ARun2.callM (pad_up m (by omega)) ?_
  refine ARun2.endm (hK1 _ ?_)
  try simp only [thenQ, blockQ, noGo]
  refine bodyQ.n ?_
  clear hK1 K1
  refine endO.m ?_ ?_
  · rfl
  first | done | exact Hand.go
theorem pad_sizes (l : List Nat) (h : sumUp 0 l < 2 ^ 61) (hl : l.length < 2 ^ 61) : PC Tryz.prog 182 [.sl false 1 (nats l)] (nat (sumUp 0 l)) := by
  refine PC.of_bodyW (by simp only [push_cast]) Tryz.func182 rfl (by rw [Tryz.ntmps182]; simp) ?_
  refine AWp.regionW ?_
  refine AWp.regionW ?_
  refine AWp.regionW ?_
  refine AWp.seqK fun K1 hK1 => ?_
  refine AWp.regionW ?_
  refine AWp.block ?_
  refine AWp.loopK [3, 4, 8, 9] (fun (i : Nat) => [(10, nat i)]) (fun i => [.box 3 [nat (sumUp 0 (l.take i))]]) (fun i => i ≤ l.length) (fun i => l.length - i) (0) ?_ (Nat.zero_le _) ?_
  · skip
    refine Le.m 1 ?_ ?_
    · exact Go.Abs.evM
    · exact Go.Abs.evN
  · intro i hi K2 hK2
    refine AWp.regionW ?_
    refine AWp.seqK fun K3 hK3 => ?_
    refine AWp.condLM (fun c0 => ?_) (fun c0 => ?_)
    · skip
      have hil : i < l.length := by simpa using c0
      have hs : sumUp 0 (l.take (i + 1)) = upN (sumUp 0 (l.take i)) + l[i] := by rw [List.take_succ_eq_append_getElem hil, sumUp_append]
      have hle : sumUp 0 (l.take (i + 1)) ≤ sumUp 0 l := sumUp_take l (i + 1)
      refine AWp.skip ?_
      refine hK3 _ ?_
      refine AWp.seqK fun K4 hK4 => ?_
      refine AWp.block ?_
      refine AWp.regionM fun K5 hK5 => ?_
      refine ARun2.indexM (i) (nat l[i]) ?_ ?_
      · rw [nats_get, List.getElem?_eq_getElem hil]; rfl
      refine ARun2.endm (hK5 _ ?_)
      refine AWp.regionN fun K6 hK6 => ?_
      refine ARun2.callOM [0] (pad_sizes1 (sumUp 0 (l.take i)) l[i] (by simp only [upN] at hs; omega) (by omega)) ?_
      refine ARun2.endm (hK6 _ ?_)
      refine hK4 _ ?_
      refine AWp.regionV ?_
      refine hK2 _ (i + 1) (by omega) (by omega) ?_
      refine Le.m 1 ?_ ?_
      · first | exact Go.Abs.evM | (refine Go.Abs.evS ?_; rw [hs])
      · exact Go.Abs.evN
    have hie : i = l.length := by simp at c0; omega
    subst hie
    refine AWp.exit ?_
    try simp only [thenQ, blockQ, noGo, reduceIte, Nat.reduceEqDiff]
    refine hK1 _ ?_
    refine AWp.regionW ?_
    refine AWp.ret ?_
    try simp only [thenQ, blockQ, noGo]
    refine bodyQ.m ?_
    clear hK3 K3 hK2 K2 hK1 K1
    rw [List.take_length]
    first | done | exact Hand.go
end Go.Proofs.YtokbbdodbjiciaaGreatDoor.C
