/- The rule for a loop over a function. No condition. -/
import Derived.Test.YtmcedkcehcacpaaAbs11
namespace Go.Abs
set_option linter.unusedVariables false
set_option linter.unusedSectionVars false
set_option linter.unusedSimpArgs false
set_option linter.unnecessarySimpa false

section
variable {P : Program} {ops : Array Oper} {E : Env} {s s' : AS} {ρ : List Value} {B : Nat → Prop} {a : Act} {w w' : World} {o : Oper} {rest : List Oper}

def recOf (fn : FuncId) (t0 : Array Value) (ps : Array Tmp) (assign body : Code) (dd : Nat) (st : LoopState) (pe : Option Code) : Loop :=
  { state := st, pending := pe, fn := fn, tmps := t0, params := ps, assign := assign, body := body, defers := dd }

theorem JJ.congr {tr : List (List AV)} {go : Bool} {df : List Nat} {D D' : Nat → Prop} (h : JJ E tr go df D B w) (hd : ∀ b, D b ↔ D' b) : JJ E tr go df D' B w := by
  have : D = D' := funext fun b => propext (hd b)
  subst this; exact h

/-- the loop is entered -/
theorem enter_loop (hE : E.Ok P) (hs : RS E s ρ B a w) (fn : FuncId) (ps : Array Tmp) (assign body : Code) :
    ∃ (l dd : Nat) (dn : List Nat) (W1 : World), (Instr.enterLoop fn a.tmps ps assign body E.rnd).run P w = .ok (l, dn.map mark) W1 ∧ W1.heap[l]? = some (.loop (recOf fn a.tmps ps assign body dd .ready none)) ∧
      Same w W1 ∧ w.heap.size ≤ l ∧ JJ E s.tr s.go (dn ++ s.df) (fun b => Dof s.ob ρ b ∨ b = l ∨ False) B W1 := by
  have hDlt := fun b hb => (hs.rw_.bd.2 b hb).1
  have hbs : E.w0.heap.size ≤ w.heap.size := hs.rw_.size
  cases hr : E.rnd with
  | none =>
    have hsame : Same w ((w.alloc (.deferred (some []))).alloc (.loop (recOf fn a.tmps ps assign body w.heap.size .ready none))) := by
      have h1 := same_alloc w (.deferred (some []))
      have h2 := same_alloc (w.alloc (.deferred (some []))) (.loop (recOf fn a.tmps ps assign body w.heap.size .ready none))
      exact ⟨h2.os.trans h1.os, h2.tape.trans h1.tape, h2.output.trans h1.output, Nat.le_trans h1.size h2.size, fun k hk => (h2.block k (Nat.lt_of_lt_of_le hk h1.size)).trans (h1.block k hk)⟩
    have hl : ((w.alloc (.deferred (some []))).alloc (.loop (recOf fn a.tmps ps assign body w.heap.size .ready none))).heap[w.heap.size + 1]? = some (.loop (recOf fn a.tmps ps assign body w.heap.size .ready none)) := by
      have := alloc_get (w.alloc (.deferred (some []))) (.loop (recOf fn a.tmps ps assign body w.heap.size .ready none))
      simpa using this
    have hd : ((w.alloc (.deferred (some []))).alloc (.loop (recOf fn a.tmps ps assign body w.heap.size .ready none))).heap[w.heap.size]? = some (.deferred (some [])) :=
      ((same_alloc (w.alloc (.deferred (some []))) _).block w.heap.size (by simp)).trans (alloc_get w _)
    refine ⟨w.heap.size + 1, w.heap.size, [w.heap.size], _, run_enterLoop_outer _ _ _ _ _, hl, hsame, by omega, ?_⟩
    have hj := hs.jj
    refine ⟨hj.stab _ _ _ _ _ _ _ _ hj.j ⟨hsame.os, hsame.tape, hsame.output, hsame.size, fun b h1 _ => hsame.block b h1, ?_, fun _ h => h, fun _ h => .inl h⟩ ⟨fun b hb => Nat.lt_of_lt_of_le (hs.rw_.blt b hb) hsame.size, ?_⟩, hj.stab, ?_, ?_⟩
    · rintro b ((h | rfl | h) | h)
      · exact .inl (.inl h)
      · exact .inr (by omega)
      · exact h.elim
      · simp only [List.cons_append, List.nil_append, List.mem_cons] at h
        rcases h with rfl | h
        · exact .inr (Nat.le_refl _)
        · exact .inl (.inr h)
    · rintro b ((h | rfl | h) | h)
      · exact ⟨Nat.lt_of_lt_of_le (hDlt b h) hsame.size, (hs.rw_.bd.2 b h).2⟩
      · exact ⟨heapLt hl, fun hB => by have := hs.rw_.blt _ hB; omega⟩
      · exact h.elim
      · simp only [List.cons_append, List.nil_append, List.mem_cons] at h
        rcases h with rfl | h
        · exact ⟨heapLt hd, fun hB => by have := hs.rw_.blt _ hB; omega⟩
        · exact ⟨Nat.lt_of_lt_of_le (hs.bdj.2 b (.inr h)).1 hsame.size, (hs.bdj.2 b (.inr h)).2⟩
    · simp only [List.cons_append, List.nil_append, List.nodup_cons]
      exact ⟨fun h => by have := heapLt (hj.mks _ h).1; omega, hj.nodup⟩
    · intro b hb
      simp only [List.cons_append, List.nil_append, List.mem_cons] at hb
      rcases hb with rfl | hb
      · refine ⟨hd, ?_, fun hB => by have := hs.rw_.blt _ hB; omega, hbs⟩
        rintro (h | h | h)
        · have := hDlt _ h; omega
        · omega
        · exact h
      · obtain ⟨h1, h2, h3, h4⟩ := hj.mks b hb
        have hlt := heapLt h1
        refine ⟨(hsame.block b hlt).trans h1, ?_, h3, h4⟩
        rintro (h | h | h)
        · exact h2 h
        · omega
        · exact h
  | some l0 =>
    obtain ⟨r0, hr0⟩ := hE.rnd l0 hr _ _ _ _ _ hs.jj.j
    have hsame := same_alloc w (.loop (recOf fn a.tmps ps assign body r0.defers .ready none))
    have hl := alloc_get w (.loop (recOf fn a.tmps ps assign body r0.defers .ready none))
    refine ⟨w.heap.size, r0.defers, [], _, run_enterLoop_inner hr0 _ _ _ _ _, hl, hsame, Nat.le_refl _, ?_⟩
    have hj := hs.jj
    refine ⟨hj.stab _ _ _ _ _ _ _ _ hj.j ⟨hsame.os, hsame.tape, hsame.output, hsame.size, fun b h1 _ => hsame.block b h1, ?_, fun _ h => h, fun _ h => .inl h⟩ ⟨fun b hb => Nat.lt_of_lt_of_le (hs.rw_.blt b hb) hsame.size, ?_⟩, hj.stab, hj.nodup, ?_⟩
    · rintro b ((h | rfl | h) | h)
      · exact .inl (.inl h)
      · exact .inr (Nat.le_refl _)
      · exact h.elim
      · exact .inl (.inr h)
    · rintro b ((h | rfl | h) | h)
      · exact ⟨Nat.lt_of_lt_of_le (hDlt b h) hsame.size, (hs.rw_.bd.2 b h).2⟩
      · exact ⟨heapLt hl, fun hB => by have := hs.rw_.blt _ hB; omega⟩
      · exact h.elim
      · exact ⟨Nat.lt_of_lt_of_le (hs.bdj.2 b (.inr h)).1 hsame.size, (hs.bdj.2 b (.inr h)).2⟩
    · intro b hb
      obtain ⟨h1, h2, h3, h4⟩ := hj.mks b hb
      have hlt := heapLt h1
      refine ⟨(hsame.block b hlt).trans h1, ?_, h3, h4⟩
      rintro (h | h | h)
      · exact h2 h
      · omega
      · exact h

/-- the record turns -/
theorem RS.turn {pp : List Value} {df : List Nat} {l : Nat} {rec rec' : Loop} {D2 B2 : Nat → Prop} {W : World} (h : RS (E.inRound pp df l rec D2 B2 W) s ρ B a w) (hl : E.w0.heap.size ≤ l) :
    RS (E.inRound pp df l rec' D2 B2 W) s ρ B a (setBlk w l (.loop rec')) := by
  have hj : J1 E df l rec D2 B2 W s.tr s.go (fun b => Dof s.ob ρ b ∨ b ∈ s.df) B w := h.jj.j
  have hlt := heapLt hj.rec_
  have hne : ∀ b, b ≠ l → (setBlk w l (.loop rec')).heap[b]? = w.heap[b]? := fun b hb => by rw [setBlk_get _ _ _ _ hlt, if_neg hb]
  have hlD : ¬ Dof s.ob ρ l := fun hd => hj.lD (.inl hd)
  have hB : ∀ b, B b → (setBlk w l (.loop rec')).heap[b]? = w.heap[b]? := fun b hb => hne b (by rintro rfl; exact hj.lB hb)
  have hrw := h.rw_.tidy (o := .loop rec') hl hlt hj.lB hlD
  have hsz : (setBlk w l (.loop rec')).heap.size = w.heap.size := by simp [setBlk]
  have hjj : JJ E s.tr s.go df (fun b => (Dof s.ob ρ b ∨ b ∈ s.df) ∨ b = l ∨ D2 b) B (setBlk w l (.loop rec')) := by
    refine hj.jj.chg ⟨rfl, rfl, rfl, by rw [hsz]; exact Nat.le_refl _, fun b _ hb => hne b (fun e => hb (.inr (.inl e))), fun _ h => .inl h, fun _ h => h, fun _ h => .inl h⟩ ⟨fun b hb => by rw [hsz]; exact h.rw_.blt b hb, ?_⟩
    rintro b (hb | rfl | hb)
    · rw [hsz]; exact h.bdj.2 b hb
    · exact ⟨by rw [hsz]; exact hlt, hj.lB⟩
    · obtain ⟨k1, k2, k3, k4⟩ := hj.d2 b hb
      exact ⟨by rw [hsz]; exact Nat.lt_of_lt_of_le k1 hj.size, k4⟩
  refine ⟨{ os := hrw.os, tape := hrw.tape, output := hrw.output, size := hrw.size, block := hrw.block, pre := hrw.pre, bsub := hrw.bsub, bnew := hrw.bnew, blt := hrw.blt, len := hrw.len, obs := hrw.obs, dis := hrw.dis, prv := hrw.prv },
    h.m, h.n, h.df, ⟨?_, Env.inRound_stab, h.jj.nodup, ?_⟩, fun t x hm => ⟨(h.rf t x hm).1, (h.rf t x hm).2.mono (fun _ h => h) hB (Nat.le_refl _) (fun _ _ h => h)⟩⟩
  · show J1 E df l rec' D2 B2 W s.tr s.go (fun b => Dof s.ob ρ b ∨ b ∈ s.df) B (setBlk w l (.loop rec'))
    refine ⟨hjj, by rw [setBlk_get _ _ _ _ hlt, if_pos rfl], hj.lD, hj.lB, hj.l2, ?_, ?_, hj.os, hj.tape, hj.output, by rw [hsz]; exact hj.size, ⟨fun b hb => by rw [hsz]; exact hj.bd.1 b hb, fun b hb => by rw [hsz]; exact hj.bd.2 b hb⟩⟩
    · intro b hb
      obtain ⟨k1, k2, k3⟩ := hj.d2 b hb
      exact ⟨k1, (hne b (by rintro rfl; exact hj.l2 hb)).trans k2, k3⟩
    · intro b hb
      obtain ⟨k1, k2, k3, k4⟩ := hj.b2 b hb
      exact ⟨k1, (hB b k4).trans k2, k3, k4⟩
  · intro b hb
    obtain ⟨h1, h2, h3, h4⟩ := h.jj.mks b hb
    exact ⟨(hne b (by rintro rfl; exact hj.lD (.inr hb))).trans h1, h2, h3, h4⟩

/-- a round begins: the suspended activation's state -/
theorem Susp.begin {df : List Nat} {l : Nat} {t0 : Array Value} {fr0 : List (Nat × AV)} {pp : List Value} {base : Nat} {ob : List Ob} {tr : List (List AV)} {go : Bool} {Bc D2 B2 : Nat → Prop} {W : World} {rec : Loop} {fr : List (Nat × AV)} {a1 : Act} {n m : Nat}
    (h : Susp E df l t0 fr0 pp base ob tr go ρ Bc D2 B2 W) (hl : W.heap[l]? = some (.loop rec)) (hm : E.ρ0.length ≤ m) (hob : ob.length ≤ m) (hn : a1.tmps.size = n) (hd : a1.defers = []) (hf : RF W Bc E.bs ρ a1.tmps fr) :
    RS (E.inRound ρ df l rec D2 Bc W) { n := n, m := m, fr := fr, ob := ob, df := [], yl := E.yl, tr := tr, go := go } ρ Bc a1 W := by
  have r := h.rw_
  have hjj : JJ E tr go df (fun b => (Dof ob ρ b ∨ b ∈ ([] : List Nat)) ∨ b = l ∨ D2 b) Bc W := h.jj.congr fun b => by simp
  have hrw : RW (E.inRound ρ df l rec D2 Bc W) ob ρ Bc W :=
    { os := r.os, tape := r.tape, output := r.output, size := r.size, block := r.block, pre := fun k v h1 h2 => h1.elim (fun h1 => r.pre k v (.inl h1) h2) fun h1 => h1, bsub := r.bsub, bnew := r.bnew, blt := r.blt, len := r.len, obs := r.obs, dis := r.dis, prv := r.prv }
  refine ⟨hrw, ⟨hm, by show ρ.length ≤ m; rw [r.len]; exact hob, rfl⟩, hn, hd, ⟨?_, Env.inRound_stab, List.nodup_nil, by simp⟩, hf⟩
  show J1 E df l rec D2 Bc W tr go (fun b => Dof ob ρ b ∨ b ∈ ([] : List Nat)) Bc W
  refine ⟨hjj, hl, ?_, h.lB, fun hd => (h.d2 l hd).2.2.1 rfl, ?_, ?_, rfl, rfl, rfl, Nat.le_refl _, ⟨r.blt, ?_⟩⟩
  · rintro (h1 | h1)
    · exact h.lD h1
    · simp at h1
  · intro b hb
    obtain ⟨k1, k2, k3, k4, k5⟩ := h.d2 b hb
    exact ⟨k4, rfl, by rintro (h1 | h1); exact k2 h1; simp at h1, k1⟩
  · intro b hb
    refine ⟨r.blt b hb, rfl, ?_, hb⟩
    rintro (h1 | h1)
    · exact (r.bd.2 b h1).2 hb
    · simp at h1
  · rintro b (h1 | h1)
    · exact r.bd.2 b h1
    · simp at h1

/-- a round ends -/
theorem Susp.end_ {df : List Nat} {l : Nat} {t0 : Array Value} {fr0 : List (Nat × AV)} {pp : List Value} {base : Nat} {ob : List Ob} {tr : List (List AV)} {go : Bool} {ρ2 : List Value} {Bc B3 D2 B2 : Nat → Prop} {W : World} {rec rec' : Loop}
    (h : Susp E df l t0 fr0 pp base ob tr go ρ Bc D2 B2 W) (hl0 : E.w0.heap.size ≤ l) (hid : frIds (fun k => pp[k]?.any isPtr) fr0 = true) (hs : RS (E.inRound ρ df l rec D2 Bc W) s ρ2 B3 a w) :
    Susp E df l t0 fr0 pp base s.ob s.tr s.go ρ2 B3 D2 B2 (setBlk w l (.loop rec')) ∧ Kept D2 B2 W (setBlk w l (.loop rec')) ∧ (setBlk w l (.loop rec')).heap[l]? = some (.loop rec') := by
  have hj : J1 E df l rec D2 Bc W s.tr s.go (fun b => Dof s.ob ρ2 b ∨ b ∈ s.df) B3 w := hs.jj.j
  have hlt := heapLt hj.rec_
  have hne : ∀ b, b ≠ l → (setBlk w l (.loop rec')).heap[b]? = w.heap[b]? := fun b hb => by rw [setBlk_get _ _ _ _ hlt, if_neg hb]
  have hlD : ¬ Dof s.ob ρ2 l := fun hd => hj.lD (.inl hd)
  have hsz : (setBlk w l (.loop rec')).heap.size = w.heap.size := by simp [setBlk]
  have hptr : ∀ (k : Nat) (v : Value), pp[k]? = some v → isPtr v = true → ρ2[k]? = some v := fun k v h1 h2 => hs.rw_.pre k v (.inr (h.ptr k v h1 h2)) h2
  have hrw1 := hs.rw_.tidy (o := .loop rec') hl0 hlt hj.lB hlD
  have hrw : RW E s.ob ρ2 B3 (setBlk w l (.loop rec')) :=
    { os := hrw1.os, tape := hrw1.tape, output := hrw1.output, size := hrw1.size, block := hrw1.block, pre := fun k v h1 h2 => hs.rw_.pre k v (.inr (h.rw_.pre k v h1 h2)) h2, bsub := hrw1.bsub, bnew := hrw1.bnew, blt := hrw1.blt, len := hrw1.len, obs := hrw1.obs, dis := hrw1.dis, prv := hrw1.prv }
  have hBW : ∀ b, Bc b → (setBlk w l (.loop rec')).heap[b]? = W.heap[b]? := fun b hb => by
    obtain ⟨k1, k2, k3, k4⟩ := hj.b2 b hb
    exact (hne b (by rintro rfl; exact hj.lB k4)).trans k2
  have hDW : ∀ b, D2 b → (setBlk w l (.loop rec')).heap[b]? = W.heap[b]? := fun b hb => (hne b (by rintro rfl; exact hj.l2 hb)).trans (hj.d2 b hb).2.1
  refine ⟨⟨hrw, ?_, ?_, hptr, fun b hb => (hj.b2 b (h.b2 b hb)).2.2.2, ?_, hj.lB, hlD, by rw [hsz]; exact hlt, by rw [hsz]; exact Nat.le_trans h.lb hj.size⟩, ⟨hj.os, hj.tape, hj.output, by rw [hsz]; exact hj.size, fun b hb => hb.elim (fun hb => hBW b (h.b2 b hb)) (hDW b)⟩, by rw [setBlk_get _ _ _ _ hlt, if_pos rfl]⟩
  · refine hj.jj.chg ⟨rfl, rfl, rfl, by rw [hsz]; exact Nat.le_refl _, fun b _ hb => hne b (fun e => hb (.inr (.inl e))), ?_, fun _ h => h, fun _ h => .inl h⟩ ⟨hrw.blt, ?_⟩
    · rintro b (h1 | h1 | h1)
      · exact .inl (.inl (.inl h1))
      · exact .inl (.inr (.inl h1))
      · exact .inl (.inr (.inr h1))
    · rintro b (h1 | rfl | h1)
      · exact hrw.bd.2 b h1
      · exact ⟨by rw [hsz]; exact hlt, hj.lB⟩
      · exact ⟨by rw [hsz]; exact Nat.lt_of_lt_of_le (hj.d2 b h1).1 hj.size, (hj.d2 b h1).2.2.2⟩
  · intro t x hm
    obtain ⟨h1, h2⟩ := h.rf t x hm
    refine ⟨h1, ?_⟩
    have h3 := h2.ids (ρ' := ρ2) (p := fun k => pp[k]?.any isPtr) (by
      intro k v hp hk
      cases hpk : pp[k]? with
      | none => simp [hpk] at hp
      | some u =>
        simp only [hpk, Option.any_some] at hp
        have := h.ptr k u hpk hp
        rw [hk] at this
        have e := Option.some.inj this
        subst e
        exact hptr k v hpk hp) (frIds_mem hid hm)
    exact h3.mono (fun b hb => (hj.b2 b hb).2.2.2) hBW (Nat.le_refl _) (fun _ _ h => h)
  · intro b hb
    obtain ⟨k1, k2, k3, k4⟩ := hj.d2 b hb
    exact ⟨k4, fun hd => k3 (.inl hd), by rintro rfl; exact hj.l2 hb, by rw [hsz]; exact Nat.lt_of_lt_of_le k1 hj.size, (h.d2 b hb).2.2.2.2⟩
end
end Go.Abs
