/- Calls that are handed objects: the rule. No condition. -/
import Derived.Test.YtmcedkcehcacpaaAbs14
namespace Go.Abs
set_option linter.unusedVariables false
set_option linter.unusedSectionVars false
set_option linter.unusedSimpArgs false
set_option linter.unnecessarySimpa false

section
variable {P : Program} {ops : Array Oper} {E : Env} {s s' : AS} {ρ σ σ' : List Value} {B B' : Nat → Prop} {a : Act} {w w' : World} {o : Oper} {rest : List Oper} {Q : AS → Prop}

/-- an object may be handed over so -/
def SubO (ids : List Nat) : Ob → Ob → Prop
  | .box T cs, .box T' cs' => T = T' ∧ SubXL ids cs cs' ∧ cs'.all AV.oc = true
  | .row T sz xs, .row T' sz' xs' => T = T' ∧ sz = sz' ∧ xs = xs' ∧ AV.plL xs = true
  | .mp es, .mp es' => es = es'
  | _, .gone => True
  | _, _ => False

def SubOL (ids : List Nat) (ob : List Ob) : List Nat → List Ob → Prop
  | [], [] => True
  | i :: is, o :: os => (∃ o', ob[i]? = some o' ∧ o'.live = true ∧ SubO ids o' o) ∧ SubOL ids ob is os
  | _, _ => False

theorem SubOL.at {ids : List Nat} {ob : List Ob} : ∀ {is : List Nat} {τ : List Ob}, SubOL ids ob is τ → ∀ {i : Nat} {o : Ob}, τ[i]? = some o → ∃ j o', is[i]? = some j ∧ ob[j]? = some o' ∧ o'.live = true ∧ SubO ids o' o
  | [], [], _, i, o, h => by simp at h
  | j :: is, t :: τ, h, 0, o, e => by
    simp only [List.getElem?_cons_zero, Option.some.injEq] at e
    subst e
    obtain ⟨⟨o', h1, h2, h3⟩, _⟩ := h
    exact ⟨j, o', rfl, h1, h2, h3⟩
  | j :: is, t :: τ, h, i + 1, o, e => by
    simp only [List.getElem?_cons_succ] at e ⊢
    exact SubOL.at h.2 e
  | [], _ :: _, h, _, _, _ => h.elim
  | _ :: _, [], h, _, _, _ => h.elim

theorem SubOL.len {ids : List Nat} {ob : List Ob} : ∀ {is : List Nat} {τ : List Ob}, SubOL ids ob is τ → is.length = τ.length
  | [], [], _ => rfl
  | j :: is, t :: τ, h => by simp [SubOL.len h.2]
  | [], _ :: _, h => h.elim
  | _ :: _, [], h => h.elim

theorem plL_flat {xs : List AV} (h : AV.plL xs = true) : AV.plL (xs.flatMap AV.cells) = true := by
  rw [AV.plL_iff] at h ⊢
  intro c hc
  simp only [List.mem_flatMap] at hc
  obtain ⟨x, hx, hc⟩ := hc
  have := h x hx
  rw [← AV.plL_cells, AV.plL_iff] at this
  exact this c hc

def pick (ρ : List Value) (ids : List Nat) : List Value := ids.map fun k => ρ.getD k undef

theorem pick_at {ids : List Nat} {ob : List Ob} {τ : List Ob} (h : RW E ob ρ B w) (hs : SubOL ids ob ids τ) {i k : Nat} (hi : ids[i]? = some k) : (pick ρ ids)[i]? = ρ[k]? := by
  have hlt : i < τ.length := by rw [← hs.len]; exact get_lt hi
  obtain ⟨j, o', h1, h2, _⟩ := hs.at (List.getElem?_eq_getElem hlt)
  have : j = k := by rw [hi] at h1; exact (Option.some.inj h1).symm
  subst this
  have hk : j < ρ.length := by rw [h.len]; exact get_lt h2
  simp [pick, hi, hk]

/-- the callee's view -/
theorem RW.give {ob : List Ob} {ids : List Nat} {τ : List Ob} (h : RW E ob ρ B w) (hn : ids.Nodup) (hs : SubOL ids ob ids τ) : RW (E0 w B (pick ρ ids)) τ (pick ρ ids) B w := by
  have hp := fun {i k : Nat} (hi : ids[i]? = some k) => pick_at h hs hi
  refine { os := rfl, tape := rfl, output := rfl, size := Nat.le_refl _, block := fun _ _ _ => rfl, pre := ?_, bsub := fun _ h => h, bnew := fun _ h => .inl h,
           blt := h.blt, len := by simp [pick, hs.len], obs := ?_, dis := ?_, prv := ?_ }
  · rintro k v (hk | hk) _
    · exact hk
    · simp at hk
  · intro i o hi
    obtain ⟨j, o', h1, h2, h3, h4⟩ := hs.at hi
    have hj := hp h1
    have ho := h.obs j o' h2
    cases o with
    | gone => trivial
    | box T cs =>
      cases o' with
      | box T' cs' =>
        obtain ⟨rfl, h5, h6⟩ := h4
        obtain ⟨b, vs, fz, r1, r2, r3, r4, r5⟩ := ho
        exact ⟨b, vs, fz, hj.trans r1, r2, r3, h5.rel (fun i k hik => hp hik) r4, fun c hc => List.all_eq_true.1 h6 c hc⟩
      | _ => exact h4.elim
    | row T sz xs =>
      cases o' with
      | row T' sz' xs' =>
        obtain ⟨rfl, rfl, rfl, h5⟩ := h4
        obtain ⟨h0, ho⟩ := ho
        refine ⟨h0, ?_⟩
        rcases ho with ⟨e, ho⟩ | ⟨b, cap, vs, ws, fz, r1, r2, r3, r4, r5, r6⟩
        · exact .inl ⟨e, hj.trans ho⟩
        · exact .inr ⟨b, cap, vs, ws, fz, hj.trans r1, r2, r3, r4, r5, r6.pl (plL_flat h5)⟩
      | _ => exact h4.elim
    | mp es =>
      cases o' with
      | mp es' =>
        obtain rfl := h4
        obtain ⟨b, ms, c, r1, r2, r3⟩ := ho
        exact ⟨b, ms, c, hj.trans r1, r2, r3⟩
      | _ => exact h4.elim
  · intro i j o1 o2 u v b hij h1 _ h2 _ h3 h4 h5
    obtain ⟨k1, o1', g1, g2, g3, _⟩ := hs.at h1
    obtain ⟨k2, o2', g4, g5, g6, _⟩ := hs.at h2
    refine h.dis k1 k2 o1' o2' u v b ?_ g2 g3 g5 g6 ((hp g1).symm.trans h3) ((hp g4).symm.trans h4) h5
    rintro rfl
    exact hij ((List.getElem?_inj (get_lt g1) hn).1 (g1.trans g4.symm))
  · intro i o v b h1 h2 h3 h4
    obtain ⟨k, o', g1, g2, g3, _⟩ := hs.at h1
    obtain ⟨q1, q2, _⟩ := h.prv k o' v b g2 g3 ((hp g1).symm.trans h3) h4
    exact ⟨q1, q2, .inr ⟨v, h3, h4⟩⟩

theorem rowIds_box {k : Nat} : ∀ {ids : List Nat} {τ : List Ob} {i : Nat}, ids[i]? = some k → i < τ.length → k ∉ rowIds ids τ → ∃ T cs, τ[i]? = some (.box T cs)
  | j :: ids, .box T cs :: τ, 0, h, _, _ => ⟨T, cs, rfl⟩
  | j :: ids, .box T cs :: τ, i + 1, h, hl, hk => by
    simp only [List.getElem?_cons_succ] at h ⊢
    exact rowIds_box h (by simpa using hl) (by simpa [rowIds] using hk)
  | j :: ids, .row T sz xs :: τ, 0, h, _, hk => by simp at h; subst h; simp [rowIds] at hk
  | j :: ids, .gone :: τ, 0, h, _, hk => by simp at h; subst h; simp [rowIds] at hk
  | j :: ids, .mp es :: τ, 0, h, _, hk => by simp at h; subst h; simp [rowIds] at hk
  | j :: ids, .mp es :: τ, i + 1, h, hl, hk => by
    simp only [List.getElem?_cons_succ] at h ⊢
    exact rowIds_box h (by simpa using hl) (by simp [rowIds] at hk; exact hk.2)
  | j :: ids, .row T sz xs :: τ, i + 1, h, hl, hk => by
    simp only [List.getElem?_cons_succ] at h ⊢
    exact rowIds_box h (by simpa using hl) (by simp [rowIds] at hk; exact hk.2)
  | j :: ids, .gone :: τ, i + 1, h, hl, hk => by
    simp only [List.getElem?_cons_succ] at h ⊢
    exact rowIds_box h (by simpa using hl) (by simp [rowIds] at hk; exact hk.2)
  | [], _, _, h, _, _ => by simp at h
  | _ :: _, [], _, _, h, _ => by simp at h

def phi (ids : List Nat) (n i : Nat) : Nat := if i < ids.length then ids.getD i 0 else n + (i - ids.length)

def obAfter (ob : List Ob) (ids : List Nat) (τ τ' : List Ob) : List Ob :=
  setAll (ob.map (Ob.invalL (rowIds ids τ))) ids (τ'.map (Ob.ren (phi ids ob.length))) ++ (τ'.drop ids.length).map (Ob.ren (phi ids ob.length))

section after
variable {ob : List Ob} {ids : List Nat} {τ τ' : List Ob}
variable (h : RW E ob ρ B w) (hn : ids.Nodup) (hs : SubOL ids ob ids τ) (k : RW (E0 w B (pick ρ ids)) τ' σ' B' w') (hm : ids.length ≤ τ'.length)
include h hn hs k hm

theorem after_len : σ'.length = τ'.length := k.len

theorem ids_lt {i j : Nat} (hi : ids[i]? = some j) : j < ob.length := by
  have hlt : i < τ.length := by rw [← hs.len]; exact get_lt hi
  obtain ⟨j', o', h1, h2, _⟩ := hs.at (List.getElem?_eq_getElem hlt)
  have : j' = j := by rw [hi] at h1; exact (Option.some.inj h1).symm
  subst this
  exact get_lt h2

theorem phi_old {i j : Nat} (hi : ids[i]? = some j) : phi ids ob.length i = j := by
  obtain ⟨h1, h2⟩ := List.getElem?_eq_some_iff.1 hi
  simp [phi, h1, h2]

theorem rho_phi {i : Nat} {v : Value} (hi : σ'[i]? = some v) : (setAll ρ ids σ' ++ σ'.drop ids.length)[phi ids ob.length i]? = some v := by
  by_cases hlt : i < ids.length
  · have hj : ids[i]? = some ids[i] := List.getElem?_eq_getElem hlt
    have hjl := ids_lt h hn hs k hm hj
    rw [phi_old h hn hs k hm hj, List.getElem?_append_left (by rw [setAll_len, h.len]; exact hjl)]
    exact setAll_at ρ ids σ' hn hj (by rw [h.len]; exact hjl) hi
  · have : phi ids ob.length i = ob.length + (i - ids.length) := by simp [phi, hlt]
    rw [this, List.getElem?_append_right (by rw [setAll_len, h.len]; omega), setAll_len, h.len, List.getElem?_drop]
    rw [show ids.length + (ob.length + (i - ids.length) - ob.length) = i by omega]
    exact hi

theorem rho_keep {j : Nat} {v : Value} (hj : j ∉ rowIds ids τ) (hv : ρ[j]? = some v) : (setAll ρ ids σ' ++ σ'.drop ids.length)[j]? = some v := by
  have hjl := get_lt hv
  rw [List.getElem?_append_left (by rw [setAll_len]; exact hjl)]
  by_cases hmem : j ∈ ids
  · obtain ⟨i, hil, hi⟩ := List.getElem_of_mem hmem
    have hi' : ids[i]? = some j := by rw [List.getElem?_eq_getElem hil, hi]
    obtain ⟨T, cs, hb⟩ := rowIds_box hi' (by rw [← hs.len]; exact hil) hj
    obtain ⟨b, vs, fz, r1, _⟩ := (h.give hn hs).obs i _ hb
    have hp := pick_at h hs hi'
    have e : v = .pointer (some ⟨b, 0, none⟩) := by
      have := hp.symm.trans r1
      rw [hv] at this
      exact Option.some.inj this
    have h3 := k.pre i _ (.inl r1) rfl
    rw [setAll_at ρ ids σ' hn hi' hjl h3, e]
  · rw [setAll_not ρ ids σ' hmem]; exact hv

theorem obAfter_get {j : Nat} {o : Ob} (hj : (obAfter ob ids τ τ')[j]? = some o) :
    (∃ i o', τ'[i]? = some o' ∧ o = o'.ren (phi ids ob.length) ∧ j = phi ids ob.length i) ∨ (∃ o', ob[j]? = some o' ∧ o = o'.invalL (rowIds ids τ) ∧ j ∉ ids) := by
  unfold obAfter at hj
  rcases Nat.lt_or_ge j ob.length with hlt | hge
  · rw [List.getElem?_append_left (by rw [setAll_len]; simpa using hlt)] at hj
    by_cases hmem : j ∈ ids
    · obtain ⟨i, hil, hi⟩ := List.getElem_of_mem hmem
      have hi' : ids[i]? = some j := by rw [List.getElem?_eq_getElem hil, hi]
      have hit : i < τ'.length := by omega
      rw [setAll_at _ ids _ hn hi' (by simpa using hlt) (x := (τ'[i]).ren (phi ids ob.length)) (by simp [hit])] at hj
      exact .inl ⟨i, τ'[i], List.getElem?_eq_getElem hit, (Option.some.inj hj).symm, (phi_old h hn hs k hm hi').symm⟩
    · rw [setAll_not _ ids _ hmem, List.getElem?_map] at hj
      simp only [Option.map_eq_some_iff] at hj
      obtain ⟨o', h1, h2⟩ := hj
      exact .inr ⟨o', h1, h2.symm, hmem⟩
  · rw [List.getElem?_append_right (by rw [setAll_len]; simpa using hge), setAll_len, List.length_map, List.getElem?_map, List.getElem?_drop] at hj
    simp only [Option.map_eq_some_iff] at hj
    obtain ⟨o', h1, h2⟩ := hj
    refine .inl ⟨_, o', h1, h2.symm, ?_⟩
    have : ¬ (ids.length + (j - ob.length) < ids.length) := by omega
    simp only [phi, this, if_false]
    omega

theorem rho_at {i : Nat} {v : Value} (hil : i < τ'.length) (hv : (setAll ρ ids σ' ++ σ'.drop ids.length)[phi ids ob.length i]? = some v) : σ'[i]? = some v := by
  have hil' : i < σ'.length := by rw [k.len]; exact hil
  have := rho_phi h hn hs k hm (List.getElem?_eq_getElem hil')
  rw [hv] at this
  rw [List.getElem?_eq_getElem hil']
  exact this.symm

theorem rho_not {j : Nat} {v : Value} (hj : j ∉ ids) (hl : j < ob.length) (hv : (setAll ρ ids σ' ++ σ'.drop ids.length)[j]? = some v) : ρ[j]? = some v := by
  rwa [List.getElem?_append_left (by rw [setAll_len, h.len]; exact hl), setAll_not ρ ids σ' hj] at hv

theorem inval_rel {x : AV} {v : Value} {bs : Nat} (hr : Rel w B bs ρ x v) : Rel w' B' bs (setAll ρ ids σ' ++ σ'.drop ids.length) (x.invalL (rowIds ids τ)) v := by
  have hB : ∀ b, B b → w'.heap[b]? = w.heap[b]? := fun b hb => k.block b (h.blt b hb) ⟨fun hx => by
    obtain ⟨v, hv, hbv⟩ := hx
    obtain ⟨i, hil, hi⟩ := List.getElem_of_mem hv
    have hi' : (pick ρ ids)[i]? = some v := by rw [List.getElem?_eq_getElem hil, hi]
    have hil2 : i < ids.length := by simpa [pick] using hil
    obtain ⟨j, o', g1, g2, g3, _⟩ := hs.at (List.getElem?_eq_getElem (show i < τ.length by rw [← hs.len]; exact hil2))
    exact (h.prv j o' v b g2 g3 ((pick_at h hs g1).symm.trans hi') hbv).1 hb, by simp⟩
  unfold AV.invalL
  split
  · rename_i he
    exact hr.mono k.bsub hB (Nat.le_refl _) (fun j v hv => rho_keep h hn hs k hm (by rw [he]; simp) hv)
  · split
    · rename_i hid
      refine (hr.mono k.bsub hB (Nat.le_refl _) (fun _ _ h => h)).ids (p := fun k => !(rowIds ids τ).contains k) ?_ hid
      intro j v hj hv
      exact rho_keep h hn hs k hm (by simpa using hj) hv
    · exact .any _

theorem after_old {b : Nat} (hx : (E0 w B (pick ρ ids)).X b) : ¬ B b ∧ b < w.heap.size ∧ ∃ j o' v, j ∈ ids ∧ ob[j]? = some o' ∧ o'.live = true ∧ ρ[j]? = some v ∧ blk v = some b := by
  obtain ⟨v, hv, hbv⟩ := hx
  obtain ⟨i, hil, hi⟩ := List.getElem_of_mem hv
  have hi' : (pick ρ ids)[i]? = some v := by rw [List.getElem?_eq_getElem hil, hi]
  have hil2 : i < ids.length := by simpa [pick] using hil
  obtain ⟨j, o', g1, g2, g3, _⟩ := hs.at (List.getElem?_eq_getElem (show i < τ.length by rw [← hs.len]; exact hil2))
  have hv' := (pick_at h hs g1).symm.trans hi'
  obtain ⟨q1, q2, _⟩ := h.prv j o' v b g2 g3 hv' hbv
  exact ⟨q1, q2, j, o', v, List.mem_of_getElem? g1, g2, g3, hv', hbv⟩

/-- where a handed or new object lies -/
theorem after_at {i : Nat} {o : Ob} {v : Value} {b : Nat} (hi : τ'[i]? = some o) (hl : o.live = true) (hv : σ'[i]? = some v) (hb : blk v = some b) :
    ¬ B' b ∧ b < w'.heap.size ∧ (w.heap.size ≤ b ∨ ∃ o' u, ob[phi ids ob.length i]? = some o' ∧ o'.live = true ∧ ρ[phi ids ob.length i]? = some u ∧ blk u = some b ∧ phi ids ob.length i ∈ ids) := by
  obtain ⟨q1, q2, q3⟩ := k.prv i o v b hi hl hv hb
  refine ⟨q1, q2, ?_⟩
  rcases q3 with q3 | ⟨u, hu, hbu⟩
  · exact .inl q3
  · have hil : i < ids.length := by have := get_lt hu; simpa [pick] using this
    obtain ⟨j, o', g1, g2, g3, _⟩ := hs.at (List.getElem?_eq_getElem (show i < τ.length by rw [← hs.len]; exact hil))
    have hj := phi_old h hn hs k hm g1
    rw [hj]
    exact .inr ⟨o', u, g2, g3, (pick_at h hs g1).symm.trans hu, hbu, List.mem_of_getElem? g1⟩

theorem ren_live {o : Ob} {φ : Nat → Nat} (hl : (o.ren φ).live = true) : o.live = true := by cases o <;> simp_all [Ob.ren, Ob.live]
theorem invalL_live {o : Ob} {rk : List Nat} (hl : (o.invalL rk).live = true) : o.live = true := by cases o <;> simp_all [Ob.invalL, Ob.live]

theorem RW.after : RW E (obAfter ob ids τ τ') (setAll ρ ids σ' ++ σ'.drop ids.length) B' w' := by
  have hsz : w.heap.size ≤ w'.heap.size := k.size
  have hblk : ∀ b, b < w.heap.size → ¬ (E0 w B (pick ρ ids)).X b → w'.heap[b]? = w.heap[b]? := fun b hb hx => k.block b hb ⟨hx, by simp⟩
  have hphi : ∀ {i j : Nat}, i < τ'.length → j < τ'.length → phi ids ob.length i = phi ids ob.length j → i = j := by
    intro i j hi hj he
    have hil : i < σ'.length := by rw [k.len]; exact hi
    by_cases h1 : i < ids.length <;> by_cases h2 : j < ids.length
    · have e1 := phi_old h hn hs k hm (List.getElem?_eq_getElem h1)
      have e2 := phi_old h hn hs k hm (List.getElem?_eq_getElem h2)
      exact (List.getElem?_inj h1 hn).1 (by rw [List.getElem?_eq_getElem h1, List.getElem?_eq_getElem h2, ← e1, ← e2, he])
    · have e1 := phi_old h hn hs k hm (List.getElem?_eq_getElem h1)
      have e3 := ids_lt h hn hs k hm (List.getElem?_eq_getElem h1)
      have e2 : phi ids ob.length j = ob.length + (j - ids.length) := by simp [phi, h2]
      omega
    · have e1 := phi_old h hn hs k hm (List.getElem?_eq_getElem h2)
      have e3 := ids_lt h hn hs k hm (List.getElem?_eq_getElem h2)
      have e2 : phi ids ob.length i = ob.length + (i - ids.length) := by simp [phi, h1]
      omega
    · have e1 : phi ids ob.length i = ob.length + (i - ids.length) := by simp [phi, h1]
      have e2 : phi ids ob.length j = ob.length + (j - ids.length) := by simp [phi, h2]
      omega
  have hphim : ∀ {i : Nat}, phi ids ob.length i < ob.length → i < ids.length ∧ phi ids ob.length i ∈ ids := by
    intro i hi
    by_cases h1 : i < ids.length
    · exact ⟨h1, by rw [phi_old h hn hs k hm (List.getElem?_eq_getElem h1)]; simp⟩
    · have e2 : phi ids ob.length i = ob.length + (i - ids.length) := by simp [phi, h1]
      omega
  refine { os := k.os.trans h.os, tape := k.tape.trans h.tape, output := k.output.trans h.output, size := Nat.le_trans h.size hsz, block := ?_, pre := ?_, bsub := fun b hb => k.bsub b (h.bsub b hb), bnew := ?_,
           blt := k.blt, len := ?_, obs := ?_, dis := ?_, prv := ?_ }
  · intro b h1 h2
    refine (hblk b (Nat.lt_of_lt_of_le h1 h.size) fun hx => ?_).trans (h.block b h1 h2)
    obtain ⟨_, _, j, o', v, _, g2, g3, g4, g5⟩ := after_old h hn hs k hm hx
    rcases (h.prv j o' v b g2 g3 g4 g5).2.2 with q | q
    · omega
    · exact h2.1 q.x
  · intro j v h1 h2
    have hv := h.pre j v h1 h2
    have hjl := get_lt hv
    rw [List.getElem?_append_left (by rw [setAll_len]; exact hjl)]
    by_cases hmem : j ∈ ids
    · obtain ⟨i, hil, hi⟩ := List.getElem_of_mem hmem
      have hi' : ids[i]? = some j := by rw [List.getElem?_eq_getElem hil, hi]
      exact setAll_at ρ ids σ' hn hi' hjl (k.pre i v (.inl ((pick_at h hs hi').trans hv)) h2)
    · rw [setAll_not ρ ids σ' hmem]; exact hv
  · intro b hb
    rcases k.bnew b hb with h1 | h1
    · exact h.bnew b h1
    · exact .inr (Nat.le_trans h.size h1)
  · simp only [obAfter, List.length_append, setAll_len, List.length_map, List.length_drop, k.len, h.len]
  · intro j o hj
    rcases obAfter_get h hn hs k hm hj with ⟨i, o', h1, rfl, rfl⟩ | ⟨o', h1, rfl, hni⟩
    · have ho := k.obs i o' h1
      have hρ : ∀ (k : Nat) (v : Value), σ'[k]? = some v → (setAll ρ ids σ' ++ σ'.drop ids.length)[phi ids ob.length k]? = some v := fun _ _ hv => rho_phi h hn hs k hm hv
      cases o' with
      | gone => trivial
      | box T cs =>
        obtain ⟨b, vs, fz, r1, r2, r3, r4, r5⟩ := ho
        refine ⟨b, vs, fz, hρ _ _ r1, r2, r3, (r4.ren hρ).mono (fun _ h => h) (fun _ _ => rfl) (Nat.le_trans h.size (Nat.le_refl _)) (fun _ _ h => h), ?_⟩
        intro c hc
        rw [AV.renL_map, List.mem_map] at hc
        obtain ⟨c', hc', rfl⟩ := hc
        rw [AV.ren_oc]; exact r5 c' hc'
      | row T sz xs =>
        obtain ⟨h0, ho⟩ := ho
        refine ⟨?_, ?_⟩
        · intro x hx
          rw [AV.renL_map, List.mem_map] at hx
          obtain ⟨x', hx', rfl⟩ := hx
          rw [AV.ren_cells]
          refine ⟨by simpa using (h0 x' hx').1, ?_⟩
          intro c hc
          rw [List.mem_map] at hc
          obtain ⟨c', hc', rfl⟩ := hc
          rw [AV.ren_one]; exact (h0 x' hx').2 c' hc'
        · have hf : (AV.renL (phi ids ob.length) xs).flatMap AV.cells = AV.renL (phi ids ob.length) (xs.flatMap AV.cells) := by
            simp only [AV.renL_map, List.flatMap_map, List.map_flatMap]
            congr 1
            funext x
            exact AV.ren_cells _ x
          have hlen : (AV.renL (phi ids ob.length) xs).length = xs.length := by simp [AV.renL_map]
          rcases ho with ⟨e, ho⟩ | ⟨b, cap, vs, ws, fz, r1, r2, r3, r4, r5, r6⟩
          · subst e; exact .inl ⟨rfl, hρ _ _ ho⟩
          · refine .inr ⟨b, cap, vs, ws, fz, by rw [hlen]; exact hρ _ _ r1, r2, r3, by rw [hlen]; exact r4, r5, ?_⟩
            rw [hf]
            exact (r6.ren hρ).mono (fun _ h => h) (fun _ _ => rfl) (Nat.le_trans h.size (Nat.le_refl _)) (fun _ _ h => h)
      | mp es =>
        obtain ⟨b, ms, c, r1, r2, r3⟩ := ho
        exact ⟨b, ms, c, hρ _ _ r1, r2, r3⟩
    · have hjl := get_lt h1
      have ho := h.obs j o' h1
      have hrv : ∀ {v : Value}, ρ[j]? = some v → (setAll ρ ids σ' ++ σ'.drop ids.length)[j]? = some v := fun {v} hv => by
        rw [List.getElem?_append_left (by rw [setAll_len, h.len]; exact hjl), setAll_not ρ ids σ' hni]; exact hv
      have hbl : ∀ {v : Value} {b : Nat}, o'.live = true → ρ[j]? = some v → blk v = some b → w'.heap[b]? = w.heap[b]? := fun {v b} hl hv hb => by
        refine hblk b (h.prv j o' v b h1 hl hv hb).2.1 fun hx => ?_
        obtain ⟨_, _, j2, o2, v2, m2, g2, g3, g4, g5⟩ := after_old h hn hs k hm hx
        exact h.dis j j2 o' o2 v v2 b (by rintro rfl; exact hni m2) h1 hl g2 g3 hv g4 hb g5
      cases o' with
      | gone => trivial
      | mp es =>
        obtain ⟨b, ms, c, r1, r2, r3⟩ := ho
        exact ⟨b, ms, c, hrv r1, (hbl rfl r1 rfl).trans r2, r3⟩
      | box T cs =>
        obtain ⟨b, vs, fz, r1, r2, r3, r4, r5⟩ := ho
        refine ⟨b, vs, fz, hrv r1, (hbl rfl r1 rfl).trans r2, r3, ?_, ?_⟩
        · have key : ∀ {cs : List AV} {vs : List Value}, RelL w B E.bs ρ cs vs → RelL w' B' E.bs (setAll ρ ids σ' ++ σ'.drop ids.length) (cs.map (AV.invalL (rowIds ids τ))) vs := by
            intro cs
            induction cs with
            | nil => intro vs hr; cases hr; exact .nil
            | cons c cs ih => intro vs hr; cases hr with | cons a1 a2 => exact .cons (inval_rel h hn hs k hm a1) (ih a2)
          exact key r4
        · intro c hc
          rw [List.mem_map] at hc
          obtain ⟨c', hc', rfl⟩ := hc
          unfold AV.invalL
          split
          · exact r5 c' hc'
          · split
            · exact r5 c' hc'
            · rfl
      | row T sz xs =>
        have hkeep : ∀ {xs' : List AV} {vs : List Value}, (rowIds ids τ = [] ∨ AV.idsOkL (fun k => !(rowIds ids τ).contains k) xs' = true) → RelL w B E.bs ρ xs' vs → RelL w' B' E.bs (setAll ρ ids σ' ++ σ'.drop ids.length) xs' vs := by
          intro xs'
          induction xs' with
          | nil => intro vs _ hr; cases hr; exact .nil
          | cons c cs ih =>
            intro vs hh hr
            cases hr with
            | cons a1 a2 =>
              refine .cons ?_ (ih (hh.imp id fun hh => by simp only [AV.idsOkL, Bool.and_eq_true] at hh; exact hh.2) a2)
              have := inval_rel h hn hs k hm a1
              unfold AV.invalL at this
              rcases hh with hh | hh
              · rwa [if_pos hh] at this
              · simp only [AV.idsOkL, Bool.and_eq_true] at hh
                split at this
                · exact this
                · rwa [if_pos hh.1] at this
        have cellsOk : ∀ xs : List AV, AV.idsOkL (fun k => !(rowIds ids τ).contains k) xs = true → AV.idsOkL (fun k => !(rowIds ids τ).contains k) (xs.flatMap AV.cells) = true := by
          intro xs hx
          rw [AV.idsOkL_iff] at hx ⊢
          intro c hc
          simp only [List.mem_flatMap] at hc
          obtain ⟨x, hx', hc⟩ := hc
          have := hx x hx'
          rw [← AV.idsOkL_cells, AV.idsOkL_iff] at this
          exact this c hc
        have main : (rowIds ids τ = [] ∨ AV.idsOkL (fun k => !(rowIds ids τ).contains k) xs = true) → RO w' B' E.bs (setAll ρ ids σ' ++ σ'.drop ids.length) j (.row T sz xs) := by
          intro hh
          obtain ⟨h0, ho⟩ := ho
          refine ⟨h0, ?_⟩
          rcases ho with ⟨e, ho⟩ | ⟨b, cap, vs, ws, fz, r1, r2, r3, r4, r5, r6⟩
          · exact .inl ⟨e, hrv ho⟩
          · exact .inr ⟨b, cap, vs, ws, fz, hrv r1, (hbl rfl r1 rfl).trans r2, r3, r4, r5, hkeep (hh.imp id (cellsOk xs)) r6⟩
        simp only [Ob.invalL]
        split
        · rename_i he; exact main (.inl he)
        · split
          · rename_i hid; exact main (.inr hid)
          · trivial
  · intro i j o1 o2 u v b hij h1 l1 h2 l2 r1 r2 b1 b2
    rcases obAfter_get h hn hs k hm h1 with ⟨i1, p1, g1, rfl, rfl⟩ | ⟨p1, g1, rfl, n1⟩ <;> rcases obAfter_get h hn hs k hm h2 with ⟨i2, p2, g2, rfl, rfl⟩ | ⟨p2, g2, rfl, n2⟩
    · have e1 := rho_at h hn hs k hm (get_lt g1) r1
      have e2 := rho_at h hn hs k hm (get_lt g2) r2
      exact k.dis i1 i2 p1 p2 u v b (by rintro rfl; exact hij rfl) g1 (ren_live h hn hs k hm l1) g2 (ren_live h hn hs k hm l2) e1 e2 b1 b2
    · have e1 := rho_at h hn hs k hm (get_lt g1) r1
      have e2 := rho_not h hn hs k hm n2 (get_lt g2) r2
      have l2' := invalL_live h hn hs k hm l2
      have q2 := (h.prv j p2 v b g2 l2' e2 b2).2.1
      rcases (after_at h hn hs k hm g1 (ren_live h hn hs k hm l1) e1 b1).2.2 with q | ⟨o', u', q1, q3, q4, q5, q6⟩
      · omega
      · exact h.dis _ j o' p2 u' v b (by rintro rfl; exact n2 q6) q1 q3 g2 l2' q4 e2 q5 b2
    · have e2 := rho_at h hn hs k hm (get_lt g2) r2
      have e1 := rho_not h hn hs k hm n1 (get_lt g1) r1
      have l1' := invalL_live h hn hs k hm l1
      have q2 := (h.prv i p1 u b g1 l1' e1 b1).2.1
      rcases (after_at h hn hs k hm g2 (ren_live h hn hs k hm l2) e2 b2).2.2 with q | ⟨o', u', q1, q3, q4, q5, q6⟩
      · omega
      · exact h.dis _ i o' p1 u' u b (by rintro rfl; exact n1 q6) q1 q3 g1 l1' q4 e1 q5 b1
    · exact h.dis i j p1 p2 u v b hij g1 (invalL_live h hn hs k hm l1) g2 (invalL_live h hn hs k hm l2) (rho_not h hn hs k hm n1 (get_lt g1) r1) (rho_not h hn hs k hm n2 (get_lt g2) r2) b1 b2
  · intro j o v b h1 l1 r1 b1
    rcases obAfter_get h hn hs k hm h1 with ⟨i1, p1, g1, rfl, rfl⟩ | ⟨p1, g1, rfl, n1⟩
    · obtain ⟨q1, q2, q3⟩ := after_at h hn hs k hm g1 (ren_live h hn hs k hm l1) (rho_at h hn hs k hm (get_lt g1) r1) b1
      refine ⟨q1, q2, ?_⟩
      rcases q3 with q3 | ⟨o', u', q3, q4, q5, q6, _⟩
      · exact .inl (Nat.le_trans h.size q3)
      · exact (h.prv _ o' u' b q3 q4 q5 q6).2.2
    · obtain ⟨q1, q2, q3⟩ := h.prv j p1 v b g1 (invalL_live h hn hs k hm l1) (rho_not h hn hs k hm n1 (get_lt g1) r1) b1
      refine ⟨fun hB => ?_, Nat.lt_of_lt_of_le q2 hsz, q3⟩
      rcases k.bnew b hB with q | q
      · exact q1 q
      · have q : w.heap.size ≤ b := q
        omega
end after
end
end Go.Abs
