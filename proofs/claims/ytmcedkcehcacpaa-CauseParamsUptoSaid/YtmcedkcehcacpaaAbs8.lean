/- What grows: append to a slice of the call's own. No condition. -/
import Derived.Test.YtmcedkcehcacpaaAbs7
namespace Go.Abs
set_option linter.unusedVariables false
set_option linter.unusedSectionVars false
set_option linter.unusedSimpArgs false
set_option linter.unnecessarySimpa false

def AV.inval (k : Nat) (x : AV) : AV := if x.idsOk (· != k) = true then x else .any

def Ob.inval (k : Nat) : Ob → Ob
  | .box T cs => .box T (cs.map (AV.inval k))
  | .row T sz xs => if AV.idsOkL (· != k) xs = true then .row T sz xs else .gone
  | .mp es => .mp es
  | .gone => .gone

def frInval (k : Nat) (fr : List (Nat × AV)) : List (Nat × AV) := fr.map fun p => (p.1, p.2.inval k)

section
variable {P : Program} {ops : Array Oper} {E : Env} {s s' : AS} {ρ : List Value} {B : Nat → Prop} {a : Act} {w w' : World} {o : Oper} {rest : List Oper} {Q : AS → Prop} {bs : Nat}

theorem Rel.inval {k : Nat} {v' : Value} {x : AV} {v : Value} (h : Rel w B bs ρ x v) : Rel w B bs (ρ.set k v') (x.inval k) v := by
  unfold AV.inval
  split
  · rename_i hx
    refine h.ids (p := (· != k)) ?_ hx
    intro j u hj hu
    have hne : k ≠ j := by have : j ≠ k := by simpa using hj
                           exact this.symm
    rw [List.getElem?_set_ne hne]; exact hu
  · exact .any _

theorem RelL.inval {k : Nat} {v' : Value} : ∀ {xs : List AV} {vs : List Value}, RelL w B bs ρ xs vs → RelL w B bs (ρ.set k v') (xs.map (AV.inval k)) vs
  | _, _, .nil => .nil
  | _, _, .cons h1 h2 => .cons h1.inval (RelL.inval h2)

theorem oc_inval {k : Nat} {x : AV} (h : x.oc = true) : (x.inval k).oc = true := by
  unfold AV.inval; split
  · exact h
  · rfl

theorem Ob.inval_live {k : Nat} {o : Ob} (h : (o.inval k).live = true) : o.live = true := by
  cases o <;> simp_all [Ob.inval, Ob.live]

theorem RO.inval {k j : Nat} {v' : Value} {o : Ob} (hB : ∀ b, B b → w'.heap[b]? = w.heap[b]?) (hj : j ≠ k) (hk : ∀ (v : Value) (b : Nat), o.live = true → ρ[j]? = some v → blk v = some b → w'.heap[b]? = w.heap[b]?)
    (h : RO w B bs ρ j o) : RO w' B bs (ρ.set k v') j (o.inval k) := by
  have hg : ∀ {u : Value}, ρ[j]? = some u → (ρ.set k v')[j]? = some u := fun h => by rw [List.getElem?_set_ne (Ne.symm hj)]; exact h
  cases o with
  | box T cs =>
    obtain ⟨b, vs, fz, h1, h2, h3, h4, h5⟩ := h
    refine ⟨b, vs, fz, hg h1, (hk _ b rfl h1 rfl).trans h2, h3, (h4.inval).mono (fun _ h => h) hB (Nat.le_refl _) (fun _ _ h => h), ?_⟩
    intro c hc
    simp only [List.mem_map] at hc
    obtain ⟨c', hc', rfl⟩ := hc
    exact oc_inval (h5 c' hc')
  | row T sz xs =>
    simp only [Ob.inval]
    split
    · rename_i hx
      obtain ⟨h0, h⟩ := h
      refine ⟨h0, ?_⟩
      have hids : ∀ (i : Nat) (u : Value), (i != k) = true → ρ[i]? = some u → (ρ.set k v')[i]? = some u := by
        intro i u hi hu
        have hne : k ≠ i := by have : i ≠ k := by simpa using hi
                               exact this.symm
        rw [List.getElem?_set_ne hne]; exact hu
      rcases h with h | ⟨b, cap, vs, ws, fz, h1, h2, h3, h4, h5, h6⟩
      · exact .inl ⟨h.1, hg h.2⟩
      · refine .inr ⟨b, cap, vs, ws, fz, hg h1, (hk _ b rfl h1 rfl).trans h2, h3, h4, h5, (h6.ids hids ?_).mono (fun _ h => h) hB (Nat.le_refl _) (fun _ _ h => h)⟩
        rw [AV.idsOkL_iff] at hx ⊢
        intro c hc
        simp only [List.mem_flatMap] at hc
        obtain ⟨x, hx', hc⟩ := hc
        have := hx x hx'
        rw [← AV.idsOkL_cells, AV.idsOkL_iff] at this
        exact this c hc
    · trivial
  | mp es =>
    obtain ⟨b, ms, c, h1, h2, h3⟩ := h
    exact ⟨b, ms, c, hg h1, (hk _ b rfl h1 rfl).trans h2, h3⟩
  | gone => trivial

/-- object k turns: its value too -/
theorem RW.regrow {ob : List Ob} {k : Nat} {o' : Ob} {v v' : Value} {T : TypeId} {sz : Nat} {xs : List AV} (h : RW E ob ρ B w) (hk : ob[k]? = some (.row T sz xs)) (hv : ρ[k]? = some v) (hp : isPtr v = false)
    (hos : w'.os = w.os) (htape : w'.tape = w.tape) (hout : w'.output = w.output) (hsize : w.heap.size ≤ w'.heap.size)
    (hblock : ∀ j, j < w.heap.size → blk v ≠ some j → w'.heap[j]? = w.heap[j]?)
    (hb : ∀ b, blk v' = some b → blk v = some b ∨ (w.heap.size ≤ b ∧ b < w'.heap.size))
    (ho : RO w' B E.bs (ρ.set k v') k o') : RW E ((ob.map (Ob.inval k)).set k o') (ρ.set k v') B w' := by
  have prv := fun b hb => h.prv k _ v b hk rfl hv hb
  have hBw : ∀ b, B b → w'.heap[b]? = w.heap[b]? := fun b hBb => hblock b (h.blt b hBb) (fun e => (prv b e).1 hBb)
  have hkl := get_lt hk
  have hkρ : k < ρ.length := get_lt hv
  have get : ∀ {i : Nat} {o1 : Ob}, ((ob.map (Ob.inval k)).set k o')[i]? = some o1 → i ≠ k → ∃ o2, ob[i]? = some o2 ∧ o1 = o2.inval k := by
    intro i o1 h1 hik
    rw [List.getElem?_set_ne (Ne.symm hik), List.getElem?_map] at h1
    simp only [Option.map_eq_some_iff] at h1
    obtain ⟨o2, h2, h3⟩ := h1
    exact ⟨o2, h2, h3.symm⟩
  have gρ : ∀ {i : Nat} {u : Value}, (ρ.set k v')[i]? = some u → i ≠ k → ρ[i]? = some u := by
    intro i u h1 hik
    rwa [List.getElem?_set_ne (Ne.symm hik)] at h1
  have gk : ∀ {u : Value}, (ρ.set k v')[k]? = some u → u = v' := by
    intro u h1
    rw [List.getElem?_set_self hkρ] at h1
    exact (Option.some.inj h1).symm
  refine { os := hos.trans h.os, tape := htape.trans h.tape, output := hout.trans h.output, size := Nat.le_trans h.size hsize, block := ?_, pre := ?_, bsub := h.bsub, bnew := h.bnew,
           blt := fun b hb => Nat.lt_of_lt_of_le (h.blt b hb) hsize, len := by simp [h.len], obs := ?_, dis := ?_, prv := ?_ }
  · intro j h1 h2
    refine (hblock j (Nat.lt_of_lt_of_le h1 h.size) ?_).trans (h.block j h1 h2)
    intro e
    rcases (prv j e).2.2 with h3 | h3
    · omega
    · exact h2.1 h3.x
  · intro j u h1 h2
    have h3 := h.pre j u h1 h2
    have hne : k ≠ j := by
      rintro rfl
      rw [hv] at h3
      simp only [Option.some.injEq] at h3
      subst h3
      rw [hp] at h2; simp at h2
    rw [List.getElem?_set_ne hne]; exact h3
  · intro i o1 h1
    by_cases hik : i = k
    · subst hik
      rw [List.getElem?_set_self (by simpa using hkl)] at h1
      have : o1 = o' := (Option.some.inj h1).symm
      subst this; exact ho
    · obtain ⟨o2, h2, rfl⟩ := get h1 hik
      refine (h.obs i o2 h2).inval hBw hik ?_
      intro u b l hu hbu
      exact hblock b (h.prv i o2 u b h2 l hu hbu).2.1 (fun e => h.dis i k o2 _ u v b hik h2 l hk rfl hu hv hbu e)
  · intro i j o1 o2 u1 u2 b hij h1 l1 h2 l2 r1 r2 b1 b2
    by_cases hik : i = k
    · subst hik
      have hjk : j ≠ i := Ne.symm hij
      obtain ⟨o3, h3, rfl⟩ := get h2 hjk
      have e2 := gρ r2 hjk
      have l3 := Ob.inval_live l2
      have := gk r1; subst this
      rcases hb b b1 with hb | hb
      · exact h.dis i j _ o3 v u2 b hij hk rfl h3 l3 hv e2 hb b2
      · have := (h.prv j o3 u2 b h3 l3 e2 b2).2.1; omega
    · obtain ⟨o3, h3, rfl⟩ := get h1 hik
      have e1 := gρ r1 hik
      have l3 := Ob.inval_live l1
      by_cases hjk : j = k
      · subst hjk
        have := gk r2; subst this
        rcases hb b b2 with hb | hb
        · exact h.dis i j o3 _ u1 v b hij h3 l3 hk rfl e1 hv b1 hb
        · have := (h.prv i o3 u1 b h3 l3 e1 b1).2.1; omega
      · obtain ⟨o4, h4, rfl⟩ := get h2 hjk
        exact h.dis i j o3 o4 u1 u2 b hij h3 l3 h4 (Ob.inval_live l2) e1 (gρ r2 hjk) b1 b2
  · intro i o1 u b h1 l1 r1 hbu
    by_cases hik : i = k
    · subst hik
      have := gk r1; subst this
      rcases hb b hbu with hb | hb
      · obtain ⟨p1, p2, p3⟩ := prv b hb
        exact ⟨p1, Nat.lt_of_lt_of_le p2 hsize, p3⟩
      · exact ⟨fun hB => by have := h.blt b hB; omega, hb.2, .inl (Nat.le_trans h.size hb.1)⟩
    · obtain ⟨o3, h3, rfl⟩ := get h1 hik
      obtain ⟨p1, p2, p3⟩ := h.prv i o3 u b h3 (Ob.inval_live l1) (gρ r1 hik) hbu
      exact ⟨p1, Nat.lt_of_lt_of_le p2 hsize, p3⟩

theorem RS.regrow {k : Nat} {o' : Ob} {v v' : Value} {T : TypeId} {sz : Nat} {xs : List AV} (h : RS E s ρ B a w) (hk : s.ob[k]? = some (.row T sz xs)) (hv : ρ[k]? = some v) (hp : isPtr v = false)
    (hos : w'.os = w.os) (htape : w'.tape = w.tape) (hout : w'.output = w.output) (hsize : w.heap.size ≤ w'.heap.size)
    (hblock : ∀ j, j < w.heap.size → blk v ≠ some j → w'.heap[j]? = w.heap[j]?)
    (hb : ∀ b, blk v' = some b → blk v = some b ∨ (w.heap.size ≤ b ∧ b < w'.heap.size))
    (ho : RO w' B E.bs (ρ.set k v') k o') : RS E { s with ob := (s.ob.map (Ob.inval k)).set k o', fr := frInval k s.fr } (ρ.set k v') B a w' := by
  have hrg := h.rw_.regrow hk hv hp hos htape hout hsize hblock hb ho
  refine ⟨h.rw_.regrow hk hv hp hos htape hout hsize hblock hb ho, h.m, h.n, h.df, h.jj.chg ⟨hos, htape, hout, hsize, fun b hlt hd => hblock b hlt fun e => hd ⟨k, _, v, hk, rfl, hv, e⟩, ?_, fun _ h => h, fun _ h => .inl h⟩ hrg.bd, ?_⟩
  · rintro b ⟨j, oj, u, h1, h2, h3, h4⟩
    by_cases hjk : k = j
    · subst hjk
      rw [List.getElem?_set_self (get_lt hv)] at h3
      have : v' = u := Option.some.inj h3
      subst this
      rcases hb b h4 with h5 | h5
      · exact .inl ⟨k, _, v, hk, rfl, hv, h5⟩
      · exact .inr h5.1
    · rw [List.getElem?_set_ne hjk] at h1 h3
      rw [List.getElem?_map] at h1
      simp only [Option.map_eq_some_iff] at h1
      obtain ⟨o2, h5, rfl⟩ := h1
      exact .inl ⟨j, o2, u, h5, Ob.inval_live h2, h3, h4⟩
  intro t x hm
  simp only [frInval, List.mem_map] at hm
  obtain ⟨⟨t', x'⟩, hm, he⟩ := hm
  simp only [Prod.mk.injEq] at he
  obtain ⟨rfl, rfl⟩ := he
  obtain ⟨h1, h2⟩ := h.rf t' x' hm
  refine ⟨h1, (h2.inval).mono (fun _ h => h) ?_ (Nat.le_refl _) (fun _ _ h => h)⟩
  intro b hBb
  exact hblock b (h.rw_.blt b hBb) (fun e => (h.rw_.prv k _ v b hk rfl hv e).1 hBb)

theorem flat_len {sz : Nat} : ∀ {ys : List AV}, (∀ y ∈ ys, y.cells.length = sz) → (ys.flatMap AV.cells).length = ys.length * sz
  | [], _ => by simp
  | y :: ys, h => by
    rw [List.flatMap_cons, List.length_append, h y (by simp), flat_len (fun z hz => h z (by simp [hz])), List.length_cons, Nat.add_mul]; omega

/-! ### what is appended -/
/-- the elements that a source has -/
def srcOf (s : AS) (sz : Nat) : AV → Option (List AV)
  | .sl _ sz' ys => if sz' = sz then some ys else none
  | .val (.slice none 0 0) => some []
  | .own j =>
    match s.ob[j]? with
    | some (.row _ sz' ys) => if sz' = sz then some ys else none
    | _ => none
  | _ => none

theorem src_run (hs : RS E s ρ B a w) {x : AV} {v : Value} {sz : Nat} {ys : List AV} (h : srcOf s sz x = some ys) (hx : Rel w B E.bs ρ x v) :
    ∃ us, (∀ d, (Builtin.firstCells sz ys.length v).run P { w with drawn := d } = .ok (List.toArray us) { w with drawn := d }) ∧ (∀ w, (Builtin.lenOf v).run P w = .ok ys.length w) ∧
      RelL w B E.bs ρ (ys.flatMap AV.cells) us ∧ us.length = ys.length * sz ∧ ∀ y ∈ ys, y.cells.length = sz ∧ ∀ c ∈ y.cells, c.one = true := by
  have cells : ∀ {b o n c : Nat} {us : List Value}, (∀ j u, us[j]? = some u → w.cell? ⟨b, o + j, none⟩ = some u) → us.length = n * sz → ∀ d, (Builtin.firstCells sz n (.slice (some ⟨b, o, none⟩) n c)).run P { w with drawn := d } = .ok us.toArray { w with drawn := d } := by
    intro b o n c us h hl d
    have := run_loadCells_list (P := P) { w with drawn := d } ⟨b, o, none⟩ us (fun j u hj => by rw [addr_add]; exact h j u hj)
    simp only [Builtin.firstCells, ← hl]
    exact this
  cases x with
  | sl nw sz' ys' =>
    simp only [srcOf] at h
    split at h <;> simp only [Option.some.injEq, reduceCtorEq] at h
    rename_i e; subst e; subst h
    cases hx with
    | slE _ _ A cap =>
      refine ⟨[], ?_, by simp [Builtin.lenOf], .nil, by simp, by simp⟩
      intro d
      cases A with
      | none => simp [Builtin.firstCells]
      | some A => simp [Builtin.firstCells, loadCells, loadCellsFrom]
    | sl hr hc =>
      obtain ⟨f1, f2⟩ := hr.flat
      obtain ⟨us, c1, c2, c3⟩ := f1.get
      refine ⟨us, cells c3 (by rw [← c1.length_eq, f2]), by simp [Builtin.lenOf], c1, by rw [← c1.length_eq, f2], ?_⟩
      intro y hy
      obtain ⟨j, hj⟩ := List.getElem?_of_mem hy
      obtain ⟨r1, r2⟩ := hr.at hj
      obtain ⟨_, _, r3, _⟩ := r1.get
      exact ⟨r2, r3⟩
  | val u =>
    have hv := hx.val_eq
    subst hv
    have hu : v = .slice none 0 0 ∧ ys = [] := by
      cases v with
      | slice A n c =>
        cases A with
        | none =>
          cases n with
          | zero =>
            cases c with
            | zero => simp [srcOf] at h; exact ⟨rfl, h⟩
            | succ c => simp [srcOf] at h
          | succ n => simp [srcOf] at h
        | some A => simp [srcOf] at h
      | _ => simp [srcOf] at h
    obtain ⟨rfl, rfl⟩ := hu
    exact ⟨[], by simp [Builtin.firstCells], by simp [Builtin.lenOf], .nil, by simp, by simp⟩
  | own j =>
    simp only [srcOf] at h
    split at h <;> (try (simp at h; done))
    rename_i T sz' ys' hj
    split at h <;> simp only [Option.some.injEq, reduceCtorEq] at h
    rename_i e; subst e; subst h
    obtain ⟨h0, hr⟩ := hs.rw_.obs j _ hj
    cases hx with
    | own hp =>
      rcases hr with ⟨rfl, hr⟩ | ⟨b, cap, vs, ws, fz, h1, h2, h3, h4, h5, h6⟩
      · rw [hr] at hp; simp only [Option.some.injEq] at hp; subst hp
        exact ⟨[], by simp [Builtin.firstCells], by simp [Builtin.lenOf], .nil, by simp, by simp⟩
      · rw [h1] at hp; simp only [Option.some.injEq] at hp; subst hp
        have hl := flat_len (ys := ys') (fun y hy => (h0 y hy).1)
        refine ⟨vs, cells (o := 0) ?_ (by rw [← h6.length_eq, hl]), by simp [Builtin.lenOf], h6, by rw [← h6.length_eq, hl], h0⟩
        intro i u hi
        exact block_cell h2 0 i u (by simpa using get_append_some hi)
  | _ => simp [srcOf] at h

theorem growBy_le (newLen : Nat) (h : 256 ≤ newLen) : ∀ (r c : Nat), c ≤ 2 * newLen → Builtin.growBy newLen r c ≤ 2 * newLen
  | 0, c, hc => by simpa [Builtin.growBy] using hc
  | r + 1, c, hc => by
    simp only [Builtin.growBy]
    split
    · exact hc
    · exact growBy_le newLen h r _ (by omega)

theorem nextslicecap_le {need cap : Nat} (h : cap < need) : Builtin.nextslicecap need cap ≤ 2 * need := by
  unfold Builtin.nextslicecap
  split
  · omega
  · split
    · omega
    · exact growBy_le need (by omega) 4 cap (by omega)

theorem elB_spec {T e : TypeId} {i : TypeInfo} (hu : P.underlying T = some (.slice e)) (hi : P.info? e = some i) : elB P T = i.bytes := by
  simp [elB, hu, hi]

theorem isSlc_spec {T : TypeId} (h : isSlc P T = true) : ∃ e, P.underlying T = some (.slice e) := by
  unfold isSlc at h
  split at h
  · exact ⟨_, ‹_›⟩
  · simp at h

theorem isStr_spec {T : TypeId} (h : isStr P T = true) : P.underlying T = some .string := by
  unfold isStr at h
  split at h
  · assumption
  · simp at h

theorem run_app_room {T T2 ty e : TypeId} {i : TypeInfo} {A : Option Addr} {n c m : Nat} {xv : Value} {new : Array Value} {w' : World} (hu : P.underlying T = some (.slice e)) (hi : P.info? e = some i) (h2 : isSlc P T2 = true ∨ isStr P T2 = true)
    (hl : (Builtin.lenOf xv).run P w = .ok m w) (hroom : n + m ≤ c) (hnew : (Builtin.firstCells i.size m xv).run P w = .ok new w)
    (hst : match A with | some a => (storeCells (a.add (n * i.size)) new.toList).run P w = .ok () w' | none => w' = w) :
    (Builtin.append_ #[T, T2] ty #[.slice A n c, xv]).run P w = .ok (.slice A (n + m) c) w' := by
  have hd : (∃ e2, P.underlying T2 = some (.slice e2)) ∨ P.underlying T2 = some .string := h2.imp isSlc_spec isStr_spec
  rcases hd with ⟨e2, hd⟩ | hd
  all_goals
    cases A with
    | none => simp only at hst; subst hst; simp [Builtin.append_, run_underlying hu, run_underlying hd, run_sizeOf hi, hl, hroom, hnew]
    | some a => simp only at hst; simp [Builtin.append_, run_underlying hu, run_underlying hd, run_sizeOf hi, hl, hroom, hnew, hst]

theorem run_app_grow {T T2 ty e : TypeId} {i : TypeInfo} {A : Option Addr} {n c m : Nat} {xv z : Value} {old new : Array Value} (hu : P.underlying T = some (.slice e)) (hi : P.info? e = some i) (h2 : isSlc P T2 = true ∨ isStr P T2 = true)
    (hl : (Builtin.lenOf xv).run P w = .ok m w) (hroom : ¬ n + m ≤ c) (hsmall : n + m ≤ 9223372036854775807) (hb : Builtin.nextslicecap (n + m) c * i.bytes ≤ 2 ^ 48)
    (hold : (Builtin.firstCells i.size n (.slice A n c)).run P { w with drawn := w.drawn + 1 } = .ok old { w with drawn := w.drawn + 1 })
    (hnew : (Builtin.firstCells i.size m xv).run P { w with drawn := w.drawn + 1 } = .ok new { w with drawn := w.drawn + 1 }) (hz : i.zero = some z) :
    ∃ cap', n + m ≤ cap' ∧ (Builtin.append_ #[T, T2] ty #[.slice A n c, xv]).run P w =
      .ok (.slice (some ⟨w.heap.size, 0, none⟩) (n + m) cap') ({ w with drawn := w.drawn + 1 }.alloc (.cells (old ++ new ++ Builtin.zeroCells z.cells (cap' - (n + m))) e)) := by
  have hd : (∃ e2, P.underlying T2 = some (.slice e2)) ∨ P.underlying T2 = some .string := h2.imp isSlc_spec isStr_spec
  have hb' : ¬ (Builtin.nextslicecap (n + m) c * i.bytes > 281474976710656) := by omega
  have hs' : ¬ ((n : Int) + m > IntKind.i64.max) := by simp [IntKind.max, IntKind.signed, IntKind.bits]; omega
  refine ⟨(Question.appendCap (n + m) c e).cut (w.tape w.drawn (.appendCap (n + m) c e)), by simp [Question.cut], ?_⟩
  have hq : (Question.appendCap (n + m) c e).forced = false := rfl
  have hzr : ∀ w, (zeroValue e).run P w = .ok z w := fun w => by simp [zeroValue, typeInfo, hi, hz]
  rcases hd with ⟨e2, hd⟩ | hd
  all_goals
    simp [Builtin.append_, run_underlying hu, run_underlying hd, run_sizeOf hi, hl, hroom, typeInfo, hi, hb', hs', hq, newRow, hzr] at hold hnew ⊢
    simp [hold, hnew]
    intro hbig
    exfalso
    omega

theorem zeroCells_len (z : Array Value) (n : Nat) : (Builtin.zeroCells z n).toList.length = n * z.size := by simp [Builtin.zeroCells]

/-- what append makes: the rule's core -/
theorem append_core (hs : RS E s ρ B a w) {T T2 ty : TypeId} {k sz : Nat} {e : TypeId} {xs ys : List AV} {x : AV} {v xv : Value} (hz : elSz P T = some sz) (hT : P.underlying T = some (.slice e)) (h2 : isSlc P T2 = true ∨ isStr P T2 = true)
    (hk : s.ob[k]? = some (.row e sz xs)) (hv : ρ[k]? = some v) (hsrc : srcOf s sz x = some ys) (hx : Rel w B E.bs ρ x xv) (hb : 2 * (xs.length + ys.length) * elB P T ≤ 2 ^ 48) (hsm : xs.length + ys.length ≤ 2 ^ 60)
    (hid : AV.idsOkL (· != k) xs = true) (hid2 : AV.idsOkL (· != k) ys = true) :
    ∃ v' w', (Builtin.append_ #[T, T2] ty #[v, xv]).run P w = .ok v' w' ∧ RS E { s with ob := (s.ob.map (Ob.inval k)).set k (.row e sz (xs ++ ys)), fr := frInval k s.fr } (ρ.set k v') B a w' ∧ v'.oneCell' = true := by
  obtain ⟨e', i, zv, hu, hi, hsz, hzz, hzl, hz1⟩ := elSz_spec hz
  rw [hT] at hu
  simp only [Option.some.injEq, TypeDesc.slice.injEq] at hu
  subst hu
  have heb := elB_spec hT hi
  obtain ⟨us, u1, u2, u3, u4, u5⟩ := src_run hs hsrc hx
  obtain ⟨h0, hr⟩ := hs.rw_.obs k _ hk
  have hkρ := get_lt hv
  have h0' : ∀ y ∈ xs ++ ys, y.cells.length = sz ∧ ∀ c ∈ y.cells, c.one = true := by
    intro y hy
    rcases List.mem_append.1 hy with hy | hy
    · exact h0 y hy
    · exact u5 y hy
  have hidf : ∀ l : List AV, AV.idsOkL (· != k) l = true → AV.idsOkL (· != k) (l.flatMap AV.cells) = true := by
    intro l hl
    rw [AV.idsOkL_iff] at hl ⊢
    intro c hc
    simp only [List.mem_flatMap] at hc
    obtain ⟨x, hx', hc⟩ := hc
    have := hl x hx'
    rw [← AV.idsOkL_cells, AV.idsOkL_iff] at this
    exact this c hc
  have hids : ∀ (v' : Value) (j : Nat) (u : Value), (j != k) = true → ρ[j]? = some u → (ρ.set k v')[j]? = some u := by
    intro v' j u hj hu
    have hne : k ≠ j := by have : j ≠ k := by simpa using hj
                           exact this.symm
    rw [List.getElem?_set_ne hne]; exact hu
  have hu1 := u3.ones (fun c hc => by
    simp only [List.mem_flatMap] at hc
    obtain ⟨y, hy, hc⟩ := hc
    exact (u5 y hy).2 c hc)
  -- where it grows
  have grow : ∀ (A : Option Addr) (n c : Nat) (vs : List Value), v = .slice A n c → n = xs.length → RelL w B E.bs ρ (xs.flatMap AV.cells) vs → vs.length = n * sz → ¬ n + ys.length ≤ c → isPtr v = false →
      (Builtin.firstCells sz n (.slice A n c)).run P { w with drawn := w.drawn + 1 } = .ok vs.toArray { w with drawn := w.drawn + 1 } →
      ∃ v' w', (Builtin.append_ #[T, T2] ty #[v, xv]).run P w = .ok v' w' ∧ RS E { s with ob := (s.ob.map (Ob.inval k)).set k (.row e sz (xs ++ ys)), fr := frInval k s.fr } (ρ.set k v') B a w' ∧ v'.oneCell' = true := by
    intro A n c vs hve hn hrel hvl hroom hptr hold
    subst hn
    have hbb : Builtin.nextslicecap (xs.length + ys.length) c * i.bytes ≤ 2 ^ 48 := by
      refine Nat.le_trans (Nat.mul_le_mul_right _ (nextslicecap_le (by omega))) ?_
      rw [← heb]; exact hb
    obtain ⟨cap', hcap, hrun⟩ := run_app_grow (P := P) (w := w) (T := T) (T2 := T2) (ty := ty) (e := e) (i := i) (A := A) (n := xs.length) (c := c) (m := ys.length) (xv := xv) (z := zv) hT hi h2 (u2 w) hroom (by omega) hbb (by rw [hsz]; exact hold) (by rw [hsz]; exact u1 _) hzz
    refine ⟨_, _, by rw [hve]; exact hrun, ?_, rfl⟩
    have hlist : (vs.toArray ++ us.toArray ++ Builtin.zeroCells zv.cells (cap' - (xs.length + ys.length))) = List.toArray ((vs ++ us) ++ (Builtin.zeroCells zv.cells (cap' - (xs.length + ys.length))).toList) := by
      apply Array.ext'; simp
    rw [hlist]
    have hsame : Same w ({ w with drawn := w.drawn + 1 }.alloc (.cells (List.toArray ((vs ++ us) ++ (Builtin.zeroCells zv.cells (cap' - (xs.length + ys.length))).toList)) e)) :=
      have h1 := same_alloc { w with drawn := w.drawn + 1 } (.cells (List.toArray ((vs ++ us) ++ (Builtin.zeroCells zv.cells (cap' - (xs.length + ys.length))).toList)) e)
      ⟨h1.os, h1.tape, h1.output, h1.size, h1.block⟩
    refine hs.regrow hk hv hptr hsame.os hsame.tape hsame.output hsame.size (fun j hj _ => hsame.block j hj) ?_ ?_
    · intro b hb
      simp only [blk, Option.some.injEq] at hb
      subst hb
      exact .inr ⟨Nat.le_refl _, by simp⟩
    · refine ⟨h0', .inr ⟨w.heap.size, cap', vs ++ us, (Builtin.zeroCells zv.cells (cap' - (xs.length + ys.length))).toList, (0, 0), ?_, alloc_get { w with drawn := w.drawn + 1 } _, ?_, by simpa using hcap, .inl (by simp), ?_⟩⟩
      · rw [List.getElem?_set_self hkρ]; simp
      · simp only [List.length_append, zeroCells_len, hvl, u4, hzl, ← Nat.add_mul]
        congr 1; omega
      · rw [List.flatMap_append]
        refine ((hrel.append u3).ids (hids _) ?_).mono (fun _ h => h) (fun b hb => hsame.block b (hs.rw_.blt b hb)) (Nat.le_refl _) (fun _ _ h => h)
        rw [← List.flatMap_append]
        refine hidf _ ?_
        rw [AV.idsOkL_iff] at hid hid2 ⊢
        intro x hx
        rcases List.mem_append.1 hx with hx | hx
        · exact hid x hx
        · exact hid2 x hx
  rcases hr with ⟨rfl, hr⟩ | ⟨b, cap, vs, ws, fz, h1, hh, h3, h4, h5, h6⟩
  · rw [hr] at hv
    simp only [Option.some.injEq] at hv
    subst hv
    by_cases hy : ys = []
    · subst hy
      have hus : us = [] := List.eq_nil_of_length_eq_zero (by simpa using u4)
      subst hus
      have hrun := run_app_room (P := P) (w := w) (w' := w) (T := T) (T2 := T2) (ty := ty) (e := e) (i := i) (A := none) (n := 0) (c := 0) (m := 0) (xv := xv) (new := #[]) hT hi h2 (u2 w) (Nat.le_refl _) (by rw [hsz]; exact u1 _) rfl
      refine ⟨_, _, hrun, ?_, rfl⟩
      refine hs.regrow hk hr rfl rfl rfl rfl (Nat.le_refl _) (fun _ _ _ => rfl) (by intro b hb; simp [blk] at hb) ⟨by simp, .inl ⟨rfl, ?_⟩⟩
      rw [List.getElem?_set_self hkρ]
    · refine grow none 0 0 [] rfl rfl .nil (by simp) ?_ rfl (by simp [Builtin.firstCells])
      cases ys with
      | nil => exact absurd rfl hy
      | cons y ys => simp
  · rw [h1] at hv
    simp only [Option.some.injEq] at hv
    subst hv
    have hvl : vs.length = xs.length * sz := by rw [← h6.length_eq]; exact flat_len (fun y hy => (h0 y hy).1)
    by_cases hroom : xs.length + ys.length ≤ cap
    · have hwl : ws.length = cap * sz - xs.length * sz := by have := h3; simp only [List.length_append] at this; omega
      have hmul : xs.length * sz + ys.length * sz ≤ cap * sz := by rw [← Nat.add_mul]; exact Nat.mul_le_mul_right _ hroom
      have hst := run_storeCells (P := P) b e fz (xs.length * sz) us 0 (vs ++ ws) w hh h5 (by rw [Nat.add_zero, h3, u4]; exact hmul) hu1
      have htake : (vs ++ ws).take (xs.length * sz + 0) = vs := by rw [Nat.add_zero, ← hvl]; exact List.take_left
      rw [htake] at hst
      have hrun := run_app_room (P := P) (w := w) (w' := setBlk w b (.cells (vs ++ us ++ (vs ++ ws).drop (xs.length * sz + 0 + us.length)).toArray e fz)) (T := T) (T2 := T2) (ty := ty) (e := e) (i := i) (A := some ⟨b, 0, none⟩) (n := xs.length) (c := cap) (m := ys.length) (xv := xv) (new := us.toArray) hT hi h2 (u2 w) hroom
        (by rw [hsz]; exact u1 _) (by simp only [hsz, addr_add, Nat.zero_add]; exact hst)
      refine ⟨_, _, hrun, ?_, rfl⟩
      obtain ⟨p1, p2, p3⟩ := hs.rw_.prv k _ _ b hk rfl h1 rfl
      have hBw : ∀ b', B b' → (setBlk w b (.cells (vs ++ us ++ (vs ++ ws).drop (xs.length * sz + 0 + us.length)).toArray e fz)).heap[b']? = w.heap[b']? := fun b' hb' => by
        rw [setBlk_get _ _ _ _ p2, if_neg (by rintro rfl; exact p1 hb')]
      refine hs.regrow hk h1 rfl rfl rfl rfl (by simp [setBlk]) ?_ ?_ ?_
      · intro j hj hne
        rw [setBlk_get _ _ _ _ p2, if_neg (by rintro rfl; exact hne rfl)]
      · intro b' hb'; exact .inl hb'
      · refine ⟨h0', .inr ⟨b, cap, vs ++ us, (vs ++ ws).drop (xs.length * sz + 0 + us.length), fz, ?_, by rw [setBlk_get _ _ _ _ p2, if_pos rfl], ?_, by simpa using hroom, ?_, ?_⟩⟩
        · rw [List.getElem?_set_self hkρ]; simp
        · simp only [List.length_append, List.length_drop, hvl, u4, hwl]; omega
        · have : (vs ++ us ++ (vs ++ ws).drop (xs.length * sz + 0 + us.length)).length = (vs ++ ws).length := by
            simp only [List.length_append, List.length_drop, hvl, u4, hwl]; omega
          rw [this]; exact h5
        · rw [List.flatMap_append]
          refine ((h6.append u3).ids (hids _) ?_).mono (fun _ h => h) hBw (Nat.le_refl _) (fun _ _ h => h)
          rw [← List.flatMap_append]
          refine hidf _ ?_
          rw [AV.idsOkL_iff] at hid hid2 ⊢
          intro x hx
          rcases List.mem_append.1 hx with hx | hx
          · exact hid x hx
          · exact hid2 x hx
    · refine grow (some ⟨b, 0, none⟩) xs.length cap vs rfl rfl h6 hvl hroom rfl ?_
      have := run_loadCells_list (P := P) { w with drawn := w.drawn + 1 } ⟨b, 0, none⟩ vs (fun j u hj => by
        rw [addr_add]
        exact block_cell (w := w) hh 0 j u (by simpa using get_append_some hj))
      simp only [Builtin.firstCells, ← hvl]
      exact this

/-- append to a row of the call's own -/
theorem AOp.append {T T2 : TypeId} {x y : Operand} {k sz : Nat} {e : TypeId} {xs ys : List AV} (ho : o.op = .call { callee := .builtin .append, args := #[x, y], argTypes := #[T, T2] }) (hx : s.ev x = .own k) (hk : s.ob[k]? = some (.row e sz xs))
    (hz : elSz P T = some sz) (hT : P.underlying T = some (.slice e)) (h2 : isSlc P T2 = true ∨ isStr P T2 = true) (hsrc : srcOf s sz (s.ev y) = some ys) (hb : 2 * (xs.length + ys.length) * elB P T ≤ 2 ^ 48) (hsm : xs.length + ys.length ≤ 2 ^ 60)
    (hid : AV.idsOkL (· != k) xs = true) (hid2 : AV.idsOkL (· != k) ys = true)
    (K : ARun P ops rest (({ s with ob := (s.ob.map (Ob.inval k)).set k (.row e sz (xs ++ ys)), fr := frInval k s.fr } : AS).put o.dst (.own k)) Q) : AOp P ops o rest s Q := by
  refine AOp.value (s' := { s with ob := (s.ob.map (Ob.inval k)).set k (.row e sz (xs ++ ys)), fr := frInval k s.fr }) (fun E ρ B a w hs => ?_) K
  have hxr := hs.ev x
  rw [hx] at hxr
  generalize hu : a.eval x = u at hxr
  cases hxr with
  | own hp =>
    obtain ⟨v', w', h1, h3, h4⟩ := append_core (P := P) (ty := o.type) (T := T) (T2 := T2) hs hz hT h2 hk hp hsrc (hs.ev y) hb hsm hid hid2
    refine ⟨v', w', _, B, ?_, h3, .own ?_ h4⟩
    · simp [execOp, ho, resolve, invoke, builtin, hu, h1]
    · rw [List.getElem?_set_self (get_lt hp)]

theorem srcOf_new {sz : Nat} {y : AV} {ys : List AV} {o' : Ob} (h : srcOf s sz y = some ys) : srcOf { s with ob := s.ob ++ [o'] } sz y = some ys := by
  cases y with
  | own j =>
    simp only [srcOf] at h ⊢
    cases hj : s.ob[j]? with
    | none => simp [hj] at h
    | some q => rw [hj] at h; rw [get_append_some hj]; exact h
  | val v => unfold srcOf at h ⊢; split at h <;> simp_all
  | _ => exact h

/-- append to nil: a row of the call's own begins -/
theorem AOp.appendNil {T T2 : TypeId} {x y : Operand} {sz : Nat} {e : TypeId} {ys : List AV} (ho : o.op = .call { callee := .builtin .append, args := #[x, y], argTypes := #[T, T2] }) (hx : s.ev x = .val (.slice none 0 0))
    (hz : elSz P T = some sz) (hT : P.underlying T = some (.slice e)) (h2 : isSlc P T2 = true ∨ isStr P T2 = true) (hsrc : srcOf s sz (s.ev y) = some ys) (hb : 2 * ys.length * elB P T ≤ 2 ^ 48) (hsm : ys.length ≤ 2 ^ 60)
    (hid2 : AV.idsOkL (· != s.ob.length) ys = true)
    (K : ARun P ops rest (({ s with ob := ((s.ob ++ [Ob.row e sz []]).map (Ob.inval s.ob.length)).set s.ob.length (Ob.row e sz ys), fr := frInval s.ob.length s.fr } : AS).put o.dst (.own s.ob.length)) Q) : AOp P ops o rest s Q := by
  refine AOp.value (s' := { s with ob := ((s.ob ++ [Ob.row e sz []]).map (Ob.inval s.ob.length)).set s.ob.length (Ob.row e sz ys), fr := frInval s.ob.length s.fr }) (fun E ρ B a w hs => ?_) K
  have hxr := hs.ev x
  rw [hx] at hxr
  have hn : RS E { s with ob := s.ob ++ [.row e sz []] } (ρ ++ [.slice none 0 0]) B a w :=
    hs.new (same_refl w) ⟨by simp, .inl ⟨rfl, by rw [← hs.rw_.len]; simp⟩⟩ (by intro b hb; simp [blk] at hb)
  have hy : Rel w B E.bs (ρ ++ [.slice none 0 0]) (s.ev y) (a.eval y) := (hs.ev y).mono (fun _ h => h) (fun _ _ => rfl) (Nat.le_refl _) (fun _ _ h => get_append_some h)
  obtain ⟨v', w', h1, h3, h4⟩ := append_core (P := P) (ty := o.type) (T := T) (T2 := T2) (k := s.ob.length) (xs := []) (ys := ys) (v := .slice none 0 0) hn hz hT h2 (by simp) (by rw [← hs.rw_.len]; simp) (srcOf_new hsrc) hy (by simpa using hb) (by simpa using hsm) rfl hid2
  refine ⟨v', w', _, B, ?_, h3, .own ?_ h4⟩
  · simp [execOp, ho, resolve, invoke, builtin, hxr.val_eq, h1]
  · rw [← hs.rw_.len, List.getElem?_set_self (by simp)]

def elT (P : Program) (T : TypeId) : Option TypeId :=
  match P.underlying T with
  | some (.slice e) => some e
  | _ => none

theorem elT_spec {T e : TypeId} (h : elT P T = some e) : P.underlying T = some (.slice e) := by
  unfold elT at h
  split at h <;> simp only [Option.some.injEq, reduceCtorEq] at h
  subst h; assumption

theorem ARun2.append {T T2 : TypeId} {x y : Operand} {k sz : Nat} {e : TypeId} {xs ys : List AV} (hg : gd ops s o = some true) (ho : o.op = .call { callee := .builtin .append, args := #[x, y], argTypes := #[T, T2] }) (hx : s.ev x = .own k) (hk : s.ob[k]? = some (.row e sz xs))
    (hz : elSz P T = some sz) (hT : elT P T = some e) (h2 : isSlc P T2 = true ∨ isStr P T2 = true) (hsrc : srcOf s sz (s.ev y) = some ys) (hb : 2 * (xs.length + ys.length) * elB P T ≤ 2 ^ 48) (hsm : xs.length + ys.length ≤ 2 ^ 60)
    (hid : AV.idsOkL (· != k) xs = true) (hid2 : AV.idsOkL (· != k) ys = true)
    (K : ARun2 P ops (Abs.srun P ops rest (({ s with ob := (s.ob.map (Ob.inval k)).set k (.row e sz (xs ++ ys)), fr := frInval k s.fr } : AS).put o.dst (.own k))) Q) : ARun2 P ops (o :: rest, s) Q :=
  ARun.exec hg (AOp.append ho hx hk hz (elT_spec hT) h2 hsrc hb hsm hid hid2 (ARun.srun K))

theorem ARun2.appendNil {T T2 : TypeId} {x y : Operand} {sz : Nat} {e : TypeId} {ys : List AV} (hg : gd ops s o = some true) (ho : o.op = .call { callee := .builtin .append, args := #[x, y], argTypes := #[T, T2] }) (hx : s.ev x = .val (.slice none 0 0))
    (hz : elSz P T = some sz) (hT : elT P T = some e) (h2 : isSlc P T2 = true ∨ isStr P T2 = true) (hsrc : srcOf s sz (s.ev y) = some ys) (hb : 2 * ys.length * elB P T ≤ 2 ^ 48) (hsm : ys.length ≤ 2 ^ 60)
    (hid2 : AV.idsOkL (· != s.ob.length) ys = true)
    (K : ARun2 P ops (Abs.srun P ops rest (({ s with ob := ((s.ob ++ [Ob.row e sz []]).map (Ob.inval s.ob.length)).set s.ob.length (Ob.row e sz ys), fr := frInval s.ob.length s.fr } : AS).put o.dst (.own s.ob.length))) Q) : ARun2 P ops (o :: rest, s) Q :=
  ARun.exec hg (AOp.appendNil ho hx hz (elT_spec hT) h2 hsrc hb hsm hid2 (ARun.srun K))

/-! ### a row of the call's own, from here on only read -/
def AV.pub (k sz : Nat) (xs : List AV) : AV → AV
  | .own j => if j = k then .sl true sz xs else .own j
  | x => x

def frPub (k sz : Nat) (xs : List AV) (fr : List (Nat × AV)) : List (Nat × AV) := fr.map fun p => (p.1, p.2.pub k sz xs)

/-- a block of the call's own becomes one that is read -/
theorem RW.publish {ob : List Ob} {k : Nat} {e : TypeId} {sz : Nat} {xs : List AV} (h : RW E ob ρ B w) (hk : ob[k]? = some (.row e sz xs)) (hm : E.ρ0.length ≤ k) :
    ∃ B' v, (∀ b, B b → B' b) ∧ ρ[k]? = some v ∧ RW E (ob.set k .gone) ρ B' w ∧ Rel w B' E.bs ρ (.sl true sz xs) v ∧ ∀ b, B' b → B b ∨ Dof ob ρ b := by
  obtain ⟨h0, hr⟩ := h.obs k _ hk
  have hdrop : RW E (ob.set k .gone) ρ B w := by
    have get : ∀ {i : Nat} {o1 : Ob}, (ob.set k .gone)[i]? = some o1 → o1.live = true → ob[i]? = some o1 := by
      intro i o1 h1 l1
      by_cases hik : k = i
      · subst hik
        rw [List.getElem?_set_self (get_lt hk)] at h1
        simp at h1; subst h1; simp [Ob.live] at l1
      · rwa [List.getElem?_set_ne hik] at h1
    exact h.drop
  rcases hr with ⟨rfl, hr⟩ | ⟨b, cap, vs, ws, fz, h1, hh, h3, h4, h5, h6⟩
  · exact ⟨B, _, fun _ h => h, hr, hdrop, .slE _ _ _ _, fun _ h => .inl h⟩
  · obtain ⟨p1, p2, p3⟩ := h.prv k _ _ b hk rfl h1 rfl
    have hbnew : E.w0.heap.size ≤ b := by
      rcases p3 with p3 | ⟨v0, p3, _⟩
      · exact p3
      · have := get_lt p3; omega
    refine ⟨fun x => B x ∨ x = b, _, fun _ h => .inl h, h1, ?_, ?_, fun x hx => hx.elim .inl fun e => .inr ⟨k, _, _, hk, rfl, h1, by rw [e]; rfl⟩⟩
    · refine { os := h.os, tape := h.tape, output := h.output, size := h.size, block := h.block, pre := h.pre, bsub := fun x hx => .inl (h.bsub x hx), bnew := ?_, blt := ?_, len := hdrop.len, obs := ?_, dis := hdrop.dis, prv := ?_ }
      · rintro x (hx | rfl)
        · exact h.bnew x hx
        · exact .inr hbnew
      · rintro x (hx | rfl)
        · exact h.blt x hx
        · exact p2
      · intro i o hi
        exact (hdrop.obs i o hi).mono (fun _ h => .inl h) (fun _ _ => rfl) (fun _ _ h => h) (fun _ _ _ _ _ => rfl)
      · intro i o u c hi hl hu hc
        obtain ⟨q1, q2, q3⟩ := hdrop.prv i o u c hi hl hu hc
        refine ⟨?_, q2, q3⟩
        rintro (hx | rfl)
        · exact q1 hx
        · by_cases hik : i = k
          · subst hik
            rw [List.getElem?_set_self (get_lt hk)] at hi
            simp at hi; subst hi; simp [Ob.live] at hl
          · rw [List.getElem?_set_ne (Ne.symm hik)] at hi
            exact h.dis i k o _ u _ c hik hi hl hk rfl hu h1 hc rfl
    · cases xs with
      | nil => exact .slE _ _ _ _
      | cons x xs =>
        refine .sl (RelRow.mk (.inr rfl) (fun _ => hbnew) (vs := vs) (h6.mono (fun _ h => .inl h) (fun _ _ => rfl) (Nat.le_refl _) (fun _ _ h => h)) h0 ?_) h4
        intro j v hj
        exact block_cell hh 0 j v (by simpa using get_append_some hj)

theorem Le.pub {k : Nat} {e : TypeId} {sz : Nat} {xs : List AV} (hk : s.ob[k]? = some (.row e sz xs)) (hm : s.m ≤ k) : Le s { s with ob := s.ob.set k .gone, fr := frPub k sz xs s.fr } := by
  intro E ρ B a w hs
  obtain ⟨B', v, h1, h2, h3, h4, h5⟩ := hs.rw_.publish hk (Nat.le_trans hs.m.1 hm)
  refine ⟨ρ, B', h3, hs.m, hs.n, hs.df, hs.jj.chg ⟨rfl, rfl, rfl, Nat.le_refl _, fun _ _ _ => rfl, fun b hd => .inl (Dof.set hk rfl b hd), h1, fun b hb => (h5 b hb).elim .inl fun h => .inr (.inl h)⟩ h3.bd, ?_⟩
  intro t x hmem
  simp only [frPub, List.mem_map] at hmem
  obtain ⟨⟨t', x'⟩, hmem, he⟩ := hmem
  simp only [Prod.mk.injEq] at he
  obtain ⟨rfl, rfl⟩ := he
  obtain ⟨r1, r2⟩ := hs.rf t' x' hmem
  refine ⟨r1, ?_⟩
  generalize a.tmps.getD t' undef = u at r2 ⊢
  have r3 := r2.mono (B' := B') (ρ' := ρ) h1 (fun _ _ => rfl) (Nat.le_refl _) (fun _ _ h => h)
  cases x' with
  | own j =>
    simp only [AV.pub]
    split
    · rename_i hj
      subst hj
      cases r2 with
      | own hp _ =>
        rw [h2] at hp
        simp only [Option.some.injEq] at hp
        rw [← hp]; exact h4
    · exact r3
  | _ => exact r3

theorem ARun2.weak {l : List Oper} (h : Le s s') (k : ARun2 P ops (l, s') Q) : ARun2 P ops (l, s) Q := ARun.weak h k

theorem ARun2.pub {l : List Oper} (k : Nat) {e : TypeId} {sz : Nat} {xs : List AV} (hk : s.ob[k]? = some (.row e sz xs)) (hm : s.m ≤ k) (K : ARun2 P ops (Abs.srun P ops l { s with ob := s.ob.set k .gone, fr := frPub k sz xs s.fr }) Q) : ARun2 P ops (l, s) Q :=
  ARun2.weak (Le.pub hk hm) (ARun.srun K)

theorem AWp.pub {c : Code} {Q : Exit → AS → Prop} (k : Nat) {e : TypeId} {sz : Nat} {xs : List AV} (hk : s.ob[k]? = some (.row e sz xs)) (hm : s.m ≤ k) (K : AWp P c { s with ob := s.ob.set k .gone, fr := frPub k sz xs s.fr } Q) : AWp P c s Q :=
  AWp.weak (Le.pub hk hm) K

/-! ### make -/
/-- an element's zero -/
def zel (P : Program) (T : TypeId) : Option AV :=
  match P.underlying T with
  | some (.slice e) => match tk P e, zc P e with
    | .scal, some [z] => some (.val z)
    | .aggr n, some z => if z.length = n then some (.agg (z.map AV.val)) else none
    | _, _ => none
  | _ => none
end

attribute [push_cast] AV.inval Ob.inval frInval srcOf AV.pub frPub List.length_append List.length_map
end Go.Abs
