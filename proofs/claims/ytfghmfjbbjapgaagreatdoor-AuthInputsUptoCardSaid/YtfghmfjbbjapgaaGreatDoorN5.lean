/- From the statement's reading to abstract values, and back. No condition. -/
import Derived.Test.YtfghmfjbbjapgaaGreatDoorN4
import Derived.WalkKit
import Derived.ProofKit
import Derived.OpenShut
import Derived.JoinedCond
import Derived.Carry
import Derived.ChangeSlices
import Derived.Test.YtfghmfjbbjapgaaGreatDoorRows
import Derived.Deep.Strs
import Derived.LaidLaws
import Derived.LaidHandle
import Derived.Stop.Joined
import Derived.Test.YtfghmfjbbjapgaaGreatDoorCards
import Derived.Test.YtfghmfjbbjapgaaGreatDoorTie
import Derived.Deep.DeepHandedRow
namespace Go.Abs
open Go.ChangeShapes Go.WideShapes Go.RowKit
set_option linter.unusedVariables false
set_option linter.unusedSectionVars false
set_option linter.unusedSimpArgs false
/-- all that is there when the call begins -/
abbrev Old (W : World) : Nat → Prop := fun b => b < W.heap.size
theorem RW.start (W : World) : RW (E0 W.heap.size W (Old W) []) [] [] (Old W) W :=
  { ep := Nat.le_refl _, os := rfl, tape := rfl, output := rfl, size := Nat.le_refl _, block := fun _ _ _ => rfl, pre := fun k v h => by simp at h, bsub := fun _ h => h, bnew := fun _ h => .inl h,
    blt := fun _ h => h, len := rfl, obs := fun k o h => by simp at h, dis := fun i j o o' u v b _ h => by simp at h, prv := fun k o v b h => by simp at h }
theorem PC.answers {P : Program} {f : FuncId} {ys : List AV} {v : Value} (h : PC P f ys (.val v)) {W : World} (hg : Globs W (Old W) []) {args : Array Value} (ha : RelL W (Old W) W.heap.size [] ys args.toList) :
    Calls P f args W fun e W' => e = .returned v ∧ Below W.heap.size W W' := by
  have := h.2 W.heap.size W [] (Old W) args.toList hg (RW.start W) ha (fun e W' => e = .returned v ∧ Below W.heap.size W W') (by
    rintro r' v' τ' ρ' B' w' ⟨rfl, rfl⟩ hw hr
    cases hr
    exact ⟨rfl, ⟨hw.os, hw.tape, hw.output, hw.size, fun k hk => hw.block k hk ⟨fun ⟨u, hu, _⟩ => by simp at hu, fun h => by cases h⟩⟩⟩)
  simpa using this
section
variable {H : Type} {enc : TypeId × Value → H} {P : Program} {W W' : World}
theorem trodAll_stays (hl : laidOutB P = true) (hb : Below W.heap.size W W') {sp' : Nat → Bool} : ∀ {ts : List TypeId} {vs : List Value} {ds : List (DataW H)} {ps : List MemPlace}, (∀ t ∈ ts, P.readableRec t = true ∧ t < P.types.size) →
    DataW.TrodAll enc P W 0 (fun _ => true) true ts vs ds ps → (∀ p ∈ ps, p.block < W.heap.size) → (∀ p ∈ ps, sp' p.block = true) → DataW.TrodAll enc P W' 0 sp' true ts vs ds ps
  | [], _, _, _, _, h, _, _ => by
    obtain ⟨rfl, rfl, rfl⟩ := trodAll_nil h
    rfl
  | t :: ts, _, _, _, ht, h, hlt, hs => by
    obtain ⟨v, vs1, d, ds1, a, b, rfl, rfl, rfl, h1, h2⟩ := trodAll_cons h
    have := ht t (by simp)
    exact ⟨a, b, WideElems.Trod_stays hl this.1 this.2 h1 (fun x hx => hb.same (hlt x (by simp [hx]))) (fun x hx => hs x (by simp [hx])),
      trodAll_stays hl hb (fun u hu => ht u (by simp [hu])) h2 (fun x hx => hlt x (by simp [hx])) (fun x hx => hs x (by simp [hx])), rfl⟩
/-- a law holds: it answers true, and all that was there is as it was -/
theorem post_true {f : Func} {s : ChangeSpec} {fresh : Bool} {args : Array Value} {ds gs : List (DataW H)} {before : List MemPlace} {tb : TypeId}
    (hW : DataW.Whole enc P f.params.toList s.vars false W args.toList ds gs before) (hv : s.vars = []) (hs : s.fn H (ds ++ gs) = { results := [.lit (.bool true)], args := ds }) (hr : f.resultTypes = #[tb]) (hb : P.underlying tb = some .bool)
    (hl : laidOutB P = true) (ht : (f.params.toList.all fun t => P.readableRec t && decide (t < P.types.size)) = true) (hB : Below W.heap.size W W') :
    s.post enc P f false fresh false false W args (.bool true) W' := by
  have hW0 := hW
  obtain ⟨p, q, hA, hV, rfl, hfz, _⟩ := hW
  rw [hv] at hV
  have hg : gs = [] ∧ q = [] := by
    cases gs with
    | nil => exact ⟨rfl, hV⟩
    | cons g gs => exact hV.elim
  obtain ⟨rfl, rfl⟩ := hg
  have hlt : ∀ x ∈ p ++ [], x.block < W.heap.size := fun x hx => by simpa using hW0.lt x hx
  refine ⟨ds, [], p ++ [], [], p, [], hW0, ?_, ?_, ?_, ?_, fun h => by cases h⟩
  · rw [hs, hr]
    exact trodAll_cons_mk (p := []) (p' := []) (shut_bool hb _) trodAll_mk0
  · rw [hs]
    refine trodAll_stays hl hB (fun t h => ?_) hA (fun x hx => hlt x (by simp [hx])) (fun x hx => by simpa using hlt x (by simp [hx]))
    have := List.all_eq_true.1 ht t h
    simpa using this
  · rw [hs, hv]; exact rfl
  · refine ⟨hB.os, hB.output, fun i hi => ?_⟩
    rw [hB.block i hi]
    cases W.heap[i]? with
    | none => rfl
    | some o => cases o <;> simp
theorem addr_of_cell {w : World} {a : Addr} {v : Value} (h : w.cell? a = some v) : a.spot = none := by
  unfold World.cell? at h
  split at h
  · split at h
    · cases h
    · rename_i hs; cases hh : a.spot <;> simp_all
  · cases h
/-- a slice of numbers, read -/
theorem rel_ints0 {t e : TypeId} {k : IntKind} {v : Value} {d : DataW H} {ps : List MemPlace} {fuel : Nat} (ht : P.underlying t = some (.slice e)) (he : P.underlying e = some (.int k)) (hc : P.cellsOf e = 1)
    (hf : DataW.trod enc P W 0 (fun _ => true) true fuel t [v] = some (d, ps)) :
    ∃ (zs : List Int), Rel W (Old W) W.heap.size [] (.sl false 1 (zs.map fun n => .val (.int k n))) v ∧ (∀ n ∈ zs, (Lit.int k n).wf = true) ∧ ((d = .nil ∧ zs = []) ∨ ∃ rest, d = .slice (lits k zs) rest) := by
  rcases open_ints ht he hc hf with ⟨h1, h2⟩ | ⟨a, len, cap, zs, h1, h2, h3, h4, h5, h6, h7, h8⟩
  · simp only [List.cons.injEq, and_true] at h1
    subst h1
    exact ⟨[], .slE _ _ _ _, by simp, .inl ⟨congrArg Prod.fst h2, rfl⟩⟩
  · simp only [List.cons.injEq, and_true] at h1
    subst h1
    simp only [if_true] at h5
    refine ⟨zs.take len, ?_, fun n hn => h8 n (List.mem_of_mem_take hn), .inr ⟨_, congrArg Prod.fst h6⟩⟩
    have hlen : (zs.take len).length = len := by rw [List.length_take]; omega
    cases hq : zs.take len with
    | nil =>
      rw [hq] at hlen
      simp at hlen
      subst hlen
      exact .slE _ _ _ _
    | cons z l =>
      have hpos : 0 < zs.length := by rw [hq] at hlen; simp at hlen; omega
      have h0 := h7 0 hpos
      have hsp : a.spot = none := addr_of_cell (show W.cell? a = _ from h0)
      obtain ⟨b, o, sp⟩ := a
      simp only at hsp
      subst hsp
      have hblk : b < W.heap.size := by
        have := World.block_lt_of_cell? W _ h0
        simpa [Addr.add] using this
      rw [hq] at hlen
      simp only [List.length_cons] at hlen
      subst hlen
      have hrow := RelRow.mk (w := W) (B := Old W) (bs := W.heap.size) (ρ := []) (nw := false) (b := b) (sz := 1) (o := o) (xs := (z :: l).map fun n => AV.val (.int k n)) (vs := (z :: l).map fun n => Value.int k n) hblk (fun h => by cases h) ?_ ?_ ?_
      · have := Rel.sl (cap := cap) (by simpa using hrow) (by simpa using h3)
        simpa using this
      · have : (((z :: l).map fun n => AV.val (.int k n)).flatMap AV.cells) = ((z :: l).map fun n => Value.int k n).map AV.val := by
          generalize z :: l = m
          induction m with
          | nil => rfl
          | cons x m ih => simp only [List.map_cons, List.flatMap_cons, ih]; rfl
        rw [this]
        have key : ∀ l : List Value, RelL W (Old W) W.heap.size [] (l.map AV.val) l := fun l => by induction l with
          | nil => exact .nil
          | cons x l ih => exact .cons (.val x) ih
        exact key _
      · intro x hx
        simp only [List.mem_map] at hx
        obtain ⟨n, _, rfl⟩ := hx
        exact ⟨rfl, fun c hc => by simp [AV.cells] at hc; subst hc; rfl⟩
      · intro j v hj
        rw [← hq, List.getElem?_map, List.getElem?_take] at hj
        split at hj
        · rename_i hjl
          simp only [Option.map_eq_some_iff] at hj
          obtain ⟨n, hn, rfl⟩ := hj
          have hlt : j < zs.length := by have := List.getElem?_eq_some_iff.1 hn; exact this.1
          have := h7 j hlt
          rw [addr_add] at this
          rw [this, List.getD_eq_getElem?_getD, hn]; rfl
        · simp at hj
end
end Go.Abs
/- Nodes, read. -/
set_option linter.unusedVariables false
set_option linter.unusedSimpArgs false
namespace Go.Proofs.YtfghmfjbbjapgaaGreatDoor.C
open Go.Abs Go.ChangeShapes Go.WideShapes Go.ChangeAt Go.RowKit
theorem own : ownKnob Tryz.prog.godebug = none := by kernel_rfl
theorem laidOut : laidOutB Tryz.prog = true := by kernel_rfl
theorem nat_of {n : Int} {m : Nat} (h : 0 ≤ n ∧ n ≤ m) : ∃ x : Nat, n = N x ∧ x < m + 1 := ⟨n.toNat, by unfold N; omega, by omega⟩
theorem u8_of {n : Int} (h : (Lit.int .u8 n).wf = true) : ∃ m : Nat, n = N m ∧ m < 2 ^ 8 := nat_of (m := 255) (by simpa [Lit.wf, IntKind.min, IntKind.max, IntKind.signed, IntKind.bits] using h)
theorem int_bounds {k : IntKind} {n : Int} (h : (Lit.int k n).wf = true) : k.min ≤ n ∧ n ≤ k.max := by simpa [Lit.wf] using h
theorem bys_of {zs : List Int} (h : ∀ n ∈ zs, (Lit.int .u8 n).wf = true) : (zs.map fun n => AV.val (.int .u8 n)) = bys (zs.map fun n => UInt8.ofNat n.toNat) := by
  unfold bys
  rw [List.map_map]
  refine List.map_congr_left fun n hn => ?_
  have h2 : 0 ≤ n ∧ n ≤ 255 := by simpa [Lit.wf, IntKind.min, IntKind.max, IntKind.signed, IntKind.bits] using h n hn
  have h3 : N (UInt8.ofNat n.toNat).toNat = n := by
    rw [UInt8.toNat_ofNat']; unfold N; omega
  show AV.val (.int .u8 n) = .val (.int .u8 (N (UInt8.ofNat n.toNat).toNat))
  rw [h3]
theorem bulk_one {H : Type} (d : DataW H) : 1 ≤ Rows.uptoBulk d := by
  cases d with
  | lit l => cases l <;> simp [Rows.uptoBulk]
  | _ => simp [Rows.uptoBulk]
theorem bulk_len {H : Type} : ∀ l : List (DataW H), l.length ≤ Rows.uptoBulkAll l
  | [] => by simp [Rows.uptoBulkAll]
  | x :: r => by
    have h1 := bulk_one x
    have h2 := bulk_len r
    simp only [Rows.uptoBulkAll, List.length_cons]; omega
theorem bulk_lits' {H : Type} (k : IntKind) (zs : List Int) (rest : List (DataW H)) : zs.length + 1 ≤ Rows.uptoBulk (.slice (lits k zs) rest : DataW H) := by
  have := bulk_len (lits k zs : List (DataW H))
  simp only [lits, List.length_map] at this
  simp only [Rows.uptoBulk, lits]
  omega
section
variable {H : Type} {enc : TypeId × Value → H} {W : World}
/-- bytes -/
theorem rel_bytes0 {v : Value} {d : DataW H} {ps : List MemPlace} {fuel : Nat} (hf : DataW.trod enc Tryz.prog W 0 (fun _ => true) true fuel 23 [v] = some (d, ps)) :
    ∃ l : List UInt8, Rel W (Old W) W.heap.size [] (.sl false 1 (bys l)) v ∧ l.length ≤ Rows.uptoBulk d := by
  have hc : Tryz.prog.cellsOf 5 = 1 := by kernel_rfl
  obtain ⟨zs, k0, k1, k2⟩ := rel_ints0 Tryz.underlying23 Tryz.underlying5 hc hf
  rw [bys_of k1] at k0
  refine ⟨_, k0, ?_⟩
  rw [List.length_map]
  rcases k2 with ⟨_, rfl⟩ | ⟨rest, rfl⟩
  · simp
  · have := bulk_lits' .u8 zs rest; omega
theorem nodeA_one (n : GNode) : ∀ c ∈ (nodeA false n).cells, c.one = true := by
  rw [nodeA_eq]; simp [AV.cells, AV.one, Value.oneCell']
theorem node_fields : ∃ f0 f1 f2 : Field, Tryz.prog.underlying 26 = some (.struct #[f0, f1, f2]) ∧ f0.type = 22 ∧ f0.offset = 0 ∧ f1.type = 23 ∧ f1.offset = 1 ∧ f2.type = 24 ∧ f2.offset = 2 :=
  ⟨_, _, _, Tryz.underlying26, rfl, rfl, rfl, rfl, rfl, rfl⟩
set_option maxRecDepth 100000 in
theorem rel_node0 : ∀ (fuel : Nat),
    (∀ (cs : List Value) (d : DataW H) (ps : List MemPlace), DataW.trod enc Tryz.prog W 0 (fun _ => true) true fuel 26 cs = some (d, ps) → ∃ n : GNode, RelL W (Old W) W.heap.size [] (nodeA false n).cells cs ∧ n.sz ≤ Rows.uptoBulk d ∧ n.tyOk = true) ∧
    (∀ (v : Value) (d : DataW H) (ps : List MemPlace), DataW.trod enc Tryz.prog W 0 (fun _ => true) true fuel 24 [v] = some (d, ps) → ∃ l : List GNode, Rel W (Old W) W.heap.size [] (.sl false 3 (nodesA false l)) v ∧ szs l ≤ Rows.uptoBulk d ∧ tysOk l = true) := by
  have c16 : Tryz.prog.cellsOf 22 = 1 := by kernel_rfl
  have c8 : Tryz.prog.cellsOf 23 = 1 := by kernel_rfl
  have cn : Tryz.prog.cellsOf 24 = 1 := by kernel_rfl
  have c3 : Tryz.prog.cellsOf 26 = 3 := by kernel_rfl
  intro fuel
  induction fuel with
  | zero => exact ⟨fun cs d ps h => by simp [DataW.trod] at h, fun v d ps h => by simp [DataW.trod] at h⟩
  | succ fuel ih =>
    refine ⟨?_, ?_⟩
    · intro cs d ps h
      obtain ⟨f0, f1, f2, hs, a0, b0, a1, b1, a2, b2⟩ := node_fields
      obtain ⟨xs, m, hm, hx, hl, hlen, hall⟩ := DataW.trod_struct hs h
      have hm' : m = fuel := by omega
      subst hm'
      have e0 := hall 0 f0 rfl
      have e1 := hall 1 f1 rfl
      have e2 := hall 2 f2 rfl
      rw [a0, b0, c16] at e0
      rw [a1, b1, c8] at e1
      rw [a2, b2, cn] at e2
      rw [c3] at hl
      match xs, hlen, cs, hl with
      | [y0, y1, y2], _, [v0, v1, v2], _ =>
        simp only [List.drop_zero, List.take_succ_cons, List.take_zero, List.drop_succ_cons, List.getElem?_cons_zero, List.getElem?_cons_succ] at e0 e1 e2
        obtain ⟨n0, h0, hy0, hw0⟩ := DataW.trod_int Tryz.underlying22 e0
        obtain ⟨l1, r1, s1⟩ := rel_bytes0 (d := y1.1) (ps := y1.2) e1
        obtain ⟨l2, r2, s2, t2⟩ := ih.2 v2 y2.1 y2.2 e2
        have hb := int_bounds hw0
        have hn : N n0.toNat = n0 := by
          have : (0 : Int) ≤ n0 := hb.1
          unfold N; omega
        have hle : n0 ≤ 65535 := hb.2
        refine ⟨.mk n0.toNat l1 l2, ?_, ?_, by rw [GNode.tyOk, t2]; simp; omega⟩
        · rw [nodeA_eq]
          simp only [List.cons.injEq, and_true] at h0
          subst h0
          have := Rel.val (w := W) (B := Old W) (bs := W.heap.size) (ρ := []) (.int .u16 (N n0.toNat))
          rw [hn] at this
          exact .cons (by show Rel _ _ _ _ (.val (.int .u16 (N n0.toNat))) _; rw [hn]; exact this) (.cons r1 (.cons r2 .nil))
        · have hd : d = .agg [y0.1, y1.1, y2.1] := congrArg Prod.fst hx
          rw [hd]
          have := bulk_one y0.1
          simp only [GNode.sz, Rows.uptoBulk, Rows.uptoBulkAll]
          omega
    · intro v d ps h
      rcases DataW.trod_slice Tryz.underlying24 h with ⟨h1, h2⟩ | ⟨a, len, cap, elems, rest, m, hm, h1, h2, _, hlc, hcm, hlen, hel, _, _⟩
      · simp only [List.cons.injEq, and_true] at h1
        subst h1
        refine ⟨[], by simpa [nodesA] using Rel.slE false 3 none 0, by simp [szs], rfl⟩
      · have hm' : m = fuel := by omega
        subst hm'
        simp only [List.cons.injEq, and_true] at h1
        subst h1
        rw [c3] at hel
        -- every element is a node
        have each : ∀ i (hi : i < elems.length), ∃ (n : GNode) (cs : List Value), cs.length = 3 ∧ (∀ j, j < 3 → W.cell? ((a.add (i * 3)).add j) = cs[j]?) ∧ RelL W (Old W) W.heap.size [] (nodeA false n).cells cs ∧ n.sz ≤ Rows.uptoBulk elems[i].1 ∧ n.tyOk = true := by
          intro i hi
          have hk := hel i (by omega)
          rw [List.getElem?_eq_getElem hi] at hk
          obtain ⟨cs, hcs, hy⟩ := Option.bind_eq_some_iff.1 hk
          obtain ⟨_, hl3, hcell⟩ := World.cells?_some hcs
          obtain ⟨n, r, s, tt⟩ := ih.1 cs elems[i].1 elems[i].2 hy
          exact ⟨n, cs, hl3, hcell, r, s, tt⟩
        cases hq : elems with
        | nil =>
          rw [hq] at hlen
          simp at hlen
          subst hlen
          exact ⟨[], by simpa [nodesA] using Rel.slE false 3 (some a) cap, by simp [szs], rfl⟩
        | cons x r =>
          have hpos : 0 < elems.length := by rw [hq]; simp
          obtain ⟨n0, cs0, hl0, hc0, _, _, _⟩ := each 0 hpos
          have hcell0 := hc0 0 (by omega)
          simp only [Nat.zero_mul] at hcell0
          rw [List.getElem?_eq_getElem (by omega)] at hcell0
          have hsp : a.spot = none := addr_of_cell (show W.cell? a = _ from hcell0)
          obtain ⟨b, o, sp⟩ := a
          simp only at hsp
          subst hsp
          have hblk : b < W.heap.size := by
            have := World.block_lt_of_cell? W _ hcell0
            simpa [Addr.add] using this
          have rows : ∀ k, k ≤ elems.length → ∃ l : List GNode, l.length = k ∧ RelRow W (Old W) W.heap.size [] false b 3 (o + (elems.length - k) * 3) (nodesA false l) ∧ szs l ≤ Rows.uptoBulkAll ((elems.drop (elems.length - k)).map (·.1)) ∧ tysOk l = true := by
            intro k
            induction k with
            | zero => exact fun _ => ⟨[], rfl, by simpa [nodesA] using RelRow.nil, by simp [szs], rfl⟩
            | succ k ihk =>
              intro hk
              obtain ⟨l, p1, p2, p3, p4⟩ := ihk (by omega)
              have hi : elems.length - (k + 1) < elems.length := by omega
              obtain ⟨n, cs, q1, q2, q3, q4, q5⟩ := each _ hi
              have hd : elems.drop (elems.length - (k + 1)) = elems[elems.length - (k + 1)] :: elems.drop (elems.length - k) := by
                rw [List.drop_eq_getElem_cons hi, show elems.length - (k + 1) + 1 = elems.length - k by omega]
              refine ⟨n :: l, by simp [p1], ?_, ?_, by rw [tysOk, q5, p4]; rfl⟩
              · rw [nodesA_cons]
                refine .cons (RelCells.mk (B := Old W) (bs := W.heap.size) (nw := false) hblk (fun h => by cases h) q3 (nodeA_one n) ?_) (by rw [nodeA_eq]; rfl) ?_
                · intro j v hj
                  have hj3 : j < 3 := by rw [← q1]; exact (List.getElem?_eq_some_iff.1 hj).1
                  have := q2 j hj3
                  rw [addr_add, addr_add] at this
                  rw [this, hj]
                · have e : o + (elems.length - (k + 1)) * 3 + 3 = o + (elems.length - k) * 3 := by omega
                  rw [e]; exact p2
              · rw [hd]
                simp only [szs, List.map_cons, Rows.uptoBulkAll]
                omega
          obtain ⟨l, p1, p2, p3, p4⟩ := rows elems.length (Nat.le_refl _)
          rw [Nat.sub_self] at p2 p3
          have hd : d = .slice (elems.map (·.1)) (rest.map (·.1)) := congrArg Prod.fst h2
          refine ⟨l, ?_, ?_, p4⟩
          · match l, p1 with
            | n :: l, p1 =>
              rw [nodesA_cons] at p2 ⊢
              have := Rel.sl (cap := cap) (by simpa using p2) (by rw [nodesA_len]; simp at p1; omega)
              rw [nodesA_len] at this
              have e : l.length + 1 = len := by simp at p1; omega
              rw [e] at this
              exact this
            | [], p1 => simp at p1; omega
          · rw [hd]
            simp only [Rows.uptoBulk, List.drop_zero] at *
            omega
end
end Go.Proofs.YtfghmfjbbjapgaaGreatDoor.C
/- Chunks, read. -/
set_option linter.unusedVariables false
set_option linter.unusedSimpArgs false
namespace Go.Proofs.YtfghmfjbbjapgaaGreatDoor.C
open Go.Abs Go.ChangeShapes Go.WideShapes Go.ChangeAt Go.RowKit
section
variable {H : Type} {enc : TypeId × Value → H} {W : World}
theorem chunk_fields : ∃ f0 f1 f2 f3 : Field, Tryz.prog.underlying 37 = some (.struct #[f0, f1, f2, f3]) ∧ f0.type = 5 ∧ f0.offset = 0 ∧ f1.type = 5 ∧ f1.offset = 1 ∧ f2.type = 23 ∧ f2.offset = 2 ∧ f3.type = 24 ∧ f3.offset = 3 :=
  ⟨_, _, _, _, Tryz.underlying37, rfl, rfl, rfl, rfl, rfl, rfl, rfl, rfl⟩
theorem val_u8 {n : Int} (h : (Lit.int .u8 n).wf = true) : ∃ m : Nat, m < 256 ∧ Rel W (Old W) W.heap.size [] (u8 m) (.int .u8 n) := by
  obtain ⟨m, rfl, hm⟩ := u8_of h
  exact ⟨m, hm, .val _⟩
set_option maxRecDepth 100000 in
/-- a chunk, read -/
theorem rel_chunk {r : Reach} {b0 : Nat} {v : Value} {d : DataW H} {ps : List MemPlace} (hval : Value.okWide Tryz.prog W r b0 37 v) (hd : DataW.Trod enc Tryz.prog W 0 (fun _ => true) true 37 v d ps) :
    ∃ c : GChunk, Rel W (Old W) W.heap.size [] (chunkA false c) v ∧ (c.ty < 256 ∧ c.flags < 256 ∧ tysOk c.kids = true) ∧ c.data.length + szs c.kids ≤ Rows.uptoBulk d := by
  have c8 : Tryz.prog.cellsOf 5 = 1 := by kernel_rfl
  have cb : Tryz.prog.cellsOf 23 = 1 := by kernel_rfl
  have cn : Tryz.prog.cellsOf 24 = 1 := by kernel_rfl
  have c4 : Tryz.prog.cellsOf 37 = 4 := by kernel_rfl
  obtain ⟨f0, f1, f2, f3, hs, a0, b0, a1, b1, a2, b2, a3, b3⟩ := chunk_fields
  obtain ⟨cs, rfl, _⟩ := okWide_struct hs hval
  obtain ⟨fuel, hf⟩ := hd
  obtain ⟨xs, m, rfl, hx, hl, hlen, hall⟩ := DataW.trod_struct hs hf
  have e0 := hall 0 f0 rfl
  have e1 := hall 1 f1 rfl
  have e2 := hall 2 f2 rfl
  have e3 := hall 3 f3 rfl
  rw [a0, b0, c8] at e0
  rw [a1, b1, c8] at e1
  rw [a2, b2, cb] at e2
  rw [a3, b3, cn] at e3
  rw [c4] at hl
  obtain ⟨cs⟩ := cs
  match xs, hlen, cs, hl with
  | [y0, y1, y2, y3], _, [v0, v1, v2, v3], _ =>
    simp only [Value.cells, List.drop_zero, List.take_succ_cons, List.take_zero, List.drop_succ_cons, List.getElem?_cons_zero, List.getElem?_cons_succ] at e0 e1 e2 e3
    obtain ⟨n0, h0, hy0, hw0⟩ := DataW.trod_int Tryz.underlying5 e0
    obtain ⟨n1, h1, hy1, hw1⟩ := DataW.trod_int Tryz.underlying5 e1
    obtain ⟨l2, r2, s2⟩ := rel_bytes0 (d := y2.1) (ps := y2.2) e2
    obtain ⟨l3, r3, s3, t3⟩ := (rel_node0 m).2 v3 y3.1 y3.2 e3
    obtain ⟨m0, z0, q0⟩ := val_u8 (W := W) hw0
    obtain ⟨m1, z1, q1⟩ := val_u8 (W := W) hw1
    simp only [List.cons.injEq, and_true] at h0 h1
    subst h0; subst h1
    refine ⟨⟨m0, m1, l2, l3⟩, ?_, ⟨z0, z1, t3⟩, ?_⟩
    · exact Rel.agg (l := [u8 m0, u8 m1, .sl false 1 (bys l2), .sl false 3 (nodesA false l3)]) (.cons q0 (.cons q1 (.cons r2 (.cons r3 .nil))))
    · have hd : d = .agg [y0.1, y1.1, y2.1, y3.1] := congrArg Prod.fst hx
      rw [hd]
      simp only [Rows.uptoBulk, Rows.uptoBulkAll]
      omega
end
end Go.Proofs.YtfghmfjbbjapgaaGreatDoor.C
/- Lists of any elements, read; lists of chunks. -/
set_option linter.unusedVariables false
set_option linter.unusedSimpArgs false
namespace Go.Proofs.YtfghmfjbbjapgaaGreatDoor.C
open Go.Abs Go.ChangeShapes Go.WideShapes Go.ChangeAt Go.RowKit
section
variable {H : Type} {enc : TypeId × Value → H} {W : World}
set_option maxRecDepth 100000 in
theorem rel_list0 {α : Type} (A : α → AV) (size : α → Nat) (Pr : α → Prop) {T e : TypeId} {sz : Nat} (hT : Tryz.prog.underlying T = some (.slice e)) (hc : Tryz.prog.cellsOf e = sz) (h0 : 0 < sz) (hcells : ∀ x, (A x).cells.length = sz)
    (hone : ∀ x, ∀ c ∈ (A x).cells, c.one = true)
    (hel0 : ∀ (m : Nat) (cs : List Value) (d : DataW H) (ps : List MemPlace), DataW.trod enc Tryz.prog W 0 (fun _ => true) true m e cs = some (d, ps) → ∃ x : α, RelL W (Old W) W.heap.size [] (A x).cells cs ∧ size x ≤ Rows.uptoBulk d ∧ Pr x)
    {fuel : Nat} {v : Value} {d : DataW H} {ps : List MemPlace} (h : DataW.trod enc Tryz.prog W 0 (fun _ => true) true fuel T [v] = some (d, ps)) :
    ∃ l : List α, Rel W (Old W) W.heap.size [] (.sl false sz (l.map A)) v ∧ (l.map size).sum ≤ Rows.uptoBulk d ∧ ∀ x ∈ l, Pr x := by
  rcases DataW.trod_slice hT h with ⟨h1, h2⟩ | ⟨a, len, cap, elems, rest, m, hm, h1, h2, _, hlc, hcm, hlen, hel, _, _⟩
  · simp only [List.cons.injEq, and_true] at h1
    subst h1
    exact ⟨[], Rel.slE false sz none 0, by simp, by simp⟩
  · simp only [List.cons.injEq, and_true] at h1
    subst h1
    rw [hc] at hel
    have each : ∀ i (hi : i < elems.length), ∃ (x : α) (cs : List Value), cs.length = sz ∧ (∀ j, j < sz → W.cell? ((a.add (i * sz)).add j) = cs[j]?) ∧ RelL W (Old W) W.heap.size [] (A x).cells cs ∧ size x ≤ Rows.uptoBulk elems[i].1 ∧ Pr x := by
      intro i hi
      have hk := hel i (by omega)
      rw [List.getElem?_eq_getElem hi] at hk
      obtain ⟨cs, hcs, hy⟩ := Option.bind_eq_some_iff.1 hk
      obtain ⟨_, hl3, hcell⟩ := World.cells?_some hcs
      obtain ⟨x, r, s, tt⟩ := hel0 m cs elems[i].1 elems[i].2 hy
      exact ⟨x, cs, hl3, hcell, r, s, tt⟩
    cases hq : elems with
    | nil =>
      rw [hq] at hlen
      simp at hlen
      subst hlen
      exact ⟨[], Rel.slE false sz (some a) cap, by simp, by simp⟩
    | cons x r =>
      have hpos : 0 < elems.length := by rw [hq]; simp
      obtain ⟨n0, cs0, hl0, hc0, _, _, _⟩ := each 0 hpos
      have hcell0 := hc0 0 h0
      simp only [Nat.zero_mul] at hcell0
      rw [List.getElem?_eq_getElem (by omega)] at hcell0
      have hsp : a.spot = none := addr_of_cell (show W.cell? a = _ from hcell0)
      obtain ⟨b, o, sp⟩ := a
      simp only at hsp
      subst hsp
      have hblk : b < W.heap.size := by
        have := World.block_lt_of_cell? W _ hcell0
        simpa [Addr.add] using this
      have rows : ∀ k, k ≤ elems.length → ∃ l : List α, l.length = k ∧ RelRow W (Old W) W.heap.size [] false b sz (o + (elems.length - k) * sz) (l.map A) ∧ (l.map size).sum ≤ Rows.uptoBulkAll ((elems.drop (elems.length - k)).map (·.1)) ∧ ∀ x ∈ l, Pr x := by
        intro k
        induction k with
        | zero => exact fun _ => ⟨[], rfl, .nil, by simp, by simp⟩
        | succ k ihk =>
          intro hk
          obtain ⟨l, p1, p2, p3, p4⟩ := ihk (by omega)
          have hi : elems.length - (k + 1) < elems.length := by omega
          obtain ⟨n, cs, q1, q2, q3, q4, q5⟩ := each _ hi
          have hd : elems.drop (elems.length - (k + 1)) = elems[elems.length - (k + 1)] :: elems.drop (elems.length - k) := by
            rw [List.drop_eq_getElem_cons hi, show elems.length - (k + 1) + 1 = elems.length - k by omega]
          refine ⟨n :: l, by simp [p1], ?_, ?_, ?_⟩
          · rw [List.map_cons]
            refine .cons (RelCells.mk (B := Old W) (bs := W.heap.size) (nw := false) hblk (fun h => by cases h) q3 (hone n) ?_) (hcells n) ?_
            · intro j v hj
              have hj3 : j < sz := by rw [← q1]; exact (List.getElem?_eq_some_iff.1 hj).1
              have := q2 j hj3
              rw [addr_add, addr_add] at this
              rw [this, hj]
            · have e1 : (elems.length - (k + 1)) * sz + sz = (elems.length - k) * sz := by
                rw [← Nat.succ_mul]; congr 1; omega
              have e : o + (elems.length - (k + 1)) * sz + sz = o + (elems.length - k) * sz := by omega
              rw [e]; exact p2
          · rw [hd]
            simp only [List.map_cons, List.sum_cons, Rows.uptoBulkAll]
            omega
          · intro x hx
            rcases List.mem_cons.1 hx with rfl | hx
            · exact q5
            · exact p4 x hx
      obtain ⟨l, p1, p2, p3, p4⟩ := rows elems.length (Nat.le_refl _)
      rw [Nat.sub_self, Nat.zero_mul, Nat.add_zero] at p2
      rw [Nat.sub_self] at p3
      have hd : d = .slice (elems.map (·.1)) (rest.map (·.1)) := congrArg Prod.fst h2
      refine ⟨l, ?_, ?_, p4⟩
      · match l, p1 with
        | n :: l, p1 =>
          rw [List.map_cons] at p2 ⊢
          have := Rel.sl (cap := cap) p2 (by rw [List.length_map]; simp at p1; omega)
          rw [List.length_map] at this
          have e : l.length + 1 = len := by simp at p1; omega
          rw [e] at this
          exact this
        | [], p1 => simp at p1; omega
      · rw [hd]
        simp only [Rows.uptoBulk, List.drop_zero] at *
        omega
theorem chunkA_one (c : GChunk) : ∀ x ∈ (chunkA false c).cells, x.one = true := by
  simp [chunkA, AV.cells, AV.one, Value.oneCell']
set_option maxRecDepth 100000 in
theorem rel_chunk0 {fuel : Nat} (cs : List Value) (d : DataW H) (ps : List MemPlace) (hf : DataW.trod enc Tryz.prog W 0 (fun _ => true) true fuel 37 cs = some (d, ps)) :
    ∃ c : GChunk, RelL W (Old W) W.heap.size [] (chunkA false c).cells cs ∧ c.data.length + szs c.kids + 1 ≤ Rows.uptoBulk d ∧ (c.ty < 256 ∧ c.flags < 256 ∧ tysOk c.kids = true) := by
  have c8 : Tryz.prog.cellsOf 5 = 1 := by kernel_rfl
  have cb : Tryz.prog.cellsOf 23 = 1 := by kernel_rfl
  have cn : Tryz.prog.cellsOf 24 = 1 := by kernel_rfl
  have c4 : Tryz.prog.cellsOf 37 = 4 := by kernel_rfl
  obtain ⟨f0, f1, f2, f3, hs, a0, b0, a1, b1, a2, b2, a3, b3⟩ := chunk_fields
  obtain ⟨xs, m, hm, hx, hl, hlen, hall⟩ := DataW.trod_struct hs hf
  have e0 := hall 0 f0 rfl
  have e1 := hall 1 f1 rfl
  have e2 := hall 2 f2 rfl
  have e3 := hall 3 f3 rfl
  rw [a0, b0, c8] at e0
  rw [a1, b1, c8] at e1
  rw [a2, b2, cb] at e2
  rw [a3, b3, cn] at e3
  rw [c4] at hl
  match xs, hlen, cs, hl with
  | [y0, y1, y2, y3], _, [v0, v1, v2, v3], _ =>
    simp only [List.drop_zero, List.take_succ_cons, List.take_zero, List.drop_succ_cons, List.getElem?_cons_zero, List.getElem?_cons_succ] at e0 e1 e2 e3
    obtain ⟨n0, h0, hy0, hw0⟩ := DataW.trod_int Tryz.underlying5 e0
    obtain ⟨n1, h1, hy1, hw1⟩ := DataW.trod_int Tryz.underlying5 e1
    obtain ⟨l2, r2, s2⟩ := rel_bytes0 (d := y2.1) (ps := y2.2) e2
    obtain ⟨l3, r3, s3, t3⟩ := (rel_node0 m).2 v3 y3.1 y3.2 e3
    obtain ⟨m0, z0, q0⟩ := val_u8 (W := W) hw0
    obtain ⟨m1, z1, q1⟩ := val_u8 (W := W) hw1
    simp only [List.cons.injEq, and_true] at h0 h1
    subst h0; subst h1
    refine ⟨⟨m0, m1, l2, l3⟩, .cons q0 (.cons q1 (.cons r2 (.cons r3 .nil))), ?_, ⟨z0, z1, t3⟩⟩
    have hd : d = .agg [y0.1, y1.1, y2.1, y3.1] := congrArg Prod.fst hx
    have hb0 := bulk_one y0.1
    rw [hd]
    simp only [Rows.uptoBulk, Rows.uptoBulkAll]
    omega
def chunkSz (c : GChunk) : Nat := c.data.length + szs c.kids + 1
set_option maxRecDepth 100000 in
theorem rel_chunks {r : Reach} {b0 : Nat} {v : Value} {d : DataW H} {ps : List MemPlace} (hval : Value.okWide Tryz.prog W r b0 60 v) (hd : DataW.Trod enc Tryz.prog W 0 (fun _ => true) true 60 v d ps) :
    ∃ l : List GChunk, Rel W (Old W) W.heap.size [] (.sl false 4 (chunksA false l)) v ∧ (∀ c ∈ l, c.ty < 256 ∧ c.flags < 256 ∧ tysOk c.kids = true) ∧ (l.map chunkSz).sum ≤ Rows.uptoBulk d := by
  obtain ⟨A, len0, cap0, rfl⟩ := okWide_slice Tryz.underlying60 hval
  obtain ⟨fuel, hf⟩ := hd
  obtain ⟨l, h1, h2, h3⟩ := rel_list0 (sz := 4) (chunkA false) chunkSz (fun c => c.ty < 256 ∧ c.flags < 256 ∧ tysOk c.kids = true) Tryz.underlying60 (by kernel_rfl) (by decide) (fun x => by simp [chunkA, AV.cells]) chunkA_one (fun m cs d ps h => rel_chunk0 cs d ps h) hf
  exact ⟨l, h1, h3, h2⟩
end
end Go.Proofs.YtfghmfjbbjapgaaGreatDoor.C
/- wharflaw19: AuthChunks, AuthInputs. -/
set_option linter.unusedVariables false
set_option linter.unusedSimpArgs false
namespace Go.Proofs.YtfghmfjbbjapgaaGreatDoor.C
open Go.Abs
theorem put_peek4 (d : List UInt8) (h : 4 ≤ d.length) : putB 2 (peekN 2 d 0) ++ putB 2 (peekN 2 d 2) = d.take 4 := by
  obtain ⟨a, b, c, e, r, rfl⟩ : ∃ a b c e r, d = a :: b :: c :: e :: r := by
    match d, h with
    | a :: b :: c :: e :: r, _ => exact ⟨a, b, c, e, r, rfl⟩
  have h1 : peekN 2 (a :: b :: c :: e :: r) 0 = beN [a, b] := by unfold peekN; rw [if_pos (by simp)]; rfl
  have h2 : peekN 2 (a :: b :: c :: e :: r) 2 = beN [c, e] := by unfold peekN; rw [if_pos (by simp)]; rfl
  rw [h1, h2, putB2_be, putB2_be]; rfl
theorem auth_eta {c : GChunk} (hf : c.flags < 256) (h : isAuth c = true) : authC (keyOf c) (algOf c) (codeOf c) = c := by
  obtain ⟨f1, f2, f3, f4, f5⟩ := auth_form hf h
  have e1 : keyOf c = peekN 2 c.data 0 := if_pos h
  have e2 : algOf c = peekN 2 c.data 2 := if_pos h
  have e3 : codeOf c = c.data.drop 4 := if_pos h
  unfold authC
  rw [e1, e2, e3, put_peek4 _ (by omega), List.take_append_drop]
  cases c
  simp only at *
  rw [f3, f4, f5]
theorem blank_data {c : GChunk} (hf : c.flags < 256) (h : isAuth c = true) : c.data.take 4 ++ List.replicate (c.data.length - 4) 0 = (blankC c).data := by
  obtain ⟨f1, f2, f3, f4, f5⟩ := auth_form hf h
  have e1 : keyOf c = peekN 2 c.data 0 := if_pos h
  have e2 : algOf c = peekN 2 c.data 2 := if_pos h
  have e3 : codeOf c = c.data.drop 4 := if_pos h
  show _ = (putB 2 (keyOf c) ++ putB 2 (algOf c)) ++ List.replicate (codeOf c).length 0
  rw [e1, e2, e3, put_peek4 _ (by omega), List.length_drop]
theorem rblank_o (c : GChunk) (h5 : 5 ≤ c.data.length) (hd : c.data.length ≤ 2 ^ 26) : OC Tryz.prog 36 [chunkA false c] [] (.agg [.val (.int .u8 15), .val (.int .u8 0), .own 0, .val (.slice none 0 0)]) [.row 5 1 (bys (c.data.take 4 ++ List.replicate (c.data.length - 4) 0))] := by
  have htl : (c.data.take 4).length = 4 := by rw [List.length_take]; omega
  refine OC.of_body [2] (by intro k hk; simp at hk) Tryz.func36 rfl (by rw [Tryz.ntmps36]; simp) ?_
  refine AWp.regionW ?_
  refine AWp.regionM fun K1 hK1 => ?_
  refine ARun2.buildOwnM ?_
  refine ARun2.sliceHiM (4) ?_ ?_
  · rw [bys_len]; omega
  refine ARun2.appendM ?_ ?_ ?_
  · rw [YtfghmfjbbjapgaaGreatDoor.Facts.eb23, bys_len, List.length_nil]; omega
  · rw [bys_len, List.length_nil]; omega
  refine ARun2.endm (hK1 _ ?_)
  refine AWp.regionM fun K2 hK2 => ?_
  refine ARun2.zerosOwnM (xs := bys (c.data.take 4)) (c.data.length - 4) (by omega) (by omega) (by rw [bys_len]; omega) ?_
  refine ARun2.endm (hK2 _ ?_)
  refine AWp.ret ?_
  try simp only [thenQ, blockQ, noGo]
  refine bodyQ.m ?_
  clear hK2 K2 hK1 K1
  refine endO.m ?_ ?_
  · rw [bys_append]
  · skip
    first | done | exact Hand.go
theorem rblank_c (c : GChunk) (h : Small c) (hi : isAuth c = true) : PC Tryz.prog 36 [chunkA false c] (chunkA true (blankC c)) := by
  obtain ⟨f1, f2, f3, f4, f5⟩ := auth_form h.flags hi
  have htl : (c.data.take 4).length = 4 := by rw [List.length_take]; omega
  have hb := blank_data h.flags hi
  have e1 : (blankC c).ty = 15 := rfl
  have e2 : (blankC c).flags = 0 := rfl
  have e3 : (blankC c).kids = [] := rfl
  generalize blankC c = bc at hb e1 e2 e3
  refine PC.of_bodyK (by simp only [push_cast]) Tryz.func36 rfl (by rw [Tryz.ntmps36]; simp) ?_
  refine AWp.regionW ?_
  refine AWp.regionM fun K1 hK1 => ?_
  refine ARun2.buildOwnM ?_
  refine ARun2.sliceHiM (4) ?_ ?_
  · rw [bys_len]; omega
  refine ARun2.appendM ?_ ?_ ?_
  · rw [YtfghmfjbbjapgaaGreatDoor.Facts.eb23, bys_len, List.length_nil]; omega
  · rw [bys_len, List.length_nil]; omega
  refine ARun2.endm (hK1 _ ?_)
  refine AWp.regionM fun K2 hK2 => ?_
  refine ARun2.zerosOwnM (xs := bys (c.data.take 4)) (c.data.length - 4) (by omega) (by omega) (by rw [bys_len]; omega) ?_
  refine ARun2.pubD 2 ?_
  refine ARun2.endm (hK2 _ ?_)
  refine AWp.ret ?_
  try simp only [thenQ, blockQ, noGo]
  refine bodyQ.m ?_
  clear hK2 K2 hK1 K1
  rw [bys_append, hb]
  simp only [chunkA, e1, e2, e3]
  first | done | exact Wk.go
theorem authChunks_big (c : GChunk) (h : Small c) (hf : fewC c = false) : PC Tryz.prog 8 [chunkA false c] (bool true) := by
  have k1 := few12_c c h
  rw [hf] at k1
  refine PC.of_bodyW (by simp only [push_cast]) Tryz.func8 rfl (by rw [Tryz.ntmps8]; simp) ?_
  refine AWp.regionW ?_
  refine AWp.seqK fun K1 hK1 => ?_
  refine AWp.regionM fun K2 hK2 => ?_
  refine ARun2.callM (awake19_c) ?_
  refine ARun2.callM (k1) ?_
  refine ARun2.endm (hK2 _ ?_)
  refine AWp.condT ?_
  refine AWp.regionM fun K3 hK3 => ?_
  refine ARun2.callM (awake19_c) ?_
  refine ARun2.endm (hK3 _ ?_)
  refine AWp.ret ?_
  try simp only [thenQ, blockQ, noGo]
  refine bodyQ.m ?_
  clear hK3 K3 hK2 K2 hK1 K1
  first | done | exact Hand.go
theorem authChunks_no (c : GChunk) (h : Small c) (hf : fewC c = true) (hi : isAuth c = false) : PC Tryz.prog 8 [chunkA false c] (bool true) := by
  have k0 := few12_c c h
  rw [hf] at k0
  have k1 := aof_no c h hi
  have k2 := ablank_no c h hi
  have k3 := ris19_c c h
  rw [hi] at k3
  have k4 : PC Tryz.prog 20 [chunkA false .zero, chunkA false .zero] (bool true) := sameC_self .zero ▸ small_zero.same
  simp only [GChunk.zero] at k2 k4
  refine PC.of_bodyW (by simp only [push_cast]) Tryz.func8 rfl (by rw [Tryz.ntmps8]; simp) ?_
  refine AWp.regionW ?_
  refine AWp.seqK fun K1 hK1 => ?_
  refine AWp.regionM fun K2 hK2 => ?_
  refine ARun2.callM (awake19_c) ?_
  refine ARun2.callM (k0) ?_
  refine ARun2.endm (hK2 _ ?_)
  refine AWp.condF ?_
  refine AWp.skip ?_
  refine hK1 _ ?_
  refine AWp.regionM fun K3 hK3 => ?_
  refine ARun2.callM (k1) ?_
  refine ARun2.endm (hK3 _ ?_)
  refine AWp.regionM fun K4 hK4 => ?_
  refine ARun2.callM (k2) ?_
  refine ARun2.endm (hK4 _ ?_)
  refine AWp.seqK fun K5 hK5 => ?_
  refine AWp.regionM fun K6 hK6 => ?_
  refine ARun2.callM (k3) ?_
  refine ARun2.endm (hK6 _ ?_)
  refine AWp.condT ?_
  refine AWp.regionM fun K7 hK7 => ?_
  refine ARun2.callM (k4) ?_
  refine ARun2.endm (hK7 _ ?_)
  refine AWp.ret ?_
  try simp only [thenQ, blockQ, noGo]
  refine bodyQ.m ?_
  clear hK7 K7 hK6 K6 hK5 K5 hK4 K4 hK3 K3 hK2 K2 hK1 K1
  first | done | exact Hand.go
theorem inc_head (d : List UInt8) (h : 0 < d.length) : (bys (incN d d.length))[0]? = some (.val (.int .u8 (N (d[0] + 1).toNat))) := by
  cases d with
  | nil => simp at h
  | cons x d => simp [incN, bys]
theorem inc_ne (x : UInt8) : (x.toNat != (x + 1).toNat) = true := by
  rw [UInt8.toNat_add]
  have := x.toNat_lt
  simp
  omega
set_option maxHeartbeats 1000000 in
theorem authChunks_yes (c : GChunk) (h : Small c) (hf : fewC c = true) (hi : isAuth c = true) : PC Tryz.prog 8 [chunkA false c] (bool true) := by
  have k0 := few12_c c h
  rw [hf] at k0
  obtain ⟨l1, l2, l3⟩ := code_len h.flags hi
  have k1 := aof_o c h hi
  have k2 := ablank_yes c h hi
  have k3 := ris19_c c h
  rw [hi] at k3
  have k4 := rmake19_c (keyOf c) (algOf c) (codeOf c) (by omega)
  rw [auth_eta h.flags hi] at k4
  have k5 : PC Tryz.prog 20 [chunkA false c, chunkA false c] (bool true) := sameC_self _ ▸ h.same
  have k6 := rblank_c c h hi
  have hB : Small (blankC c) := small_auth _ _ (by rw [List.length_replicate]; omega)
  have k7 : PC Tryz.prog 20 [chunkA false (blankC c), chunkA false (blankC c)] (bool true) := sameC_self _ ▸ hB.same
  have k8 := aof_yes c h hi
  have hic := inc_head (codeOf c) (by omega)
  have hne := inc_ne ((codeOf c)[0]'(by omega))
  have hat : (bys (codeOf c))[0]? = some (.val (.int .u8 (N ((codeOf c)[0]'(by omega)).toNat))) := bys_at _ _ (by omega)
  obtain ⟨x0, hx0⟩ : ∃ x, x = (codeOf c)[0]'(by omega) := ⟨_, rfl⟩
  rw [← hx0] at hic hne hat
  clear hx0 l3
  generalize blankC c = bc at k2 k6 k7
  generalize codeOf c = d at k1 k4 k8 l1 l2 hic hat
  generalize keyOf c = kk at k1 k4 k8
  generalize algOf c = aa at k1 k4 k8
  refine PC.of_bodyW (by simp only [push_cast]) Tryz.func8 rfl (by rw [Tryz.ntmps8]; simp) ?_
  refine AWp.regionW ?_
  refine AWp.seqK fun K1 hK1 => ?_
  refine AWp.regionM fun K2 hK2 => ?_
  refine ARun2.callM (awake19_c) ?_
  refine ARun2.callM (k0) ?_
  refine ARun2.endm (hK2 _ ?_)
  refine AWp.condF ?_
  refine AWp.skip ?_
  refine hK1 _ ?_
  refine AWp.regionM fun K3 hK3 => ?_
  refine ARun2.callOM [] (k1) ?_
  refine ARun2.endm (hK3 _ ?_)
  refine AWp.regionM fun K4 hK4 => ?_
  refine ARun2.callM (k2) ?_
  refine ARun2.endm (hK4 _ ?_)
  refine AWp.seqK fun K5 hK5 => ?_
  refine AWp.regionM fun K6 hK6 => ?_
  refine ARun2.callM (k3) ?_
  refine ARun2.endm (hK6 _ ?_)
  refine AWp.condF ?_
  refine AWp.skip ?_
  refine hK5 _ ?_
  refine AWp.drS [[(6, none)], [(62, some 0)], [(8, none), (63, some 1)], [(63, some 1), (64, some 2)], [(65, some 3)], [(3, none), (66, some 4)], [(4, none), (66, some 4)], [(5, none), (66, some 4)], [(67, some 5), (68, some 6), (69, some 7), (66, some 4)], [(1, none), (66, some 4)], [(70, some 8), (71, some 9), (66, some 4)], [(66, some 4), (72, some 10)], [(73, some 11)], [(7, none), (74, some 12)], [(1, none), (74, some 12)], [(76, some 14), (74, some 12)], [(75, some 13), (77, some 15), (74, some 12)], [(74, some 12), (78, some 16)]] fun G hG => ?_
  refine Dr.sim ?_
  try simp only [List.cons_append, List.nil_append]
  refine Dr.sim ?_
  try simp only [List.cons_append, List.nil_append]
  refine Dr.sim ?_
  try simp only [List.cons_append, List.nil_append]
  refine Dr.sim ?_
  try simp only [List.cons_append, List.nil_append]
  refine Dr.sim ?_
  try simp only [List.cons_append, List.nil_append]
  refine Dr.sim ?_
  try simp only [List.cons_append, List.nil_append]
  refine Dr.sim ?_
  try simp only [List.cons_append, List.nil_append]
  refine Dr.sim ?_
  try simp only [List.cons_append, List.nil_append]
  refine Dr.callLend 1 k4 ?_
  refine Dr.sim ?_
  try simp only [List.cons_append, List.nil_append]
  refine Dr.call (k5) ?_
  try simp only [List.cons_append, List.nil_append]
  refine Dr.sim ?_
  try simp only [List.cons_append, List.nil_append]
  refine Dr.sim ?_
  try simp only [List.cons_append, List.nil_append]
  refine Dr.sim ?_
  try simp only [List.cons_append, List.nil_append]
  refine Dr.sim ?_
  try simp only [List.cons_append, List.nil_append]
  refine Dr.call (k6) ?_
  try simp only [List.cons_append, List.nil_append]
  refine Dr.call (k7) ?_
  try simp only [List.cons_append, List.nil_append]
  refine Dr.sim ?_
  try simp only [List.cons_append, List.nil_append]
  refine Dr.finM (n := 18) [(79, 17)] [1, 5] hG YtfghmfjbbjapgaaGreatDoor.Facts.mixed fun KD hKD => ?_
  refine ARun2.endm (hKD _ ?_); clear hKD KD hG G
  refine AWp.seqK fun K7 hK7 => ?_
  refine AWp.regionW ?_
  refine AWp.block ?_
  refine AWp.loopK [1, 5, 9] (fun (i : Nat) => [(10, nat i)]) (fun i => [.box 37 [u8 c.ty, u8 c.flags, .sl false 1 (bys c.data), .sl false 3 (nodesA false c.kids)], .row 5 1 (bys (incN d i)), .box 37 [u8 bc.ty, u8 bc.flags, .sl true 1 (bys bc.data), .sl true 3 (nodesA true bc.kids)]]) (fun i => i ≤ d.length) (fun i => d.length - i) (0) ?_ (Nat.zero_le _) ?_
  · skip
    refine Le.m 3 ?_ ?_
    · try simp only [push_cast, ↓reduceIte, Nat.reduceEqDiff, Nat.reduceLT, Nat.reduceAdd, Nat.reduceSub, Nat.reduceMul, Nat.reduceLeDiff, Nat.reducePow, Int.reduceLT, Int.reduceToNat, reduceCtorEq, Int.reduceNeg, Int.reduceEq, Nat.reduceBEq, Nat.reduceBNe, Int.reduceBEq, Int.reduceBNe, String.reduceEq]
      try simp (disch := omega) only [w_nat, w_add, w_addl, w_addr, w_sub, w_subl, w_mul, w_mull, w_mulr, w_u32, w_u16, w_u8, w_u32a, N_zero]
      first | done | skip
      rw [incN_zero]
    · first | (simp only [push_cast, ↓reduceIte, Nat.reduceEqDiff, Nat.reduceLT, Nat.reduceAdd, Nat.reduceSub, Nat.reduceMul, Nat.reduceLeDiff, Nat.reducePow, Int.reduceLT, Int.reduceToNat, reduceCtorEq, Int.reduceNeg, Int.reduceEq, Nat.reduceBEq, Nat.reduceBNe, Int.reduceBEq, Int.reduceBNe, String.reduceEq]; first | done | rfl | (simp (disch := omega) only [w_nat, w_add, w_addl, w_addr, w_sub, w_subl, w_mul, w_mull, w_mulr, w_u32, w_u16, w_u8, w_u32a, N_zero]; first | done | rfl))
  · intro i hi K8 hK8
    refine AWp.seqK fun K9 hK9 => ?_
    refine AWp.regionW ?_
    refine AWp.condLM (fun c2 => ?_) (fun c2 => ?_)
    · skip
      have hil : i < d.length := by simpa using c2
      refine AWp.skip ?_
      refine hK9 _ ?_
      refine AWp.seqK fun K10 hK10 => ?_
      refine AWp.block ?_
      refine AWp.regionN fun K11 hK11 => ?_
      refine ARun2.indexOwnM (xs := bys (incN d i)) i (by rw [bys_len, incN_len]; exact hil) ?_
      refine ARun2.loadEM (xs := bys (incN d i)) (.val (.int .u8 (N d[i].toNat))) (by rw [bys_at _ _ (by rw [incN_len]; exact hil), incN_at d i hil]) ?_
      refine ARun2.indexOwnM (xs := bys (incN d i)) i (by rw [bys_len, incN_len]; exact hil) ?_
      refine ARun2.storeEM (xs := bys (incN d i)) (by rw [bys_len, incN_len]; exact hil) ?_
      refine ARun2.endm (hK11 _ ?_)
      refine hK10 _ ?_
      refine AWp.regionV ?_
      refine hK8 _ (i + 1) (by omega) (by omega) ?_
      refine Le.m 3 ?_ ?_
      · try simp only [push_cast, ↓reduceIte, Nat.reduceEqDiff, Nat.reduceLT, Nat.reduceAdd, Nat.reduceSub, Nat.reduceMul, Nat.reduceLeDiff, Nat.reducePow, Int.reduceLT, Int.reduceToNat, reduceCtorEq, Int.reduceNeg, Int.reduceEq, Nat.reduceBEq, Nat.reduceBNe, Int.reduceBEq, Int.reduceBNe, String.reduceEq]
        try simp (disch := omega) only [w_nat, w_add, w_addl, w_addr, w_sub, w_subl, w_mul, w_mull, w_mulr, w_u32, w_u16, w_u8, w_u32a, N_zero]
        first | done | skip
        rw [u8_inc, incN_step d i hil]
      · first | (simp only [push_cast, ↓reduceIte, Nat.reduceEqDiff, Nat.reduceLT, Nat.reduceAdd, Nat.reduceSub, Nat.reduceMul, Nat.reduceLeDiff, Nat.reducePow, Int.reduceLT, Int.reduceToNat, reduceCtorEq, Int.reduceNeg, Int.reduceEq, Nat.reduceBEq, Nat.reduceBNe, Int.reduceBEq, Int.reduceBNe, String.reduceEq]; first | done | rfl | (simp (disch := omega) only [w_nat, w_add, w_addl, w_addr, w_sub, w_subl, w_mul, w_mull, w_mulr, w_u32, w_u16, w_u8, w_u32a, N_zero]; first | done | rfl))
    · skip
      have hil : i = d.length := by simp at c2; omega
      subst hil
      refine AWp.exit ?_
      try simp only [thenQ, blockQ, noGo, reduceIte, Nat.reduceEqDiff]
      refine hK7 _ ?_
      refine AWp.regionM fun K12 hK12 => ?_
      refine ARun2.callM (k8) ?_
      refine ARun2.endm (hK12 _ ?_)
      refine AWp.pubD 1 ?_
      refine AWp.drS [[(9, none)], [(99, some 0)], [(13, none), (100, some 1)], [(101, some 2), (100, some 1)], [(5, none), (100, some 1)], [(103, some 4), (100, some 1)], [(102, some 3), (104, some 5), (100, some 1)], [(100, some 1), (105, some 6)], [(106, some 7)], [(13, none), (107, some 8)], [(108, some 9), (107, some 8)], [(109, some 10), (107, some 8)], [(5, none), (107, some 8)], [(111, some 12), (107, some 8)], [(112, some 13), (107, some 8)], [(110, some 11), (113, some 14), (107, some 8)], [(107, some 8), (114, some 15)]] fun G hG => ?_
      refine Dr.sim ?_
      try simp only [List.cons_append, List.nil_append]
      refine Dr.sim ?_
      try simp only [List.cons_append, List.nil_append]
      refine Dr.sim ?_
      try simp only [List.cons_append, List.nil_append]
      refine Dr.sim ?_
      try simp only [List.cons_append, List.nil_append]
      refine Dr.sim ?_
      try simp only [List.cons_append, List.nil_append]
      refine Dr.sim ?_
      try simp only [List.cons_append, List.nil_append]
      refine Dr.sim ?_
      try simp only [List.cons_append, List.nil_append]
      refine Dr.sim ?_
      try simp only [List.cons_append, List.nil_append]
      refine Dr.sim ?_
      try simp only [List.cons_append, List.nil_append]
      refine Dr.sim ?_
      try simp only [List.cons_append, List.nil_append]
      refine Dr.idx (0) (.val (.int .u8 (N x0.toNat))) ?_ ?_
      · exact hat
      try simp only [List.cons_append, List.nil_append]
      refine Dr.sim ?_
      try simp only [List.cons_append, List.nil_append]
      refine Dr.sim ?_
      try simp only [List.cons_append, List.nil_append]
      refine Dr.idx (0) (.val (.int .u8 (N (x0 + 1).toNat))) ?_ ?_
      · exact hic
      try simp only [List.cons_append, List.nil_append]
      refine Dr.sim ?_
      try simp only [List.cons_append, List.nil_append]
      refine Dr.sim ?_
      try simp only [List.cons_append, List.nil_append]
      refine Dr.sim ?_
      try simp only [List.cons_append, List.nil_append]
      refine Dr.finM (n := 17) [(115, 16)] [] hG YtfghmfjbbjapgaaGreatDoor.Facts.mixed fun KD hKD => ?_
      refine ARun2.endm (hKD _ ?_); clear hKD KD hG G
      refine AWp.ret ?_
      try simp only [thenQ, blockQ, noGo]
      refine bodyQ.m ?_
      clear hK12 K12 hK9 K9 hK8 K8 hK7 K7 hK6 K6 hK5 K5 hK4 K4 hK3 K3 hK2 K2 hK1 K1
      try rw [hne]
      first | done | exact Hand.go
theorem authChunks_c (c : GChunk) (h : Small c) : PC Tryz.prog 8 [chunkA false c] (bool true) := by
  cases hf : fewC c with
  | false => exact authChunks_big c h hf
  | true =>
    cases hi : isAuth c with
    | false => exact authChunks_no c h hf hi
    | true => exact authChunks_yes c h hf hi
/-! ### AuthInputs -/
def few19 (l : List GChunk) : Bool := l.all (fun c => fewC c && decide (c.data.length ≤ 2000)) && decide (l.length ≤ 20)
theorem few19_c (l : List GChunk) (hs : ∀ c ∈ l, Small c) (hl : l.length ≤ 2 ^ 40) : PC Tryz.prog 37 [.sl false 4 (chunksA false l)] (bool (few19 l)) := by
  refine PC.of_bodyW (by simp only [push_cast]) Tryz.func37 rfl (by rw [Tryz.ntmps37]; simp) ?_
  refine AWp.regionW ?_
  refine AWp.seqK fun K1 hK1 => ?_
  refine AWp.regionW ?_
  refine AWp.block ?_
  refine AWp.loopK0 [0] (fun (i : Nat) => [(3, nat i)]) (fun i => i ≤ l.length ∧ ∀ j (hj : j < l.length), j < i → (fewC l[j] && decide (l[j].data.length ≤ 2000)) = true) (fun i => l.length - i) (0) ?_ ⟨Nat.zero_le _, fun j _ hj => by omega⟩ ?_
  · skip
    refine Le.m 0 ?_ ?_
    · first | with_reducible rfl | (simp only [push_cast, ↓reduceIte, Nat.reduceEqDiff, Nat.reduceLT, Nat.reduceAdd, Nat.reduceSub, Nat.reduceMul, Nat.reduceLeDiff, Nat.reducePow, Int.reduceLT, Int.reduceToNat, reduceCtorEq, Int.reduceNeg, Int.reduceEq, Nat.reduceBEq, Nat.reduceBNe, Int.reduceBEq, Int.reduceBNe, String.reduceEq]; first | done | rfl | (simp (disch := omega) only [w_nat, w_add, w_addl, w_addr, w_sub, w_subl, w_mul, w_mull, w_mulr, w_u32, w_u16, w_u8, w_u32a, N_zero]; first | done | rfl))
    · first | (simp only [push_cast, ↓reduceIte, Nat.reduceEqDiff, Nat.reduceLT, Nat.reduceAdd, Nat.reduceSub, Nat.reduceMul, Nat.reduceLeDiff, Nat.reducePow, Int.reduceLT, Int.reduceToNat, reduceCtorEq, Int.reduceNeg, Int.reduceEq, Nat.reduceBEq, Nat.reduceBNe, Int.reduceBEq, Int.reduceBNe, String.reduceEq]; first | done | rfl | (simp (disch := omega) only [w_nat, w_add, w_addl, w_addr, w_sub, w_subl, w_mul, w_mull, w_mulr, w_u32, w_u16, w_u8, w_u32a, N_zero]; first | done | rfl))
  · intro i hi K2 hK2
    refine AWp.seqK fun K3 hK3 => ?_
    refine AWp.regionW ?_
    refine AWp.condLM (fun c0 => ?_) (fun c0 => ?_)
    · skip
      have hil : i < l.length := by simpa using c0
      have hk := few12_c l[i] (hs _ (List.getElem_mem hil))
      refine AWp.skip ?_
      refine hK3 _ ?_
      refine AWp.seqK fun K4 hK4 => ?_
      refine AWp.block ?_
      refine AWp.regionA fun K5 hK5 => ?_
      refine ARun.segm 7 fun KS hKS => ?_
      refine ARun2.indexM (i) (chunkA false l[i]) ?_ ?_
      · exact chunksA_at _ _ _ hil
      refine ARun2.callM (hk) ?_
      refine ARun2.endm (hKS _ ?_); clear hKS KS
      apply ARun.grpM 7 6 false 23 [0, 3, 16]
      · intro g6 KG hKG
        refine ARun2.gom ?_
        refine ARun2.indexM (i) (chunkA false l[i]) ?_ ?_
        · exact chunksA_at _ _ _ hil
        exact ARun2.endm (hKG _ Le.grpM)
      refine ARun2.gom ?_
      refine ARun2.endm (hK5 _ ?_)
      refine AWp.condLM (fun c1 => ?_) (fun c1 => ?_)
      · skip
        have hne : (fewC l[i] && decide (l[i].data.length ≤ 2000)) = false := by
          cases h1 : fewC l[i] <;> simp_all
        have hr : few19 l = false := by
          unfold few19
          have : l.all (fun c => fewC c && decide (c.data.length ≤ 2000)) = false := List.all_eq_false.2 ⟨_, List.getElem_mem hil, by rw [hne]; simp⟩
          rw [this]; rfl
        refine AWp.regionW ?_
        refine AWp.ret ?_
        try simp only [thenQ, blockQ, noGo]
        refine bodyQ.m ?_
        clear hK5 K5 hK4 K4 hK3 K3 hK2 K2 hK1 K1
        rw [hr]
        first | done | exact Hand.go
      · skip
        have heq : (fewC l[i] && decide (l[i].data.length ≤ 2000)) = true := by
          cases h1 : fewC l[i] <;> simp_all
        refine AWp.skip ?_
        refine hK4 _ ?_
        refine AWp.regionV ?_
        refine hK2 _ (i + 1) (⟨hil, fun j hj hji => (Nat.lt_or_ge j i).elim (fun h => hi.2 j hj h) (fun h => by have e : j = i := (by omega); subst e; exact heq)⟩) (by omega) ?_
        refine Le.m 0 ?_ ?_
        · first | with_reducible rfl | (simp only [push_cast, ↓reduceIte, Nat.reduceEqDiff, Nat.reduceLT, Nat.reduceAdd, Nat.reduceSub, Nat.reduceMul, Nat.reduceLeDiff, Nat.reducePow, Int.reduceLT, Int.reduceToNat, reduceCtorEq, Int.reduceNeg, Int.reduceEq, Nat.reduceBEq, Nat.reduceBNe, Int.reduceBEq, Int.reduceBNe, String.reduceEq]; first | done | rfl | (simp (disch := omega) only [w_nat, w_add, w_addl, w_addr, w_sub, w_subl, w_mul, w_mull, w_mulr, w_u32, w_u16, w_u8, w_u32a, N_zero]; first | done | rfl))
        · first | (simp only [push_cast, ↓reduceIte, Nat.reduceEqDiff, Nat.reduceLT, Nat.reduceAdd, Nat.reduceSub, Nat.reduceMul, Nat.reduceLeDiff, Nat.reducePow, Int.reduceLT, Int.reduceToNat, reduceCtorEq, Int.reduceNeg, Int.reduceEq, Nat.reduceBEq, Nat.reduceBNe, Int.reduceBEq, Int.reduceBNe, String.reduceEq]; first | done | rfl | (simp (disch := omega) only [w_nat, w_add, w_addl, w_addr, w_sub, w_subl, w_mul, w_mull, w_mulr, w_u32, w_u16, w_u8, w_u32a, N_zero]; first | done | rfl))
    · skip
      have hil : i = l.length := by have := hi.1; simp at c0; omega
      have hr : few19 l = decide (l.length ≤ 20) := by
        unfold few19
        have : l.all (fun c => fewC c && decide (c.data.length ≤ 2000)) = true := by
          rw [List.all_eq_true]; intro x hx
          obtain ⟨j, hj, rfl⟩ := List.getElem_of_mem hx
          exact hi.2 j hj (by omega)
        rw [this, Bool.true_and]
      refine AWp.exit ?_
      try simp only [thenQ, blockQ, noGo, reduceIte, Nat.reduceEqDiff]
      refine hK1 _ ?_
      refine AWp.regionW ?_
      refine AWp.ret ?_
      try simp only [thenQ, blockQ, noGo]
      refine bodyQ.m ?_
      clear hK3 K3 hK2 K2 hK1 K1
      rw [hr]
      first | done | exact Hand.go
theorem ref03_c (l : List UInt8) (hl : l.length ≤ 2 ^ 39) : PC Tryz.prog 71 [.sl false 1 (bys l)] (.sl true 1 (bys (padB l))) := PC.of_own (ref03_o l hl)
theorem rinput_no (c : GChunk) (l : List GChunk) (h : Small c) (hi : isAuth c = false) : PC Tryz.prog 39 [chunkA false c, .sl false 4 (chunksA false l)] (.tup [.sl true 1 [], bool false]) := by
  have k1 := ris19_c c h
  rw [hi] at k1
  refine PC.of_bodyK (by simp only [push_cast]) Tryz.func39 rfl (by rw [Tryz.ntmps39]; simp) ?_
  refine AWp.regionW ?_
  refine AWp.seqK fun K1 hK1 => ?_
  refine AWp.regionM fun K2 hK2 => ?_
  refine ARun2.callM (k1) ?_
  refine ARun2.endm (hK2 _ ?_)
  refine AWp.condT ?_
  refine AWp.regionW ?_
  refine AWp.ret ?_
  try simp only [thenQ, blockQ, noGo]
  refine bodyQ.m ?_
  clear hK2 K2 hK1 K1
  first | done | exact Wk.go
theorem rinput_run (c bc : GChunk) (l L : List GChunk) (h : Small c) (hi : isAuth c = true) (hl : l.length ≤ 2 ^ 20) (hL : L = bc :: l) (hall : ∀ j (hj : j < l.length), Small l[j] ∧ tysOk l[j].kids = true)
    (kb : PC Tryz.prog 36 [chunkA false c] (chunkA true bc)) (hbc : checkC bc = 0) (hbs : Small bc) (hbt : tysOk bc.kids = true) :
    PC Tryz.prog 39 [chunkA false c, .sl false 4 (chunksA false l)] (.tup [.sl true 1 (bys (inputC L).1), bool (inputC L).2]) := by
  have k1 := ris19_c c h
  rw [hi] at k1
  have hbl := bytes_small hbc
  have k2 := rbytes12_c bc hbs hbt (check_size hbc).1
  have k3 := ref03_o (bytesC bc) (by omega)
  have hP : ∀ i, i ≤ l.length → (∀ j (hj : j < l.length), j < i → checkC l[j] = 0) → (padB (bytesC bc) ++ padsC (l.take i)).length ≤ 2 ^ 38 := by
    intro i hil hj
    have h1 := padB_le _ hbl
    have h2 := ainput_len (l.take i) (fun x hx => by
      obtain ⟨j, hjl, rfl⟩ := List.getElem_of_mem hx
      rw [List.length_take] at hjl
      rw [List.getElem_take]
      exact bytes_small (hj j (by omega) (by omega)))
    rw [List.length_take] at h2
    rw [List.length_append]; unfold padsC; omega
  refine PC.of_bodyK (by simp only [push_cast]) Tryz.func39 rfl (by rw [Tryz.ntmps39]; simp) ?_
  refine AWp.regionW ?_
  refine AWp.seqK fun K1 hK1 => ?_
  refine AWp.regionM fun K2 hK2 => ?_
  refine ARun2.callM (k1) ?_
  refine ARun2.endm (hK2 _ ?_)
  refine AWp.condF ?_
  refine AWp.skip ?_
  refine hK1 _ ?_
  refine AWp.regionM fun K3 hK3 => ?_
  refine ARun2.callM (kb) ?_
  refine ARun2.callM (k2) ?_
  refine ARun2.callOM [] (k3) ?_
  refine ARun2.endm (hK3 _ ?_)
  refine AWp.seqK fun K4 hK4 => ?_
  refine AWp.regionW ?_
  refine AWp.block ?_
  -- SLOTS THAT TURN AND ARE NOT TOLD: [6]
  refine AWp.loopK [1, 6] (fun (i : Nat) => [(7, nat i)]) (fun i => [.box 37 [u8 c.ty, u8 c.flags, .sl false 1 (bys c.data), .sl false 3 (nodesA false c.kids)], .row 5 1 (bys (padB (bytesC bc) ++ padsC (l.take i)))]) (fun i => i ≤ l.length ∧ ∀ j (hj : j < l.length), j < i → checkC l[j] = 0) (fun i => l.length - i) (0) ?_ ⟨Nat.zero_le _, fun j _ hj => by omega⟩ ?_
  · skip
    refine Le.m 2 ?_ ?_
    · try simp only [push_cast, ↓reduceIte, Nat.reduceEqDiff, Nat.reduceLT, Nat.reduceAdd, Nat.reduceSub, Nat.reduceMul, Nat.reduceLeDiff, Nat.reducePow, Int.reduceLT, Int.reduceToNat, reduceCtorEq, Int.reduceNeg, Int.reduceEq, Nat.reduceBEq, Nat.reduceBNe, Int.reduceBEq, Int.reduceBNe, String.reduceEq]
      try simp (disch := omega) only [w_nat, w_add, w_addl, w_addr, w_sub, w_subl, w_mul, w_mull, w_mulr, w_u32, w_u16, w_u8, w_u32a, N_zero]
      first | done | skip
      simp [padsC]
    · first | (simp only [push_cast, ↓reduceIte, Nat.reduceEqDiff, Nat.reduceLT, Nat.reduceAdd, Nat.reduceSub, Nat.reduceMul, Nat.reduceLeDiff, Nat.reducePow, Int.reduceLT, Int.reduceToNat, reduceCtorEq, Int.reduceNeg, Int.reduceEq, Nat.reduceBEq, Nat.reduceBNe, Int.reduceBEq, Int.reduceBNe, String.reduceEq]; first | done | rfl | (simp (disch := omega) only [w_nat, w_add, w_addl, w_addr, w_sub, w_subl, w_mul, w_mull, w_mulr, w_u32, w_u16, w_u8, w_u32a, N_zero]; first | done | rfl))
  · intro i hi K5 hK5
    refine AWp.seqK fun K6 hK6 => ?_
    refine AWp.regionW ?_
    refine AWp.condLM (fun c1 => ?_) (fun c1 => ?_)
    · skip
      have hil : i < l.length := by simpa using c1
      obtain ⟨hsm, htk⟩ := hall i hil
      have hck := hsm.check12
      have hpl := hP i hi.1 hi.2
      obtain ⟨xc, hxc⟩ : ∃ xc, xc = l[i] := ⟨_, rfl⟩
      have hca := chunksA_at false l i hil
      rw [← hxc] at hsm htk hck hca
      refine AWp.skip ?_
      refine hK6 _ ?_
      refine AWp.seqK fun K7 hK7 => ?_
      refine AWp.block ?_
      refine AWp.seqK fun K8 hK8 => ?_
      refine AWp.regionM fun K9 hK9 => ?_
      refine ARun2.indexM (i) (chunkA false xc) ?_ ?_
      · exact hca
      refine ARun2.callM (hck) ?_
      refine ARun2.endm (hK9 _ ?_)
      refine AWp.condLM (fun c2 => ?_) (fun c2 => ?_)
      · skip
        have hne : ¬ checkC xc = 0 := by simpa using c2
        have hr : inputC L = ([], false) := by
          rw [hL]
          exact inputC_no (i := i + 1) (by simp; omega) (by simp only [List.getElem_cons_succ]; rw [← hxc]; exact hne)
        refine AWp.regionW ?_
        refine AWp.ret ?_
        try simp only [thenQ, blockQ, noGo]
        refine bodyQ.m ?_
        clear hK9 K9 hK8 K8 hK7 K7 hK6 K6 hK5 K5 hK4 K4 hK3 K3 hK2 K2 hK1 K1
        rw [hr]
        first | done | exact Wk.go
      · skip
        have heq : checkC xc = 0 := by simpa using c2
        have hxl := bytes_small heq
        have hpb := padB_le _ hxl
        refine AWp.skip ?_
        refine hK8 _ ?_
        refine AWp.regionN fun K10 hK10 => ?_
        refine ARun2.indexM (i) (chunkA false xc) ?_ ?_
        · exact hca
        refine ARun2.callM (rbytes12_c xc hsm htk (check_size heq).1) ?_
        refine ARun2.callM (ref03_c (bytesC xc) (by omega)) ?_
        refine ARun2.appendM ?_ ?_ ?_
        · rw [YtfghmfjbbjapgaaGreatDoor.Facts.eb23, bys_len, bys_len]; omega
        · rw [bys_len, bys_len]; omega
        refine ARun2.endm (hK10 _ ?_)
        refine hK7 _ ?_
        refine AWp.regionV ?_
        refine hK5 _ (i + 1) (⟨hil, fun j hj hji => (Nat.lt_or_ge j i).elim (fun h => hi.2 j hj h) (fun h => by have e : j = i := (by omega); subst e; rw [← hxc]; exact heq)⟩) (by omega) ?_
        refine Le.m 2 ?_ ?_
        · try simp only [push_cast, ↓reduceIte, Nat.reduceEqDiff, Nat.reduceLT, Nat.reduceAdd, Nat.reduceSub, Nat.reduceMul, Nat.reduceLeDiff, Nat.reducePow, Int.reduceLT, Int.reduceToNat, reduceCtorEq, Int.reduceNeg, Int.reduceEq, Nat.reduceBEq, Nat.reduceBNe, Int.reduceBEq, Int.reduceBNe, String.reduceEq]
          try simp (disch := omega) only [w_nat, w_add, w_addl, w_addr, w_sub, w_subl, w_mul, w_mull, w_mulr, w_u32, w_u16, w_u8, w_u32a, N_zero]
          first | done | skip
          rw [List.take_succ_eq_append_getElem hil, padsC_snoc, ← hxc, bys_append, List.append_assoc]
        · first | (simp only [push_cast, ↓reduceIte, Nat.reduceEqDiff, Nat.reduceLT, Nat.reduceAdd, Nat.reduceSub, Nat.reduceMul, Nat.reduceLeDiff, Nat.reducePow, Int.reduceLT, Int.reduceToNat, reduceCtorEq, Int.reduceNeg, Int.reduceEq, Nat.reduceBEq, Nat.reduceBNe, Int.reduceBEq, Int.reduceBNe, String.reduceEq]; first | done | rfl | (simp (disch := omega) only [w_nat, w_add, w_addl, w_addr, w_sub, w_subl, w_mul, w_mull, w_mulr, w_u32, w_u16, w_u8, w_u32a, N_zero]; first | done | rfl))
    · skip
      have hil : i = l.length := by have := hi.1; simp at c1; omega
      have hr : inputC L = (padB (bytesC bc) ++ padsC l, true) := by
        rw [hL, inputC_yes (l := bc :: l) ?_]
        · simp [padsC]
        · intro j hj
          cases j with
          | zero => exact hbc
          | succ j => exact hi.2 j (by simpa using hj) (by simp at hj; omega)
      subst hil
      rw [List.take_length]
      refine AWp.exit ?_
      try simp only [thenQ, blockQ, noGo, reduceIte, Nat.reduceEqDiff]
      refine hK4 _ ?_
      refine AWp.pubD 1 ?_
      refine AWp.regionW ?_
      refine AWp.ret ?_
      try simp only [thenQ, blockQ, noGo]
      refine bodyQ.m ?_
      clear hK6 K6 hK5 K5 hK4 K4 hK3 K3 hK2 K2 hK1 K1
      rw [hr]
      first | done | exact Wk.go
theorem blank_check {c : GChunk} (hf : c.flags < 256) (h : isAuth c = true) : checkC (blankC c) = 0 := by
  obtain ⟨l1, l2, _⟩ := code_len hf h
  exact auth_check _ _ _ (by rw [List.length_replicate]; omega) (by rw [List.length_replicate]; omega)
theorem small_blank {c : GChunk} (h : Small c) (hi : isAuth c = true) : Small (blankC c) := by
  obtain ⟨l1, l2, _⟩ := code_len h.flags hi
  exact small_auth _ _ (by rw [List.length_replicate]; omega)
/-- the code's bytes, i of them set -/
def seedX (d : List UInt8) (n : Nat) (t : UInt8) (i : Nat) : List UInt8 := d ++ (List.replicate i t ++ List.replicate (n - i) 0)
theorem seedX_len (d : List UInt8) (n : Nat) (t : UInt8) (i : Nat) (h : i ≤ n) : (seedX d n t i).length = d.length + n := by simp [seedX]; omega
theorem seedX_zero (d : List UInt8) (n : Nat) (t : UInt8) : d ++ List.replicate n 0 = seedX d n t 0 := by simp [seedX]
theorem seedX_full (d : List UInt8) (n : Nat) (t : UInt8) : seedX d n t n = d ++ List.replicate n t := by simp [seedX]
theorem seedX_step (d : List UInt8) (n : Nat) (t : UInt8) (i : Nat) (hd : d.length = 4) (h : i < n) : (bys (seedX d n t i)).set (4 + i) (.val (.int .u8 (N t.toNat))) = bys (seedX d n t (i + 1)) := by
  have e : (seedX d n t i).set (4 + i) t = seedX d n t (i + 1) := by
    unfold seedX
    obtain ⟨m, hm⟩ : ∃ m, n - i = m + 1 := ⟨n - i - 1, by omega⟩
    rw [List.set_append_right _ _ (by omega), hd, show 4 + i - 4 = i by omega, List.set_append_right _ _ (by simp), List.length_replicate, Nat.sub_self, hm, List.replicate_succ, List.set_cons_zero,
      show n - (i + 1) = m by omega, List.replicate_succ', List.append_assoc]
    rfl
  rw [← e]
  simp [bys, List.map_set]
theorem authInputs_big (c : GChunk) (l : List GChunk) (t : UInt8) (h : Small c) (hs : ∀ c ∈ l, Small c) (hl : l.length ≤ 2 ^ 40) (hf : (few19 [c] && few19 l) = false) : PC Tryz.prog 9 [chunkA false c, .sl false 4 (chunksA false l), .val (.int .u8 (N t.toNat))] (bool true) := by
  have k1 : PC Tryz.prog 37 [.sl false 4 [chunkA false c]] (bool (few19 [c])) := few19_c [c] (by simpa using h) (by simp)
  have k2 := few19_c l hs hl
  refine PC.of_bodyW (by simp only [push_cast]) Tryz.func9 rfl (by rw [Tryz.ntmps9]; simp) ?_
  refine AWp.regionW ?_
  refine AWp.seqK fun K1 hK1 => ?_
  refine AWp.regionA fun K2 hK2 => ?_
  refine ARun.segm 9 fun KS hKS => ?_
  refine ARun2.callM (awake19_c) ?_
  refine ARun2.callM (k1) ?_
  refine ARun2.endm (hKS _ ?_); clear hKS KS
  apply ARun.grpM 3 8 false 26 [1, 2, 3, 23]
  · intro g8 KG hKG
    refine ARun2.gom ?_
    refine ARun2.callM (k2) ?_
    exact ARun2.endm (hKG _ Le.grpM)
  refine ARun2.gom ?_
  refine ARun2.endm (hK2 _ ?_)
  refine AWp.condLM (fun c0 => ?_) (fun c0 => ?_)
  · skip
    refine AWp.regionM fun K3 hK3 => ?_
    refine ARun2.callM (awake19_c) ?_
    refine ARun2.endm (hK3 _ ?_)
    refine AWp.ret ?_
    try simp only [thenQ, blockQ, noGo]
    refine bodyQ.m ?_
    clear hK3 K3 hK2 K2 hK1 K1
    first | done | exact Hand.go
  · skip
    exfalso
    cases h1 : few19 [c] <;> cases h2 : few19 l <;> simp_all
theorem authInputs_off (c : GChunk) (l : List GChunk) (t : UInt8) (h : Small c) (hs : ∀ c ∈ l, Small c) (hl : l.length ≤ 2 ^ 40) (hf : few19 [c] = true) (hf2 : few19 l = true)
    (k3 : PC Tryz.prog 38 [chunkA false c, .sl false 4 (chunksA false l)] (.tup [.sl true 1 [], bool false])) (k4 : PC Tryz.prog 39 [chunkA false c, .sl false 4 (chunksA false l)] (.tup [.sl true 1 [], bool false])) :
    PC Tryz.prog 9 [chunkA false c, .sl false 4 (chunksA false l), .val (.int .u8 (N t.toNat))] (bool true) := by
  have k1 : PC Tryz.prog 37 [.sl false 4 [chunkA false c]] (bool true) := hf ▸ few19_c [c] (by simpa using h) (by simp)
  have k2 := few19_c l hs hl
  rw [hf2] at k2
  have k5 : PC Tryz.prog 40 [.sl false 1 (bys []), .sl false 1 (bys [])] (bool true) := same01_c [] [] (by decide)
  refine PC.of_bodyW (by simp only [push_cast]) Tryz.func9 rfl (by rw [Tryz.ntmps9]; simp) ?_
  refine AWp.regionW ?_
  refine AWp.seqK fun K1 hK1 => ?_
  refine AWp.regionM fun K2 hK2 => ?_
  refine ARun2.callM (awake19_c) ?_
  refine ARun2.callM (k1) ?_
  refine ARun2.callM (k2) ?_
  refine ARun2.endm (hK2 _ ?_)
  refine AWp.condF ?_
  refine AWp.skip ?_
  refine hK1 _ ?_
  refine AWp.regionM fun K3 hK3 => ?_
  refine ARun2.callM (k3) ?_
  refine ARun2.endm (hK3 _ ?_)
  refine AWp.regionM fun K4 hK4 => ?_
  refine ARun2.callM (k4) ?_
  refine ARun2.endm (hK4 _ ?_)
  refine AWp.seqK fun K5 hK5 => ?_
  refine AWp.regionM fun K6 hK6 => ?_
  refine ARun2.callM (k5) ?_
  refine ARun2.boolEqM ?_
  refine ARun2.endm (hK6 _ ?_)
  refine AWp.condF ?_
  refine AWp.skip ?_
  refine hK5 _ ?_
  refine AWp.seqK fun K7 hK7 => ?_
  refine AWp.regionW ?_
  refine AWp.condT ?_
  refine AWp.regionW ?_
  refine AWp.ret ?_
  try simp only [thenQ, blockQ, noGo]
  refine bodyQ.m ?_
  clear hK7 K7 hK6 K6 hK5 K5 hK4 K4 hK3 K3 hK2 K2 hK1 K1
  first | done | exact Hand.go
set_option maxHeartbeats 1000000 in
theorem authInputs_yes (c : GChunk) (l : List GChunk) (t : UInt8) (o : List UInt8) (h : Small c) (hs : ∀ c ∈ l, Small c) (hl : l.length ≤ 2 ^ 40) (hf : few19 [c] = true) (hf2 : few19 l = true) (h5 : 5 ≤ c.data.length) (ho : o.length ≤ 2 ^ 40)
    (k3 : PC Tryz.prog 38 [chunkA false c, .sl false 4 (chunksA false l)] (.tup [.sl true 1 (bys o), bool true])) (k4 : PC Tryz.prog 39 [chunkA false c, .sl false 4 (chunksA false l)] (.tup [.sl true 1 (bys o), bool true]))
    (k6 : PC Tryz.prog 38 [chunkA false ⟨15, 0, seedX (c.data.take 4) (c.data.length - 4) t (c.data.length - 4), []⟩, .sl false 4 (chunksA false l)] (.tup [.sl true 1 (bys o), bool true])) :
    PC Tryz.prog 9 [chunkA false c, .sl false 4 (chunksA false l), .val (.int .u8 (N t.toNat))] (bool true) := by
  have k1 : PC Tryz.prog 37 [.sl false 4 [chunkA false c]] (bool true) := hf ▸ few19_c [c] (by simpa using h) (by simp)
  have k2 := few19_c l hs hl
  rw [hf2] at k2
  have k5 := same01_c o o ho
  rw [decide_eq_true rfl] at k5
  have k7 := rblank_o c h5 h.data
  rw [seedX_zero _ _ t] at k7
  have hd4 : (c.data.take 4).length = 4 := by rw [List.length_take]; omega
  have hlen := seedX_len (c.data.take 4) (c.data.length - 4) t
  have hstp := seedX_step (c.data.take 4) (c.data.length - 4) t
  have hdl := h.data
  generalize c.data.take 4 = d4 at k6 k7 hd4 hlen hstp
  obtain ⟨n, hn⟩ : ∃ n, n = c.data.length - 4 := ⟨_, rfl⟩
  rw [← hn] at k6 k7 hlen hstp
  have hnl : n ≤ 2 ^ 26 := by omega
  refine PC.of_bodyW (by simp only [push_cast]) Tryz.func9 rfl (by rw [Tryz.ntmps9]; simp) ?_
  refine AWp.regionW ?_
  refine AWp.seqK fun K1 hK1 => ?_
  refine AWp.regionM fun K2 hK2 => ?_
  refine ARun2.callM (awake19_c) ?_
  refine ARun2.callM (k1) ?_
  refine ARun2.callM (k2) ?_
  refine ARun2.endm (hK2 _ ?_)
  refine AWp.condF ?_
  refine AWp.skip ?_
  refine hK1 _ ?_
  refine AWp.regionM fun K3 hK3 => ?_
  refine ARun2.callM (k3) ?_
  refine ARun2.endm (hK3 _ ?_)
  refine AWp.regionM fun K4 hK4 => ?_
  refine ARun2.callM (k4) ?_
  refine ARun2.endm (hK4 _ ?_)
  refine AWp.seqK fun K5 hK5 => ?_
  refine AWp.regionM fun K6 hK6 => ?_
  refine ARun2.callM (k5) ?_
  refine ARun2.boolEqM ?_
  refine ARun2.endm (hK6 _ ?_)
  refine AWp.condF ?_
  refine AWp.skip ?_
  refine hK5 _ ?_
  refine AWp.seqK fun K7 hK7 => ?_
  refine AWp.regionW ?_
  refine AWp.condF ?_
  refine AWp.skip ?_
  refine hK7 _ ?_
  refine AWp.regionM fun K8 hK8 => ?_
  refine ARun2.callOM [] (k7) ?_
  refine ARun2.endm (hK8 _ ?_)
  refine AWp.seqK fun K9 hK9 => ?_
  refine AWp.regionW ?_
  refine AWp.block ?_
  refine AWp.loopK [1, 2, 7, 11] (fun (i : Nat) => [(12, nat (4 + i))]) (fun i => [.box 37 [u8 c.ty, u8 c.flags, .sl false 1 (bys c.data), .sl false 3 (nodesA false c.kids)], .row 5 1 (bys (seedX d4 n t i)), .box 37 [.val (.int .u8 15), .val (.int .u8 0), .own 1, .val (.slice none 0 0)]]) (fun i => i ≤ n) (fun i => n - i) (0) ?_ (Nat.zero_le _) ?_
  · skip
    refine Le.m 3 ?_ ?_
    · first | with_reducible rfl | (simp only [push_cast, ↓reduceIte, Nat.reduceEqDiff, Nat.reduceLT, Nat.reduceAdd, Nat.reduceSub, Nat.reduceMul, Nat.reduceLeDiff, Nat.reducePow, Int.reduceLT, Int.reduceToNat, reduceCtorEq, Int.reduceNeg, Int.reduceEq, Nat.reduceBEq, Nat.reduceBNe, Int.reduceBEq, Int.reduceBNe, String.reduceEq]; first | done | rfl | (simp (disch := omega) only [w_nat, w_add, w_addl, w_addr, w_sub, w_subl, w_mul, w_mull, w_mulr, w_u32, w_u16, w_u8, w_u32a, N_zero]; first | done | rfl))
    · first | (simp only [push_cast, ↓reduceIte, Nat.reduceEqDiff, Nat.reduceLT, Nat.reduceAdd, Nat.reduceSub, Nat.reduceMul, Nat.reduceLeDiff, Nat.reducePow, Int.reduceLT, Int.reduceToNat, reduceCtorEq, Int.reduceNeg, Int.reduceEq, Nat.reduceBEq, Nat.reduceBNe, Int.reduceBEq, Int.reduceBNe, String.reduceEq]; first | done | rfl | (simp (disch := omega) only [w_nat, w_add, w_addl, w_addr, w_sub, w_subl, w_mul, w_mull, w_mulr, w_u32, w_u16, w_u8, w_u32a, N_zero]; first | done | rfl))
  · intro i hi K10 hK10
    refine AWp.seqK fun K11 hK11 => ?_
    refine AWp.regionW ?_
    refine AWp.condLM (fun c3 => ?_) (fun c3 => ?_)
    · skip
      have hil : i < n := by
        have h1 : 4 + i < (seedX d4 n t i).length := by simpa using c3
        rw [hlen i (by omega), hd4] at h1; omega
      have hli := hlen i (by omega)
      refine AWp.skip ?_
      refine hK11 _ ?_
      refine AWp.seqK fun K12 hK12 => ?_
      refine AWp.block ?_
      refine AWp.regionN fun K13 hK13 => ?_
      refine ARun2.indexOwnM (xs := bys (seedX d4 n t i)) (4 + i) (by rw [bys_len, hli]; omega) ?_
      refine ARun2.storeEM (xs := bys (seedX d4 n t i)) (j := 4 + i) (by rw [bys_len, hli]; omega) ?_
      refine ARun2.endm (hK13 _ ?_)
      refine hK12 _ ?_
      refine AWp.regionV ?_
      refine hK10 _ (i + 1) (by omega) (by omega) ?_
      refine Le.m 3 ?_ ?_
      · try simp only [push_cast, ↓reduceIte, Nat.reduceEqDiff, Nat.reduceLT, Nat.reduceAdd, Nat.reduceSub, Nat.reduceMul, Nat.reduceLeDiff, Nat.reducePow, Int.reduceLT, Int.reduceToNat, reduceCtorEq, Int.reduceNeg, Int.reduceEq, Nat.reduceBEq, Nat.reduceBNe, Int.reduceBEq, Int.reduceBNe, String.reduceEq]
        try simp (disch := omega) only [w_nat, w_add, w_addl, w_addr, w_sub, w_subl, w_mul, w_mull, w_mulr, w_u32, w_u16, w_u8, w_u32a, N_zero]
        first | done | skip
        rw [hstp i hd4 hil]
      · first | (simp only [push_cast, ↓reduceIte, Nat.reduceEqDiff, Nat.reduceLT, Nat.reduceAdd, Nat.reduceSub, Nat.reduceMul, Nat.reduceLeDiff, Nat.reducePow, Int.reduceLT, Int.reduceToNat, reduceCtorEq, Int.reduceNeg, Int.reduceEq, Nat.reduceBEq, Nat.reduceBNe, Int.reduceBEq, Int.reduceBNe, String.reduceEq]; first | done | rfl | (simp (disch := omega) only [w_nat, w_add, w_addl, w_addr, w_sub, w_subl, w_mul, w_mull, w_mulr, w_u32, w_u16, w_u8, w_u32a, N_zero]; first | done | rfl))
    · skip
      have hil : i = n := by
        have h1 : ¬ 4 + i < (seedX d4 n t i).length := by simpa using c3
        rw [hlen i (by omega), hd4] at h1; omega
      subst hil
      refine AWp.exit ?_
      try simp only [thenQ, blockQ, noGo, reduceIte, Nat.reduceEqDiff]
      refine hK9 _ ?_
      refine AWp.pubD 1 ?_
      refine AWp.regionM fun K14 hK14 => ?_
      refine ARun2.callM (k6) ?_
      refine ARun2.endm (hK14 _ ?_)
      refine AWp.regionM fun K15 hK15 => ?_
      refine ARun2.callM (k5) ?_
      refine ARun2.endm (hK15 _ ?_)
      refine AWp.ret ?_
      try simp only [thenQ, blockQ, noGo]
      refine bodyQ.m ?_
      clear hK15 K15 hK14 K14 hK11 K11 hK10 K10 hK9 K9 hK8 K8 hK7 K7 hK6 K6 hK5 K5 hK4 K4 hK3 K3 hK2 K2 hK1 K1
      first | done | exact Hand.go
theorem authInputs_t (c : GChunk) (l : List GChunk) (t : UInt8) (h : Small c) (htc : tysOk c.kids = true) (hs : ∀ c ∈ l, Small c ∧ tysOk c.kids = true) (hl : l.length ≤ 2 ^ 20) : PC Tryz.prog 9 [chunkA false c, .sl false 4 (chunksA false l), .val (.int .u8 (N t.toNat))] (bool true) := by
  have hs1 : ∀ c ∈ l, Small c := fun c hc => (hs c hc).1
  cases hf : few19 [c] && few19 l with
  | false => exact authInputs_big c l t h hs1 (by omega) hf
  | true =>
    simp only [Bool.and_eq_true] at hf
    obtain ⟨hf1, hf2⟩ := hf
    cases hi : isAuth c with
    | false => exact authInputs_off c l t h hs1 (by omega) hf1 hf2 (ainput_no c l h hi) (rinput_no c l h hi)
    | true =>
      have hall : ∀ j (hj : j < l.length), Small l[j] ∧ tysOk l[j].kids = true := fun j hj => hs _ (List.getElem_mem hj)
      have k3 := ainput_yes c l h hi (by omega) hs
      have k4 := rinput_run c (blankC c) l (blankC c :: l) h hi hl rfl hall (rblank_c c h hi) (blank_check h.flags hi) (small_blank h hi) rfl
      cases hm : (inputC (blankC c :: l)).2 with
      | false =>
        have e : inputC (blankC c :: l) = ([], false) := by
          unfold inputC at hm ⊢
          split
          · rename_i h1; rw [if_pos h1] at hm; cases hm
          · rfl
        rw [e] at k3 k4
        exact authInputs_off c l t h hs1 (by omega) hf1 hf2 k3 k4
      | true =>
        have e : inputC (blankC c :: l) = (padsC (blankC c :: l), true) := by
          unfold inputC at hm ⊢
          split
          · rfl
          · rename_i h1; rw [if_neg h1] at hm; cases hm
        have hchk : ∀ x ∈ blankC c :: l, checkC x = 0 := by
          unfold inputC at hm
          split at hm
          · rename_i h1
            intro x hx
            have := List.all_eq_true.1 h1 x hx
            simpa using this
          · cases hm
        have hpl := ainput_len (blankC c :: l) (fun x hx => bytes_small (hchk x hx))
        obtain ⟨l1, l2, l3⟩ := code_len h.flags hi
        have hil : 1 ≤ (List.replicate (codeOf c).length t).length ∧ (List.replicate (codeOf c).length t).length ≤ 65527 := by rw [List.length_replicate]; exact ⟨l1, l2⟩
        obtain ⟨b1, b2, b3⟩ := auth_back (keyOf_lt c) (algOf_lt c) hil.1 hil.2
        have hoi := auth_is (k := keyOf c) (a := algOf c) hil.1 hil.2
        have hos := small_auth (keyOf c) (algOf c) (b := List.replicate (codeOf c).length t) (by rw [List.length_replicate]; omega)
        have hob : blankC (authC (keyOf c) (algOf c) (List.replicate (codeOf c).length t)) = blankC c := by
          unfold blankC; rw [b1, b2, b3, List.length_replicate]
        have k6 := ainput_yes _ l hos hoi (by omega) hs
        rw [hob, e] at k6
        rw [e] at k3 k4
        have hoe : authC (keyOf c) (algOf c) (List.replicate (codeOf c).length t) = ⟨15, 0, seedX (c.data.take 4) (c.data.length - 4) t (c.data.length - 4), []⟩ := by
          have e1 : keyOf c = peekN 2 c.data 0 := if_pos hi
          have e2 : algOf c = peekN 2 c.data 2 := if_pos hi
          unfold authC
          rw [e1, e2, put_peek4 _ (by omega), seedX_full, show (codeOf c).length = c.data.length - 4 by omega]
        rw [hoe] at k6
        exact authInputs_yes c l t _ h hs1 (by omega) hf1 hf2 (by omega) (by show (padsC (blankC c :: l)).length ≤ 2 ^ 40; unfold padsC; simp only [List.length_cons] at hpl; omega) k3 k4 k6
theorem authInputs_n (c : GChunk) (l : List GChunk) (x : Nat) (h : Small c) (htc : tysOk c.kids = true) (hs : ∀ c ∈ l, Small c ∧ tysOk c.kids = true) (hl : l.length ≤ 2 ^ 20) (hx : x < 256) : PC Tryz.prog 9 [chunkA false c, .sl false 4 (chunksA false l), u8 x] (bool true) := by
  have k := authInputs_t c l (UInt8.ofNat x) h htc hs hl
  rw [u8_nat hx] at k
  exact k
theorem mem_sum {l : List GChunk} {c : GChunk} (h : c ∈ l) : chunkSz c ≤ (l.map chunkSz).sum := by
  induction l with
  | nil => cases h
  | cons a l ih =>
    rw [List.map_cons, List.sum_cons]
    rcases List.mem_cons.1 h with rfl | h
    · omega
    · have := ih h; omega
theorem chunks_small {l : List GChunk} (h : ∀ c ∈ l, c.ty < 256 ∧ c.flags < 256 ∧ tysOk c.kids = true) (hn : (l.map chunkSz).sum ≤ 2 ^ 25) : ∀ c ∈ l, Small c ∧ tysOk c.kids = true := by
  intro c hc
  obtain ⟨h1, h2, h3⟩ := h c hc
  have := mem_sum hc
  have h4 : chunkSz c = c.data.length + szs c.kids + 1 := rfl
  rw [h4] at this
  exact ⟨⟨h1, h2, by omega, by omega⟩, h3⟩
theorem chunks_len {l : List GChunk} (hn : (l.map chunkSz).sum ≤ 2 ^ 20) : l.length ≤ 2 ^ 20 := by
  have : l.length ≤ (l.map chunkSz).sum := by
    clear hn
    induction l with
    | nil => simp
    | cons a l ih => rw [List.map_cons, List.sum_cons, List.length_cons]; unfold chunkSz at *; omega
  omega
end Go.Proofs.YtfghmfjbbjapgaaGreatDoor.C
/- What a datum of numbers and texts says of the cells that read as it. -/
set_option linter.unusedVariables false
set_option linter.unusedSimpArgs false
namespace Go.Proofs.YtfghmfjbbjapgaaGreatDoor.C
mutual
def flatD : DataW Unit → List Value
  | .lit (.int k n) => [.int k n]
  | .lit (.string s) => [.string ⟨s.toArray⟩]
  | .agg ps => flatDs ps
  | _ => []
def flatDs : List (DataW Unit) → List Value
  | [] => []
  | d :: r => flatD d ++ flatDs r
end
theorem flatDs_flatMap : ∀ l : List (DataW Unit), flatDs l = l.flatMap flatD
  | [] => rfl
  | d :: r => by rw [flatDs, flatDs_flatMap r, List.flatMap_cons]
section
variable {P : Program} {W : World}
/-- what reads as a datum is its cells -/
def Flat (P : Program) (W : World) (t : TypeId) : Prop := ∀ (fuel : Nat) (cs : List Value) (x : DataW Unit × List MemPlace), DataW.trod (fun _ => ()) P W 0 (fun _ => true) false fuel t cs = some x → cs = flatD x.1
theorem flat_int {t : TypeId} {k : IntKind} (h : P.underlying t = some (.int k)) : Flat P W t := by
  intro fuel cs x hx
  obtain ⟨n, rfl, rfl, _⟩ := DataW.trod_int h hx
  rfl
theorem flat_string {t : TypeId} (h : P.underlying t = some .string) : Flat P W t := by
  intro fuel cs x hx
  obtain ⟨s, rfl, rfl, _⟩ := DataW.trod_string h hx
  simp [flatD]
theorem blocks_flat (f : DataW Unit × List MemPlace → List Value) (m : Nat) : ∀ (xs : List (DataW Unit × List MemPlace)) (cs : List Value), cs.length = xs.length * m → (∀ i x, xs[i]? = some x → (cs.drop (i * m)).take m = f x) → cs = xs.flatMap f
  | [], cs, h, _ => by simpa using h
  | x :: r, cs, h, hk => by
    have h0 := hk 0 x rfl
    rw [Nat.zero_mul, List.drop_zero] at h0
    have ih := blocks_flat f m r (cs.drop m) (by rw [List.length_drop, h, List.length_cons, Nat.succ_mul]; omega) fun i y hy => by
      have := hk (i + 1) y hy
      rwa [Nat.succ_mul, Nat.add_comm, ← List.drop_drop] at this
    rw [List.flatMap_cons, ← h0, ← ih, List.take_append_drop]
theorem flat_of_parts {xs : List (DataW Unit × List MemPlace)} : flatD (.agg (xs.map (·.1))) = xs.flatMap fun x => flatD x.1 := by
  rw [flatD, flatDs_flatMap, List.flatMap_map]
theorem flat_array {t e : TypeId} {n : Nat} (ht : P.underlying t = some (.array n e)) (hc : P.cellsOf t = n * P.cellsOf e) (he : Flat P W e) : Flat P W t := by
  intro fuel cs x hx
  obtain ⟨xs, m, rfl, rfl, hl, hn, hk⟩ := DataW.trod_array ht hx
  show cs = flatD (.agg (xs.map (·.1)))
  rw [flat_of_parts]
  refine blocks_flat _ (P.cellsOf e) xs cs (by rw [hl, hc, hn]) fun i y hy => ?_
  have hi : i < n := by rw [← hn]; exact (List.getElem?_eq_some_iff.1 hy).1
  have := hk i hi
  rw [hy] at this
  exact he _ _ _ this
theorem flat_struct {t : TypeId} {fs : Array Field} (ht : P.underlying t = some (.struct fs)) (hc : P.cellsOf t = fs.size) (hf : ∀ (i : Nat) (f : Field), fs[i]? = some f → f.offset = i ∧ P.cellsOf f.type = 1 ∧ Flat P W f.type) : Flat P W t := by
  intro fuel cs x hx
  obtain ⟨xs, m, rfl, rfl, hl, hn, hk⟩ := DataW.trod_struct ht hx
  show cs = flatD (.agg (xs.map (·.1)))
  rw [flat_of_parts]
  refine blocks_flat _ 1 xs cs (by rw [hl, hc, hn, Nat.mul_one]) fun i y hy => ?_
  have hi : i < fs.size := by rw [← hn]; exact (List.getElem?_eq_some_iff.1 hy).1
  obtain ⟨h1, h2, h3⟩ := hf i fs[i] (Array.getElem?_eq_getElem hi)
  have := hk i fs[i] (Array.getElem?_eq_getElem hi)
  rw [hy, h1, h2] at this
  rw [Nat.mul_one]
  exact h3 _ _ _ this
/-- a listed variable's cells -/
theorem laid_cells {l : List (String × DataW Unit)} (h : laidMet P l W) {n : String} {d : DataW Unit} {g : Nat} {t : TypeId} {L : List Value} (hm : (n, d) ∈ l) (hg : P.globalNamed n = some g) (ht : (P.globals[g]?).map (·.type) = some t) (hf : Flat P W t) (hd : flatD d = L) :
    ∀ (i : Nat) (v : Value), L[i]? = some v → W.cell? ⟨g, i, none⟩ = some v := by
  obtain ⟨ps, hv, _⟩ := h
  have key : ∀ {l : List (String × DataW Unit)} {ps : List MemPlace}, DataW.LaidVars P W l ps → (n, d) ∈ l → ∃ cs fuel p, W.var? P n = some cs ∧ DataW.trod (fun _ => ()) P W 0 (fun _ => true) false fuel t cs.toList = some (d, p) := by
    intro l
    induction l with
    | nil => intro ps _ hm; cases hm
    | cons y r ih =>
      intro ps hv hm
      obtain ⟨g', t', cs, fuel, p, q, h1, h2, h3, h4, h5, _⟩ := hv
      rcases List.mem_cons.1 hm with e | e
      · cases e
        obtain rfl := Option.some.inj (hg.symm.trans h1)
        obtain rfl := Option.some.inj (ht.symm.trans h2)
        exact ⟨cs, fuel, p, h3, h4⟩
      · exact ih h5 e
  obtain ⟨cs, fuel, p, h1, h2⟩ := key hv hm
  have h3 : cs.toList = L := (hf _ _ _ h2).trans hd
  intro i v hi
  rw [World.var?_cell hg h1 i, ← Array.getElem?_toList, h3]
  exact hi
end
end Go.Proofs.YtfghmfjbbjapgaaGreatDoor.C
/- What the rows' list of package-level variables gives: the tables of kinds, the cell of errors.errorType; a world that meets the list. -/
set_option linter.unusedVariables false
set_option linter.unusedSimpArgs false
namespace Go.Proofs.YtfghmfjbbjapgaaGreatDoor.C
open Go.Abs Go.ChangeShapes Go.WideShapes Go.ChangeAt Go.RowKit
def laidL : List (String × DataW Unit) := [("errors.errorType", Rows.laid_errors_errorType), ("wharf/kind.table", Rows.laid_wharf_kind_table), ("wharf/kind.inside", Rows.laid_wharf_kind_inside)]
def etCells : List Value := [.iface 195 (.agg #[.pointer (some ⟨4, 77, none⟩)])]
theorem etG : Tryz.prog.globalNamed "errors.errorType" = some 2 := by kernel_rfl
theorem etRt : (Tryz.prog.cutTypes.find? (·.1 == "internal/reflectlite.rtype")).map (·.2) = some 195 := by kernel_rfl
theorem etRow : ((List.range Tryz.prog.types.size).filter fun t => Tryz.prog.rowNamed t [101, 114, 114, 111, 114]) = [77] := by kernel_rfl
theorem etHandle : typeHandle Tryz.prog 77 = .pointer (some ⟨4, 77, none⟩) := by kernel_rfl
theorem laid_parts {W : World} (h : laidMetH Tryz.prog laidL W) : laidMet Tryz.prog [("wharf/kind.table", Rows.laid_wharf_kind_table), ("wharf/kind.inside", Rows.laid_wharf_kind_inside)] W ∧ handlesMet Tryz.prog [("errors.errorType", Rows.laid_errors_errorType)] W := h
theorem handle_of_laid {W : World} (h : laidMetH Tryz.prog laidL W) : W.cell? ⟨2, 0, none⟩ = some (.iface 195 (.agg #[.pointer (some ⟨4, 77, none⟩)])) := by
  have h' := laid_parts h
  obtain ⟨name, u, ty, e1, e2, e3, e4, e5⟩ := h'.2 _ (List.mem_singleton.2 rfl)
  have en : name = [101, 114, 114, 111, 114] := (Option.some.inj e1).symm
  subst en
  obtain rfl := Option.some.inj (etRt.symm.trans e2)
  have hm : ty ∈ (List.range Tryz.prog.types.size).filter fun t => Tryz.prog.rowNamed t [101, 114, 114, 111, 114] := List.mem_filter.2 ⟨List.mem_range.2 e3, e4⟩
  rw [etRow] at hm
  obtain rfl := List.mem_singleton.1 hm
  rw [etHandle] at e5
  simpa using World.var?_cell etG e5 0
theorem cell_lt {W : World} {b i : Nat} {v : Value} (h : W.cell? ⟨b, i, none⟩ = some v) : b < W.heap.size := by
  rcases Nat.lt_or_ge b W.heap.size with h' | h'
  · exact h'
  · simp [World.cell?, Array.getElem?_eq_none h'] at h
theorem flat_kinds (W : World) : Flat Tryz.prog W 148 := by
  have h1 : Flat Tryz.prog W 5 := flat_int Tryz.underlying5
  have h2 : Flat Tryz.prog W 3 := flat_int Tryz.underlying3
  have h3 : Flat Tryz.prog W 9 := flat_string Tryz.underlying9
  refine flat_array Tryz.underlying148 (by kernel_rfl) (flat_struct Tryz.underlying111 (by kernel_rfl) fun i f hf => ?_)
  match i, hf with
  | 0, hf => simp at hf; subst hf; exact ⟨rfl, by kernel_rfl, h1⟩
  | 1, hf => simp at hf; subst hf; exact ⟨rfl, by kernel_rfl, h3⟩
  | 2, hf => simp at hf; subst hf; exact ⟨rfl, by kernel_rfl, h1⟩
  | 3, hf => simp at hf; subst hf; exact ⟨rfl, by kernel_rfl, h2⟩
  | 4, hf => simp at hf; subst hf; exact ⟨rfl, by kernel_rfl, h2⟩
  | 5, hf => simp at hf; subst hf; exact ⟨rfl, by kernel_rfl, h2⟩
  | 6, hf => simp at hf; subst hf; exact ⟨rfl, by kernel_rfl, h2⟩
  | i + 7, hf => simp at hf
theorem flat_inside (W : World) : Flat Tryz.prog W 151 :=
  flat_array Tryz.underlying151 (by kernel_rfl) (flat_array Tryz.underlying150 (by kernel_rfl) (flat_int Tryz.underlying3))
theorem cells_table {W : World} (h : laidMetH Tryz.prog laidL W) : GlobC W 0 kcells :=
  laid_cells (laid_parts h).1 (.head _) (by kernel_rfl) (by kernel_rfl) (flat_kinds W) (by kernel_rfl)
theorem cells_inside {W : World} (h : laidMetH Tryz.prog laidL W) : GlobC W 1 icells :=
  laid_cells (laid_parts h).1 (.tail _ (.head _)) (by kernel_rfl) (by kernel_rfl) (flat_inside W) (by kernel_rfl)
theorem cells_et {W : World} (h : laidMetH Tryz.prog laidL W) : GlobC W 2 etCells := by
  intro i v hi
  match i with
  | 0 => simp [etCells] at hi; subst hi; exact handle_of_laid h
  | i + 1 => simp [etCells] at hi
theorem glb_eq : glb = [(0, kcells), (1, icells), (2, etCells)] := by kernel_rfl
theorem globs_of_laid {W : World} (h : laidMetH Tryz.prog laidL W) : Globs W (Old W) [] := by
  intro p hp
  rw [glb_eq] at hp
  simp only [List.mem_cons, List.not_mem_nil, or_false] at hp
  rcases hp with rfl | rfl | rfl
  · exact ⟨cell_lt (cells_table h 0 _ rfl), fun v hv => (by cases hv), cells_table h⟩
  · exact ⟨cell_lt (cells_inside h 0 _ rfl), fun v hv => (by cases hv), cells_inside h⟩
  · exact ⟨cell_lt (handle_of_laid h), fun v hv => (by cases hv), cells_et h⟩
def setCells (cs : List Value) : Obj → Obj
  | .cells _ t frozen => .cells cs.toArray t frozen
  | o => o
noncomputable def laidWorld (os : Os) : World :=
  let w0 := World.holding Tryz.prog os ⟨#[], #[], []⟩
  { w0 with heap := ((w0.heap.modify 0 (setCells kcells)).modify 1 (setCells icells)).modify 2 (setCells etCells) }
theorem laid_met (os : Os) (args : Array Value) : laidMetH Tryz.prog laidL ((laidWorld os).forCall (fun _ _ => 0) ⟨#[], args, []⟩).memory :=
  laidMetH_of_parts (laidMet_of_run' 8 (by kernel_rfl) (by kernel_rfl)) (by kernel_rfl)
end Go.Proofs.YtfghmfjbbjapgaaGreatDoor.C
