/- Nodes, read. -/
import Derived.Test.YtmcedkcehcacpaaRows
import Derived.Test.YtmcedkcehcacpaaCnode4
import Derived.Test.YtmcedkcehcacpaaAbs27
import Derived.Deep.Strs
set_option linter.unusedVariables false
set_option linter.unusedSimpArgs false
namespace Go.Proofs.Ytmcedkcehcacpaa.C
open Go.Abs Go.ChangeShapes Go.WideShapes Go.ChangeAt Go.RowKit

theorem own : ownKnob Try.prog.godebug = none := by kernel_rfl
theorem laidOut : laidOutB Try.prog = true := by kernel_rfl
theorem nat_of {n : Int} {m : Nat} (h : 0 ≤ n ∧ n ≤ m) : ∃ x : Nat, n = N x ∧ x < m + 1 := ⟨n.toNat, by unfold N; omega, by omega⟩
theorem u8_of {n : Int} (h : (Lit.int .u8 n).wf = true) : ∃ m : Nat, n = N m ∧ m < 2 ^ 8 := nat_of (m := 255) (by simpa [Lit.wf, IntKind.min, IntKind.max, IntKind.signed, IntKind.bits] using h)
theorem u16_of {n : Int} (h : (Lit.int .u16 n).wf = true) : ∃ m : Nat, n = N m ∧ m < 2 ^ 16 := nat_of (m := 65535) (by simpa [Lit.wf, IntKind.min, IntKind.max, IntKind.signed, IntKind.bits] using h)
theorem u32_of {n : Int} (h : (Lit.int .u32 n).wf = true) : ∃ m : Nat, n = N m ∧ m < 2 ^ 32 := nat_of (m := 4294967295) (by simpa [Lit.wf, IntKind.min, IntKind.max, IntKind.signed, IntKind.bits] using h)
theorem int_bounds {k : IntKind} {n : Int} (h : (Lit.int k n).wf = true) : k.min ≤ n ∧ n ≤ k.max := by simpa [Lit.wf] using h
theorem bys_of {zs : List Int} (h : ∀ n ∈ zs, (Lit.int .u8 n).wf = true) : (zs.map fun n => AV.val (.int .u8 n)) = bys (zs.map fun n => UInt8.ofNat n.toNat) := by
  unfold bys
  rw [List.map_map]
  refine List.map_congr_left fun n hn => ?_
  have h2 : 0 ≤ n ∧ n ≤ 255 := by simpa [Lit.wf, IntKind.min, IntKind.max, IntKind.signed, IntKind.bits] using h n hn
  have h3 : N (UInt8.ofNat n.toNat).toNat = n := by
    rw [UInt8.toNat_ofNat']; unfold N; omega
  show AV.val (.int .u8 n) = .val (.int .u8 (N (UInt8.ofNat n.toNat).toNat))
  rw [h3]

theorem bulk_one {H : Type} (d : DataW H) : 1 ≤ Rows.uptoBulk d := by
  cases d with
  | lit l => cases l <;> simp [Rows.uptoBulk]
  | _ => simp [Rows.uptoBulk]
theorem bulk_len {H : Type} : ∀ l : List (DataW H), l.length ≤ Rows.uptoBulkAll l
  | [] => by simp [Rows.uptoBulkAll]
  | x :: r => by
    have h1 := bulk_one x
    have h2 := bulk_len r
    simp only [Rows.uptoBulkAll, List.length_cons]; omega
theorem bulk_lits' {H : Type} (k : IntKind) (zs : List Int) (rest : List (DataW H)) : zs.length + 1 ≤ Rows.uptoBulk (.slice (lits k zs) rest : DataW H) := by
  have := bulk_len (lits k zs : List (DataW H))
  simp only [lits, List.length_map] at this
  simp only [Rows.uptoBulk, lits]
  omega

theorem one_cell_of {cs : List Value} (h : cs.length = 1) : ∃ v, cs = [v] := by
  match cs, h with
  | [v], _ => exact ⟨v, rfl⟩

section
variable {H : Type} {enc : TypeId × Value → H} {W : World}

/-- bytes -/
theorem rel_bytes0 {v : Value} {d : DataW H} {ps : List MemPlace} {fuel : Nat} (hf : DataW.trod enc Try.prog W 0 (fun _ => true) true fuel 25 [v] = some (d, ps)) :
    ∃ l : List UInt8, Rel W (Old W) W.heap.size [] (.sl false 1 (bys l)) v ∧ l.length ≤ Rows.uptoBulk d := by
  have hc : Try.prog.cellsOf 5 = 1 := by kernel_rfl
  obtain ⟨zs, k0, k1, k2⟩ := rel_ints0 Try.underlying25 Try.underlying5 hc hf
  rw [bys_of k1] at k0
  refine ⟨_, k0, ?_⟩
  rw [List.length_map]
  rcases k2 with ⟨_, rfl⟩ | ⟨rest, rfl⟩
  · simp
  · have := bulk_lits' .u8 zs rest; omega

theorem nodeA_one (n : GNode) : ∀ c ∈ (nodeA false n).cells, c.one = true := by
  rw [nodeA_eq]; simp [AV.cells, AV.one, Value.oneCell']

theorem node_fields : ∃ f0 f1 f2 : Field, Try.prog.underlying 28 = some (.struct #[f0, f1, f2]) ∧ f0.type = 22 ∧ f0.offset = 0 ∧ f1.type = 25 ∧ f1.offset = 1 ∧ f2.type = 26 ∧ f2.offset = 2 :=
  ⟨_, _, _, Try.underlying28, rfl, rfl, rfl, rfl, rfl, rfl⟩

set_option maxRecDepth 100000 in
theorem rel_node0 : ∀ (fuel : Nat),
    (∀ (cs : List Value) (d : DataW H) (ps : List MemPlace), DataW.trod enc Try.prog W 0 (fun _ => true) true fuel 28 cs = some (d, ps) → ∃ n : GNode, RelL W (Old W) W.heap.size [] (nodeA false n).cells cs ∧ n.sz ≤ Rows.uptoBulk d) ∧
    (∀ (v : Value) (d : DataW H) (ps : List MemPlace), DataW.trod enc Try.prog W 0 (fun _ => true) true fuel 26 [v] = some (d, ps) → ∃ l : List GNode, Rel W (Old W) W.heap.size [] (.sl false 3 (nodesA false l)) v ∧ szs l ≤ Rows.uptoBulk d) := by
  have c16 : Try.prog.cellsOf 22 = 1 := by kernel_rfl
  have c8 : Try.prog.cellsOf 25 = 1 := by kernel_rfl
  have cn : Try.prog.cellsOf 26 = 1 := by kernel_rfl
  have c3 : Try.prog.cellsOf 28 = 3 := by kernel_rfl
  intro fuel
  induction fuel with
  | zero => exact ⟨fun cs d ps h => by simp [DataW.trod] at h, fun v d ps h => by simp [DataW.trod] at h⟩
  | succ fuel ih =>
    refine ⟨?_, ?_⟩
    · intro cs d ps h
      obtain ⟨f0, f1, f2, hs, a0, b0, a1, b1, a2, b2⟩ := node_fields
      obtain ⟨xs, m, hm, hx, hl, hlen, hall⟩ := DataW.trod_struct hs h
      have hm' : m = fuel := by omega
      subst hm'
      have e0 := hall 0 f0 rfl
      have e1 := hall 1 f1 rfl
      have e2 := hall 2 f2 rfl
      rw [a0, b0, c16] at e0
      rw [a1, b1, c8] at e1
      rw [a2, b2, cn] at e2
      rw [c3] at hl
      match xs, hlen, cs, hl with
      | [y0, y1, y2], _, [v0, v1, v2], _ =>
        simp only [List.drop_zero, List.take_succ_cons, List.take_zero, List.drop_succ_cons, List.getElem?_cons_zero, List.getElem?_cons_succ] at e0 e1 e2
        obtain ⟨n0, h0, hy0, hw0⟩ := DataW.trod_int Try.underlying22 e0
        obtain ⟨l1, r1, s1⟩ := rel_bytes0 (d := y1.1) (ps := y1.2) e1
        obtain ⟨l2, r2, s2⟩ := ih.2 v2 y2.1 y2.2 e2
        have hb := int_bounds hw0
        have hn : N n0.toNat = n0 := by
          have : (0 : Int) ≤ n0 := hb.1
          unfold N; omega
        refine ⟨.mk n0.toNat l1 l2, ?_, ?_⟩
        · rw [nodeA_eq]
          simp only [List.cons.injEq, and_true] at h0
          subst h0
          have := Rel.val (w := W) (B := Old W) (bs := W.heap.size) (ρ := []) (.int .u16 (N n0.toNat))
          rw [hn] at this
          exact .cons (by show Rel _ _ _ _ (.val (.int .u16 (N n0.toNat))) _; rw [hn]; exact this) (.cons r1 (.cons r2 .nil))
        · have hd : d = .agg [y0.1, y1.1, y2.1] := congrArg Prod.fst hx
          rw [hd]
          have := bulk_one y0.1
          simp only [GNode.sz, Rows.uptoBulk, Rows.uptoBulkAll]
          omega
    · intro v d ps h
      rcases DataW.trod_slice Try.underlying26 h with ⟨h1, h2⟩ | ⟨a, len, cap, elems, rest, m, hm, h1, h2, _, hlc, hcm, hlen, hel, _, _⟩
      · simp only [List.cons.injEq, and_true] at h1
        subst h1
        refine ⟨[], by simpa [nodesA] using Rel.slE false 3 none 0, by simp [szs]⟩
      · have hm' : m = fuel := by omega
        subst hm'
        simp only [List.cons.injEq, and_true] at h1
        subst h1
        rw [c3] at hel
        -- every element is a node
        have each : ∀ i (hi : i < elems.length), ∃ (n : GNode) (cs : List Value), cs.length = 3 ∧ (∀ j, j < 3 → W.cell? ((a.add (i * 3)).add j) = cs[j]?) ∧ RelL W (Old W) W.heap.size [] (nodeA false n).cells cs ∧ n.sz ≤ Rows.uptoBulk elems[i].1 := by
          intro i hi
          have hk := hel i (by omega)
          rw [List.getElem?_eq_getElem hi] at hk
          obtain ⟨cs, hcs, hy⟩ := Option.bind_eq_some_iff.1 hk
          obtain ⟨_, hl3, hcell⟩ := World.cells?_some hcs
          obtain ⟨n, r, s⟩ := ih.1 cs elems[i].1 elems[i].2 hy
          exact ⟨n, cs, hl3, hcell, r, s⟩
        cases hq : elems with
        | nil =>
          rw [hq] at hlen
          simp at hlen
          subst hlen
          exact ⟨[], by simpa [nodesA] using Rel.slE false 3 (some a) cap, by simp [szs]⟩
        | cons x r =>
          have hpos : 0 < elems.length := by rw [hq]; simp
          obtain ⟨n0, cs0, hl0, hc0, _, _⟩ := each 0 hpos
          have hcell0 := hc0 0 (by omega)
          simp only [Nat.zero_mul] at hcell0
          rw [List.getElem?_eq_getElem (by omega)] at hcell0
          have hsp : a.spot = none := addr_of_cell (show W.cell? a = _ from hcell0)
          obtain ⟨b, o, sp⟩ := a
          simp only at hsp
          subst hsp
          have hblk : b < W.heap.size := by
            have := World.block_lt_of_cell? W _ hcell0
            simpa [Addr.add] using this
          have rows : ∀ k, k ≤ elems.length → ∃ l : List GNode, l.length = k ∧ RelRow W (Old W) W.heap.size [] false b 3 (o + (elems.length - k) * 3) (nodesA false l) ∧ szs l ≤ Rows.uptoBulkAll ((elems.drop (elems.length - k)).map (·.1)) := by
            intro k
            induction k with
            | zero => exact fun _ => ⟨[], rfl, by simpa [nodesA] using RelRow.nil, by simp [szs]⟩
            | succ k ihk =>
              intro hk
              obtain ⟨l, p1, p2, p3⟩ := ihk (by omega)
              have hi : elems.length - (k + 1) < elems.length := by omega
              obtain ⟨n, cs, q1, q2, q3, q4⟩ := each _ hi
              have hd : elems.drop (elems.length - (k + 1)) = elems[elems.length - (k + 1)] :: elems.drop (elems.length - k) := by
                rw [List.drop_eq_getElem_cons hi, show elems.length - (k + 1) + 1 = elems.length - k by omega]
              refine ⟨n :: l, by simp [p1], ?_, ?_⟩
              · rw [nodesA_cons]
                refine .cons (RelCells.mk (B := Old W) (bs := W.heap.size) (nw := false) hblk (fun h => by cases h) q3 (nodeA_one n) ?_) (by rw [nodeA_eq]; rfl) ?_
                · intro j v hj
                  have hj3 : j < 3 := by rw [← q1]; exact (List.getElem?_eq_some_iff.1 hj).1
                  have := q2 j hj3
                  rw [addr_add, addr_add] at this
                  rw [this, hj]
                · have e : o + (elems.length - (k + 1)) * 3 + 3 = o + (elems.length - k) * 3 := by omega
                  rw [e]; exact p2
              · rw [hd]
                simp only [szs, List.map_cons, Rows.uptoBulkAll]
                omega
          obtain ⟨l, p1, p2, p3⟩ := rows elems.length (Nat.le_refl _)
          rw [Nat.sub_self] at p2 p3
          have hd : d = .slice (elems.map (·.1)) (rest.map (·.1)) := congrArg Prod.fst h2
          refine ⟨l, ?_, ?_⟩
          · match l, p1 with
            | n :: l, p1 =>
              rw [nodesA_cons] at p2 ⊢
              have := Rel.sl (cap := cap) (by simpa using p2) (by rw [nodesA_len]; simp at p1; omega)
              rw [nodesA_len] at this
              have e : l.length + 1 = len := by simp at p1; omega
              rw [e] at this
              exact this
            | [], p1 => simp at p1; omega
          · rw [hd]
            simp only [Rows.uptoBulk, List.drop_zero] at *
            omega

set_option maxRecDepth 100000 in
/-- a node, read -/
theorem rel_node {r : Reach} {b0 : Nat} {v : Value} {d : DataW H} {ps : List MemPlace} (hval : Value.okWide Try.prog W r b0 28 v) (hd : DataW.Trod enc Try.prog W 0 (fun _ => true) true 28 v d ps) :
    ∃ n : GNode, Rel W (Old W) W.heap.size [] (nodeA false n) v ∧ n.sz ≤ Rows.uptoBulk d := by
  obtain ⟨f0, f1, f2, hs, _⟩ := node_fields
  obtain ⟨cs, rfl, _⟩ := okWide_struct hs hval
  obtain ⟨fuel, hf⟩ := hd
  obtain ⟨n, h1, h2⟩ := (rel_node0 fuel).1 _ d ps hf
  refine ⟨n, ?_, h2⟩
  have := Rel.agg h1
  rw [nodeA_eq] at this ⊢
  simpa [AV.cells, Value.cells] using this
set_option maxRecDepth 100000 in
/-- nodes, read -/
theorem rel_nodes {r : Reach} {b0 : Nat} {v : Value} {d : DataW H} {ps : List MemPlace} (hval : Value.okWide Try.prog W r b0 26 v) (hd : DataW.Trod enc Try.prog W 0 (fun _ => true) true 26 v d ps) :
    ∃ l : List GNode, Rel W (Old W) W.heap.size [] (.sl false 3 (nodesA false l)) v ∧ szs l ≤ Rows.uptoBulk d := by
  obtain ⟨A, len0, cap0, rfl⟩ := okWide_slice Try.underlying26 hval
  obtain ⟨fuel, hf⟩ := hd
  exact (rel_node0 fuel).2 _ d ps hf
set_option maxRecDepth 100000 in
/-- bytes, read -/
theorem rel_bytes {r : Reach} {b0 : Nat} {v : Value} {d : DataW H} {ps : List MemPlace} (hval : Value.okWide Try.prog W r b0 25 v) (hd : DataW.Trod enc Try.prog W 0 (fun _ => true) true 25 v d ps) :
    ∃ l : List UInt8, Rel W (Old W) W.heap.size [] (.sl false 1 (bys l)) v ∧ l.length ≤ Rows.uptoBulk d := by
  obtain ⟨A, len0, cap0, rfl⟩ := okWide_slice Try.underlying25 hval
  obtain ⟨fuel, hf⟩ := hd
  exact rel_bytes0 hf
end
end Go.Proofs.Ytmcedkcehcacpaa.C
