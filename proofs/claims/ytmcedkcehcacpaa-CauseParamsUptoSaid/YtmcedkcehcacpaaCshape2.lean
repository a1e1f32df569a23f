/- shape: the table of forms. -/
import Derived.Test.YtmcedkcehcacpaaCnode1
set_option linter.unusedVariables false
set_option linter.unusedSimpArgs false
namespace Go.Abs
/-- the parameters' forms: type, name, least, most, unit, kids -/
def paramForms : List ShForm := [⟨0, 1, ⟨#[104, 101, 97, 114, 116, 98, 101, 97, 116, 45, 105, 110, 102, 111]⟩, 0, 65531, 1, 0⟩,
  ⟨0, 5, ⟨#[105, 112, 118, 52]⟩, 4, 4, 1, 0⟩,
  ⟨0, 6, ⟨#[105, 112, 118, 54]⟩, 16, 16, 1, 0⟩,
  ⟨0, 7, ⟨#[115, 116, 97, 116, 101, 45, 99, 111, 111, 107, 105, 101]⟩, 0, 65531, 1, 0⟩,
  ⟨0, 8, ⟨#[117, 110, 114, 101, 99, 111, 103, 110, 105, 122, 101, 100]⟩, 0, 0, 1, 1⟩,
  ⟨0, 9, ⟨#[99, 111, 111, 107, 105, 101, 45, 112, 114, 101, 115, 101, 114, 118, 97, 116, 105, 118, 101]⟩, 4, 4, 1, 0⟩,
  ⟨0, 11, ⟨#[104, 111, 115, 116, 45, 110, 97, 109, 101]⟩, 1, 65531, 1, 0⟩,
  ⟨0, 12, ⟨#[97, 100, 100, 114, 101, 115, 115, 45, 116, 121, 112, 101, 115]⟩, 2, 65531, 2, 0⟩,
  ⟨0, 13, ⟨#[111, 117, 116, 103, 111, 105, 110, 103, 45, 114, 101, 115, 101, 116]⟩, 12, 65531, 2, 0⟩,
  ⟨0, 14, ⟨#[105, 110, 99, 111, 109, 105, 110, 103, 45, 114, 101, 115, 101, 116]⟩, 4, 65531, 2, 0⟩,
  ⟨0, 15, ⟨#[116, 115, 110, 45, 114, 101, 115, 101, 116]⟩, 4, 4, 1, 0⟩,
  ⟨0, 16, ⟨#[114, 101, 99, 111, 110, 102, 105, 103, 45, 114, 101, 115, 112, 111, 110, 115, 101]⟩, 8, 16, 8, 0⟩,
  ⟨0, 17, ⟨#[97, 100, 100, 45, 111, 117, 116, 103, 111, 105, 110, 103]⟩, 8, 8, 1, 0⟩,
  ⟨0, 18, ⟨#[97, 100, 100, 45, 105, 110, 99, 111, 109, 105, 110, 103]⟩, 8, 8, 1, 0⟩,
  ⟨0, 32768, ⟨#[101, 99, 110]⟩, 0, 0, 1, 0⟩,
  ⟨0, 32770, ⟨#[114, 97, 110, 100, 111, 109]⟩, 1, 65531, 1, 0⟩,
  ⟨0, 32771, ⟨#[99, 104, 117, 110, 107, 45, 108, 105, 115, 116]⟩, 0, 65531, 1, 0⟩,
  ⟨0, 32772, ⟨#[104, 109, 97, 99, 45, 97, 108, 103, 111, 114, 105, 116, 104, 109, 115]⟩, 2, 65531, 2, 0⟩,
  ⟨0, 32773, ⟨#[112, 97, 100, 100, 105, 110, 103]⟩, 0, 65531, 1, 0⟩,
  ⟨0, 32776, ⟨#[101, 120, 116, 101, 110, 115, 105, 111, 110, 115]⟩, 0, 65531, 1, 0⟩,
  ⟨0, 49152, ⟨#[102, 111, 114, 119, 97, 114, 100, 45, 116, 115, 110]⟩, 0, 0, 1, 0⟩,
  ⟨0, 49153, ⟨#[97, 100, 100, 45, 105, 112]⟩, 4, 4, 1, 4⟩,
  ⟨0, 49154, ⟨#[100, 101, 108, 101, 116, 101, 45, 105, 112]⟩, 4, 4, 1, 4⟩,
  ⟨0, 49155, ⟨#[101, 114, 114, 111, 114, 45, 105, 110, 100, 105, 99, 97, 116, 105, 111, 110]⟩, 4, 4, 1, 3⟩,
  ⟨0, 49156, ⟨#[115, 101, 116, 45, 112, 114, 105, 109, 97, 114, 121]⟩, 4, 4, 1, 4⟩,
  ⟨0, 49157, ⟨#[115, 117, 99, 99, 101, 115, 115]⟩, 4, 4, 1, 0⟩,
  ⟨0, 49158, ⟨#[97, 100, 97, 112, 116, 97, 116, 105, 111, 110]⟩, 4, 4, 1, 0⟩]
/-- the causes' forms -/
def causeForms : List ShForm := [⟨0, 1, ⟨#[105, 110, 118, 97, 108, 105, 100, 45, 115, 116, 114, 101, 97, 109]⟩, 4, 4, 1, 0⟩,
  ⟨0, 2, ⟨#[109, 105, 115, 115, 105, 110, 103, 45, 112, 97, 114, 97, 109, 101, 116, 101, 114]⟩, 6, 65531, 2, 0⟩,
  ⟨0, 3, ⟨#[115, 116, 97, 108, 101, 45, 99, 111, 111, 107, 105, 101]⟩, 4, 4, 1, 0⟩,
  ⟨0, 4, ⟨#[111, 117, 116, 45, 111, 102, 45, 114, 101, 115, 111, 117, 114, 99, 101]⟩, 0, 0, 1, 0⟩,
  ⟨0, 5, ⟨#[117, 110, 114, 101, 115, 111, 108, 118, 97, 98, 108, 101, 45, 97, 100, 100, 114, 101, 115, 115]⟩, 0, 0, 1, 1⟩,
  ⟨0, 6, ⟨#[117, 110, 114, 101, 99, 111, 103, 110, 105, 122, 101, 100, 45, 99, 104, 117, 110, 107]⟩, 4, 65531, 1, 0⟩,
  ⟨0, 7, ⟨#[105, 110, 118, 97, 108, 105, 100, 45, 112, 97, 114, 97, 109, 101, 116, 101, 114]⟩, 0, 0, 1, 0⟩,
  ⟨0, 8, ⟨#[117, 110, 114, 101, 99, 111, 103, 110, 105, 122, 101, 100, 45, 112, 97, 114, 97, 109, 101, 116, 101, 114, 115]⟩, 0, 0, 1, 2⟩,
  ⟨0, 9, ⟨#[110, 111, 45, 117, 115, 101, 114, 45, 100, 97, 116, 97]⟩, 4, 4, 1, 0⟩,
  ⟨0, 10, ⟨#[99, 111, 111, 107, 105, 101, 45, 119, 104, 105, 108, 101, 45, 115, 104, 117, 116, 116, 105, 110, 103, 45, 100, 111, 119, 110]⟩, 0, 0, 1, 0⟩,
  ⟨0, 11, ⟨#[114, 101, 115, 116, 97, 114, 116]⟩, 0, 0, 1, 2⟩,
  ⟨0, 12, ⟨#[117, 115, 101, 114, 45, 97, 98, 111, 114, 116]⟩, 0, 65531, 1, 0⟩,
  ⟨0, 13, ⟨#[112, 114, 111, 116, 111, 99, 111, 108, 45, 118, 105, 111, 108, 97, 116, 105, 111, 110]⟩, 0, 65531, 1, 0⟩,
  ⟨0, 160, ⟨#[100, 101, 108, 101, 116, 101, 45, 108, 97, 115, 116, 45, 97, 100, 100, 114, 101, 115, 115]⟩, 0, 0, 1, 1⟩,
  ⟨0, 161, ⟨#[114, 101, 115, 111, 117, 114, 99, 101, 45, 115, 104, 111, 114, 116, 97, 103, 101]⟩, 0, 65531, 1, 0⟩,
  ⟨0, 162, ⟨#[100, 101, 108, 101, 116, 101, 45, 115, 111, 117, 114, 99, 101, 45, 97, 100, 100, 114, 101, 115, 115]⟩, 0, 0, 1, 1⟩,
  ⟨0, 163, ⟨#[105, 108, 108, 101, 103, 97, 108, 45, 97, 115, 99, 111, 110, 102, 45, 97, 99, 107]⟩, 0, 65531, 1, 0⟩,
  ⟨0, 164, ⟨#[110, 111, 45, 97, 117, 116, 104, 111, 114, 105, 122, 97, 116, 105, 111, 110]⟩, 0, 65531, 1, 0⟩,
  ⟨0, 261, ⟨#[117, 110, 115, 117, 112, 112, 111, 114, 116, 101, 100, 45, 104, 109, 97, 99]⟩, 2, 2, 1, 0⟩]
def formsN : Nat → List ShForm
  | 1 => paramForms
  | 2 => causeForms
  | _ => []
def formsA (l : List ShForm) : List AV := l.map formA
@[push_cast] theorem formsA_len (l : List ShForm) : (formsA l).length = l.length := by simp [formsA]
theorem formsA_at (l : List ShForm) (i : Nat) (h : i < l.length) : (formsA l)[i]? = some (formA l[i]) := by simp [formsA, h]
@[push_cast] theorem formsA_ids (p : Nat → Bool) (l : List ShForm) : AV.idsOkL p (formsA l) = true := by
  rw [AV.idsOkL_iff]; intro x hx; simp only [formsA, List.mem_map] at hx; obtain ⟨f, _, rfl⟩ := hx; rfl
@[push_cast] theorem formsA_hand (ids : List Nat) (l : List ShForm) : AV.handL ids (formsA l) = formsA l := by
  rw [AV.handL_map, formsA, List.map_map]; rfl

/-- a form as a value -/
def formV (c : Nat) (f : ShForm) : Value := .agg #[.int .i64 (N c), .int .u16 (N f.ty), .string f.name, .int .i64 (N f.least), .int .i64 (N f.most), .int .i64 (N f.unit), .int .i64 (N f.kids)]
def entryV (c : Nat) (f : ShForm) : Value × Value := (.int .u16 (N f.ty), formV c f)
def zeroForm : ShForm := ⟨0, 0, ⟨#[]⟩, 0, 0, 0, 0⟩
/-- the form of a type; a zero form if there is none -/
def shapeOf (c t : Nat) : ShForm := (((formsN c).find? fun f => f.ty == t).map fun f => { f with cls := c }).getD zeroForm
def shapeHas (c t : Nat) : Bool := ((formsN c).find? fun f => f.ty == t).isSome

theorem ofV_formV (c : Nat) (f : ShForm) : ofV (formV c f) = formA { f with cls := c } := rfl
theorem mpFree_entries (c n : Nat) : ∀ l : List ShForm, (∀ f ∈ l, f.ty ≠ n) → mpFree .u16 (N n) (l.map (entryV c)) = true
  | [], _ => rfl
  | f :: l, h => by
    simp only [List.map_cons, entryV, mpFree, Bool.and_eq_true, decide_eq_true_eq]
    refine ⟨⟨trivial, ?_⟩, mpFree_entries c n l fun g hg => h g (by simp [hg])⟩
    rw [ne_eq, N_inj]; exact h f (by simp)
theorem mpFind_entries (c n : Nat) : ∀ l : List ShForm, mpFind .u16 (N n) (l.map (entryV c)) = some ((l.find? fun f => f.ty == n).map (formV c))
  | [] => rfl
  | f :: l => by
    simp only [List.map_cons, entryV, mpFind, if_true, N_inj, List.find?_cons]
    by_cases h : f.ty = n
    · simp [h]
    · have h' : (f.ty == n) = false := by simpa using h
      simp only [h, if_false, h', mpFind_entries c n l]
theorem forms_nodup (c : Nat) : ((formsN c).map (·.ty)).Nodup := by
  match c with
  | 0 => decide
  | 1 => decide
  | 2 => decide
  | _ + 3 => exact List.nodup_nil
theorem forms_free (c i : Nat) (h : i < (formsN c).length) : ∀ f ∈ (formsN c).take i, f.ty ≠ (formsN c)[i].ty := by
  intro f hf he
  have hn := forms_nodup c
  obtain ⟨j, hj, rfl⟩ := List.getElem_of_mem hf
  rw [List.length_take] at hj
  rw [List.getElem_take] at he
  have h1 : j = i := (List.getElem_inj (xs := (formsN c).map (·.ty)) (i := j) (j := i) (h₀ := by simp; omega) (h₁ := by simpa using h) hn).1 (by simpa using he)
  omega
end Go.Abs
namespace Go.Proofs.Ytmcedkcehcacpaa.C
open Go.Abs
set_option maxRecDepth 100000 in
set_option maxHeartbeats 1000000 in
theorem table_c : PC Try.prog 66 [] (.agg [.val (.slice none 0 0), .sl false 7 (formsA paramForms), .sl false 7 (formsA causeForms)]) := by
  refine PC.of_bodyW (by simp only [push_cast]) Try.func66 rfl (by rw [Try.ntmps66]; simp) ?_
  refine AWp.regionW ?_
  refine AWp.regionW ?_
  refine AWp.ret ?_
  try simp only [thenQ, blockQ]
  refine bodyQ.m ?_
  simp only [formsA, paramForms, causeForms, List.map_cons, List.map_nil]
  first | done | exact Hand.go

theorem forms_c (c : Nat) (hc : c = 1 ∨ c = 2) : OC Try.prog 62 [nat c] [] (.own 0) [.mp ((formsN c).map (entryV c))] := by
  have hc3 : c < 3 := by omega
  have hl : (formsN c).length < 2 ^ 60 := by rcases hc with rfl | rfl <;> decide
  refine OC.of_body [0] (by intro k hk; simp at hk) Try.func62 rfl (by rw [Try.ntmps62]; simp) ?_
  refine AWp.regionW ?_
  refine AWp.regionM fun K1 hK1 => ?_
  refine ARun2.makeMapM ?_
  refine ARun2.endm (hK1 _ ?_)
  refine AWp.seqK fun K2 hK2 => ?_
  refine AWp.regionM fun K3 hK3 => ?_
  refine ARun2.callM (table_c) ?_
  refine ARun2.endm (hK3 _ ?_)
  refine AWp.condF ?_ (by simp only [push_cast, reduceIte, Nat.reduceEqDiff, Nat.reduceLT, Nat.reduceAdd, Nat.reduceSub, Nat.reduceMul, Nat.reduceLeDiff, Nat.reducePow, Int.reduceLT, Int.reduceToNat, reduceCtorEq, Int.reduceNeg, Int.reduceEq, Nat.reduceBEq, Nat.reduceBNe, Int.reduceBEq, Int.reduceBNe, String.reduceEq]; rw [decide_eq_false (by omega)])
  refine AWp.skip ?_
  refine hK2 _ ?_
  refine AWp.seqK fun K4 hK4 => ?_
  refine AWp.regionM fun K5 hK5 => ?_
  refine ARun2.callM (table_c) ?_
  refine ARun2.aindexM (c) (.sl false 7 (formsA (formsN c))) ?_ ?_
  · rw [Ytmcedkcehcacpaa.Facts.tk107]; rcases hc with rfl | rfl <;> rfl
  refine ARun2.endm (hK5 _ ?_)
  refine AWp.block ?_
  refine AWp.loopK [0, 3, 18, 19] (fun (i : Nat) => [(20, nat i)]) (fun i => [.mp (((formsN c).take i).map (entryV c))]) (fun i => i ≤ (formsN c).length) (fun i => (formsN c).length - i) (0) ?_ (Nat.zero_le _) ?_
  · skip
    refine Le.m 1 ?_ ?_
    · first | with_reducible rfl | (simp only [push_cast, reduceIte, Nat.reduceEqDiff, Nat.reduceLT, Nat.reduceAdd, Nat.reduceSub, Nat.reduceMul, Nat.reduceLeDiff, Nat.reducePow, Int.reduceLT, Int.reduceToNat, reduceCtorEq, Int.reduceNeg, Int.reduceEq, Nat.reduceBEq, Nat.reduceBNe, Int.reduceBEq, Int.reduceBNe, String.reduceEq]; first | done | rfl | (simp (disch := omega) only [w_nat, w_add, w_addl, w_addr, w_sub, w_subl, w_mul, w_mull, w_mulr, w_u32, w_u16, w_u8, w_u32a, N_zero]; first | done | rfl))
    · first | (simp only [push_cast, reduceIte, Nat.reduceEqDiff, Nat.reduceLT, Nat.reduceAdd, Nat.reduceSub, Nat.reduceMul, Nat.reduceLeDiff, Nat.reducePow, Int.reduceLT, Int.reduceToNat, reduceCtorEq, Int.reduceNeg, Int.reduceEq, Nat.reduceBEq, Nat.reduceBNe, Int.reduceBEq, Int.reduceBNe, String.reduceEq]; first | done | rfl | (simp (disch := omega) only [w_nat, w_add, w_addl, w_addr, w_sub, w_subl, w_mul, w_mull, w_mulr, w_u32, w_u16, w_u8, w_u32a, N_zero]; first | done | rfl))
  · intro i hi K6 hK6
    refine AWp.regionW ?_
    refine AWp.seqK fun K7 hK7 => ?_
    refine AWp.condLM (fun c1 => ?_) (fun c1 => ?_)
    · skip
      have hil : i < (formsN c).length := by simpa using c1
      refine AWp.skip ?_
      refine hK7 _ ?_
      refine AWp.seqK fun K8 hK8 => ?_
      refine AWp.block ?_
      refine AWp.regionM fun K9 hK9 => ?_
      refine ARun2.indexM (i) (formA (formsN c)[i]) ?_ ?_
      · exact formsA_at _ _ hil
      refine ARun2.endm (hK9 _ ?_)
      refine AWp.regionW ?_
      refine AWp.regionN fun K10 hK10 => ?_
      refine ARun2.mapUpdateM ?_ ?_
      · exact mpFree_entries c _ _ (forms_free c i hil)
      refine ARun2.endm (hK10 _ ?_)
      refine hK8 _ ?_
      refine AWp.regionV ?_
      refine hK6 _ (i + 1) (by omega) (by omega) ?_
      refine Le.m 1 ?_ ?_
      · try simp only [push_cast, reduceIte, Nat.reduceEqDiff, Nat.reduceLT, Nat.reduceAdd, Nat.reduceSub, Nat.reduceMul, Nat.reduceLeDiff, Nat.reducePow, Int.reduceLT, Int.reduceToNat, reduceCtorEq, Int.reduceNeg, Int.reduceEq, Nat.reduceBEq, Nat.reduceBNe, Int.reduceBEq, Int.reduceBNe, String.reduceEq]
        try simp (disch := omega) only [w_nat, w_add, w_addl, w_addr, w_sub, w_subl, w_mul, w_mull, w_mulr, w_u32, w_u16, w_u8, w_u32a, N_zero]
        first | done | skip
        rw [List.take_succ_eq_append_getElem hil, List.map_append]; rfl
      · first | (simp only [push_cast, reduceIte, Nat.reduceEqDiff, Nat.reduceLT, Nat.reduceAdd, Nat.reduceSub, Nat.reduceMul, Nat.reduceLeDiff, Nat.reducePow, Int.reduceLT, Int.reduceToNat, reduceCtorEq, Int.reduceNeg, Int.reduceEq, Nat.reduceBEq, Nat.reduceBNe, Int.reduceBEq, Int.reduceBNe, String.reduceEq]; first | done | rfl | (simp (disch := omega) only [w_nat, w_add, w_addl, w_addr, w_sub, w_subl, w_mul, w_mull, w_mulr, w_u32, w_u16, w_u8, w_u32a, N_zero]; first | done | rfl))
    · skip
      have hil : i = (formsN c).length := by simp at c1; omega
      refine AWp.exit ?_
      simp only [thenQ, blockQ, reduceIte, Nat.reduceEqDiff]
      refine hK4 _ ?_
      refine AWp.regionW ?_
      refine AWp.ret ?_
      try simp only [thenQ, blockQ]
      refine bodyQ.m ?_
      clear hK7 K7 hK6 K6 hK5 K5 hK4 K4 hK3 K3 hK2 K2 hK1 K1
      refine endO.m ?_ ?_
      · rw [hil, List.take_length]
      · skip
        first | done | exact Hand.go

theorem of_c (c t : Nat) (hc : c = 1 ∨ c = 2) : PC Try.prog 55 [nat c, u16 t] (.tup [formA (shapeOf c t), bool (shapeHas c t)]) := by
  refine PC.of_bodyW (by simp only [push_cast]) Try.func55 rfl (by rw [Try.ntmps55]; simp) ?_
  refine AWp.regionW ?_
  refine AWp.regionM fun K1 hK1 => ?_
  refine ARun2.callOM [] (forms_c c hc) ?_
  refine ARun2.lookupM (((formsN c).find? fun f => f.ty == t).map (formV c)) (formA (shapeOf c t)) ?_ ?_ ?_
  · exact mpFind_entries c t _
  · simp only [shapeOf]; cases (formsN c).find? (fun f => f.ty == t) <;> rfl
  refine ARun2.endm (hK1 _ ?_)
  refine AWp.regionW ?_
  refine AWp.ret ?_
  try simp only [thenQ, blockQ]
  refine bodyQ.m ?_
  clear hK1 K1
  simp only [shapeHas, Option.isSome_map]
  first | done | exact Hand.go
end Go.Proofs.Ytmcedkcehcacpaa.C
