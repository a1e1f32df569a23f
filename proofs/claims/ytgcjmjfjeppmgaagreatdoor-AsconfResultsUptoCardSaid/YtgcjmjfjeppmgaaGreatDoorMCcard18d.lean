/- AsconfResults: the statement. No condition. -/
import Derived.Test.YtgcjmjfjeppmgaaGreatDoorM5
set_option linter.unusedVariables false
set_option linter.unusedSimpArgs false
namespace Go.Proofs.YtgcjmjfjeppmgaaGreatDoor.C
open Go.Abs Go.ChangeShapes Go.WideShapes Go.ChangeAt Go.RowKit
set_option maxRecDepth 100000 in
theorem asconfResults_contract (H : Type) (enc : TypeId × Value → H) (W : World) (base : Nat) (args : Array Value) (ds gs : List (DataW H)) (before : List MemPlace)
    (hval : ∀ (j : Nat) t v, Tryz.f8.params[j]? = some t → args[j]? = some v → Value.okWide Tryz.prog W .any base t v)
    (hW : DataW.Whole enc Tryz.prog Tryz.f8.params.toList Rows.asconfResultsSpec.vars false W args.toList ds gs before) (hk : Rows.uptoSmall H (ds ++ gs) = true) (hL : laidMetH Tryz.prog Rows.asconfResultsUptoRow.laid W) :
    Calls Tryz.prog 8 args W fun e W' => ∃ v, e = .returned v ∧ Rows.asconfResultsSpec.post enc Tryz.prog Tryz.f8 false true false false W args v W' := by
  have hW' := hW
  obtain ⟨p, q, hA0, hV, rfl, hfz, hnd⟩ := hW
  have hA : DataW.TrodAll enc Tryz.prog W 0 (fun _ => true) true Tryz.f8.params.toList args.toList ds p := hA0
  rw [Tryz.params8] at hA hval
  obtain ⟨v0, vs0, d0, ds0, p0, q0, hargs, rfl, rfl, h0, r0⟩ := trodAll_cons hA
  obtain ⟨v1, vs1, d1, ds1, p1, q1, rfl, rfl, rfl, h1, r1⟩ := trodAll_cons r0
  obtain ⟨rfl, rfl, rfl⟩ := trodAll_nil r1
  obtain rfl : args = #[v0, v1] := by cases args; simp_all
  obtain ⟨rfl, rfl⟩ := trodVars_none hV
  obtain ⟨x0, k0, c0, b0⟩ := rel_chunk (hval 0 31 v0 (by simp) (by simp)) h0
  obtain ⟨x1, k1, c1, b1⟩ := rel_chunk (hval 1 31 v1 (by simp) (by simp)) h1
  have hbulk := of_decide_eq_true hk
  simp only [List.append_nil, Rows.uptoBulkAll] at hbulk
  have hc := PC.answers (W := W) (args := #[v0, v1]) ((asconfResults_c x0 x1 ⟨c0.1, c0.2.1, by omega, by omega⟩ ⟨c1.1, c1.2.1, by omega, by omega⟩)) (globs_of_laid hL) (.cons k0 (.cons k1 .nil))
  refine hc.mono fun e W' ⟨he, hB⟩ => ⟨_, he, ?_⟩
  exact post_true (tb := 4) hW' rfl rfl (by kernel_rfl) Tryz.underlying4 laidOut (by kernel_rfl) hB
theorem asconfResults_reads (os : Os) {H : Type} (enc : TypeId × Value → H) : ∃ places, DataW.whole enc Tryz.prog ((laidWorld os).forCall (fun _ _ => 0) ⟨#[], #[(.agg #[.int .u8 0, .int .u8 0, .slice none 0 0, .slice none 0 0]), (.agg #[.int .u8 0, .int .u8 0, .slice none 0 0, .slice none 0 0])], []⟩).memory Tryz.f8.params.toList Rows.asconfResultsSpec.vars false #[(.agg #[.int .u8 0, .int .u8 0, .slice none 0 0, .slice none 0 0]), (.agg #[.int .u8 0, .int .u8 0, .slice none 0 0, .slice none 0 0])].toList 8 = some ([.agg [.lit (.int .u8 0), .lit (.int .u8 0), .nil, .nil], .agg [.lit (.int .u8 0), .lit (.int .u8 0), .nil, .nil]], [], places) :=
  ⟨[], by kernel_rfl⟩
set_option maxRecDepth 100000 in
theorem asconfResults_lifted (os : Os) (started : os.Started) (H : Type) (enc : TypeId × Value → H) (F : Stop.Interp) :
    ReturnsInHanded {} Tryz.checked os 8 .any ((Rows.OpenSpec.upto Rows.asconfResultsSpec).preRow enc Tryz.prog Tryz.f8 Rows.asconfResultsUptoRow.domain false Rows.asconfResultsUptoRow.laid) (((Rows.OpenSpec.upto Rows.asconfResultsSpec).at F).post enc Tryz.prog Tryz.f8 false true false false) := by
  obtain ⟨places, hx⟩ := asconfResults_reads os enc
  refine returnsInHanded_of_row (C := Tryz.checked) (s := Rows.OpenSpec.upto Rows.asconfResultsSpec) own started (by kernel_rfl) Tryz.func8
    (witness_row_at (enc := enc) (C := Tryz.checked) false (laidWorld os) #[(.agg #[.int .u8 0, .int .u8 0, .slice none 0 0, .slice none 0 0]), (.agg #[.int .u8 0, .int .u8 0, .slice none 0 0, .slice none 0 0])] rfl (by kernel_rfl) (by kernel_rfl) (by kernel_rfl)
      (OpenSpec.preRow_of_cond 8 hx (by kernel_rfl) (fun k hk => by cases hk; kernel_rfl) (by kernel_rfl) (laid_met os _))) ?_
  intro W base args ds gs before hval hW _ hcond _ hL _ _
  exact asconfResults_contract H enc W base args ds gs before hval hW (hcond _ rfl) hL
theorem asconfResults_said : Rows.AsconfResultsUptoSaid :=
  OpenClaim.holds_of_cond 8 Tryz.f8 rfl rfl rfl rfl rfl rfl rfl ⟨rfl, rfl, rfl, rfl, rfl⟩ rfl rfl rfl rfl rfl (by kernel_rfl) Tryz.func8 (by kernel_rfl)
    (of_decide_eq_true (by kernel_rfl)) (by unfold Func.isWrapper; first | (rw [if_pos (by decide +kernel)]; kernel_rfl) | (rw [if_neg (by decide +kernel)]; exact ⟨rfl, rfl⟩))
    (fun os started H enc _ F => by rw [OpenClaim.pre_eq_preRow]; exact asconfResults_lifted os started H enc F)
theorem asconfResults_plain (f : FuncId) (fn : Func) (hf : Tryz.pinned.checked.prog.funcNamed "wharf/wharflaw18.AsconfResults" = some f) (hfn : Tryz.pinned.checked.prog.funcs[f]? = some fn) :
    true = Tryz.pinned.checked.prog.looks [] ∧ ∀ (j : Nat) t, fn.params[j]? = some t → Tryz.pinned.checked.prog.wantsStandIn t = false := by
  obtain rfl : f = 8 := Option.some.inj ((show Tryz.prog.funcNamed "wharf/wharflaw18.AsconfResults" = some 8 by kernel_rfl).symm.trans hf) |>.symm
  obtain rfl : fn = Tryz.f8 := (Option.some.inj (Tryz.func8.symm.trans hfn)).symm
  refine ⟨by kernel_rfl, fun j t ht => ?_⟩
  rw [Tryz.params8] at ht
  have hm := Array.mem_of_getElem? ht
  simp only [List.mem_toArray, List.mem_cons, List.not_mem_nil, or_false] at hm
  rcases hm with rfl | rfl
  all_goals (show Tryz.prog.wantsStandIn _ = false; kernel_rfl)
theorem asconfResults_card : Rows.AsconfResultsUptoCardSaid :=
  Claim7.holds_tied_plain_at .later [] _ _ _ _ asconfResults_said (fun _ h => by cases h) (by kernel_rfl) (fun _ h => by cases h) asconfResultsUpto_row_tie rfl ⟨rfl, rfl⟩ (by kernel_rfl) rfl asconfResults_plain (by kernel_rfl)
end Go.Proofs.YtgcjmjfjeppmgaaGreatDoor.C
