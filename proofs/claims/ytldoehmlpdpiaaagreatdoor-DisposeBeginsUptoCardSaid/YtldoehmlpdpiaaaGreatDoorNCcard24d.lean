/- DisposeBegins: the statement. No condition. -/
import Derived.Test.YtldoehmlpdpiaaaGreatDoorN5
set_option linter.unusedVariables false
set_option linter.unusedSimpArgs false
namespace Go.Proofs.YtldoehmlpdpiaaaGreatDoor.C
open Go.Abs Go.ChangeShapes Go.WideShapes Go.ChangeAt Go.RowKit
set_option maxRecDepth 100000 in
theorem disposeBegins_contract (H : Type) (enc : TypeId × Value → H) (W : World) (base : Nat) (args : Array Value) (ds gs : List (DataW H)) (before : List MemPlace)
    (hval : ∀ (j : Nat) t v, Tryz.f7.params[j]? = some t → args[j]? = some v → Value.okWide Tryz.prog W .any base t v)
    (hW : DataW.Whole enc Tryz.prog Tryz.f7.params.toList Rows.disposeBeginsSpec.vars false W args.toList ds gs before) (hk : Rows.uptoSmall H (ds ++ gs) = true) (hL : laidMetH Tryz.prog Rows.disposeBeginsUptoRow.laid W) :
    Calls Tryz.prog 7 args W fun e W' => ∃ v, e = .returned v ∧ Rows.disposeBeginsSpec.post enc Tryz.prog Tryz.f7 false true false false W args v W' := by
  have hW' := hW
  obtain ⟨p, q, hA0, hV, rfl, hfz, hnd⟩ := hW
  have hA : DataW.TrodAll enc Tryz.prog W 0 (fun _ => true) true Tryz.f7.params.toList args.toList ds p := hA0
  rw [Tryz.params7] at hA hval
  obtain ⟨v0, vs0, d0, ds0, p0, q0, hargs, rfl, rfl, h0, r0⟩ := trodAll_cons hA
  obtain ⟨v1, vs1, d1, ds1, p1, q1, rfl, rfl, rfl, h1, r1⟩ := trodAll_cons r0
  obtain ⟨rfl, rfl, rfl⟩ := trodAll_nil r1
  obtain rfl : args = #[v0, v1] := by cases args; simp_all
  obtain ⟨rfl, rfl⟩ := trodVars_none hV
  obtain ⟨x0, k0, c0, b0⟩ := rel_pkt (hval 0 28 v0 (by simp) (by simp)) h0
  obtain ⟨x1, k1, c1, b1⟩ := rel_chunks (hval 1 26 v1 (by simp) (by simp)) h1
  have hbulk := of_decide_eq_true hk
  simp only [List.append_nil, Rows.uptoBulkAll] at hbulk
  have hc := PC.answers (W := W) (args := #[v0, v1]) ((begins24_c x0 x1 (by have := pkt_len (l := x0.l); omega) (pkt_small c0 (by omega)) (by have := pkt_len (l := x1); omega) (pkt_small c1 (by omega)))) (globs_of_laid hL) (.cons k0 (.cons k1 .nil))
  refine hc.mono fun e W' ⟨he, hB⟩ => ⟨_, he, ?_⟩
  exact post_true (tb := 4) hW' rfl rfl (by kernel_rfl) Tryz.underlying4 laidOut (by kernel_rfl) hB
theorem disposeBegins_reads (os : Os) {H : Type} (enc : TypeId × Value → H) : ∃ places, DataW.whole enc Tryz.prog ((laidWorld os).forCall (fun _ _ => 0) ⟨#[], #[(.agg #[.int .u16 0, .int .u16 0, .int .u32 0, .slice none 0 0]), (.slice none 0 0)], []⟩).memory Tryz.f7.params.toList Rows.disposeBeginsSpec.vars false #[(.agg #[.int .u16 0, .int .u16 0, .int .u32 0, .slice none 0 0]), (.slice none 0 0)].toList 8 = some ([.agg [.agg [.lit (.int .u16 0), .lit (.int .u16 0), .lit (.int .u32 0)], .nil], .nil], [], places) :=
  ⟨[], by kernel_rfl⟩
set_option maxRecDepth 100000 in
theorem disposeBegins_lifted (os : Os) (started : os.Started) (H : Type) (enc : TypeId × Value → H) (F : Stop.Interp) :
    ReturnsInHanded {} Tryz.checked os 7 .any ((Rows.OpenSpec.upto Rows.disposeBeginsSpec).preRow enc Tryz.prog Tryz.f7 Rows.disposeBeginsUptoRow.domain false Rows.disposeBeginsUptoRow.laid) (((Rows.OpenSpec.upto Rows.disposeBeginsSpec).at F).post enc Tryz.prog Tryz.f7 false true false false) := by
  obtain ⟨places, hx⟩ := disposeBegins_reads os enc
  refine returnsInHanded_of_row (C := Tryz.checked) (s := Rows.OpenSpec.upto Rows.disposeBeginsSpec) own started (by kernel_rfl) Tryz.func7
    (witness_row_at (enc := enc) (C := Tryz.checked) false (laidWorld os) #[(.agg #[.int .u16 0, .int .u16 0, .int .u32 0, .slice none 0 0]), (.slice none 0 0)] rfl (by kernel_rfl) (by kernel_rfl) (by kernel_rfl)
      (OpenSpec.preRow_of_cond 8 hx (by kernel_rfl) (fun k hk => by cases hk; kernel_rfl) (by kernel_rfl) (laid_met os _))) ?_
  intro W base args ds gs before hval hW _ hcond _ hL _ _
  exact disposeBegins_contract H enc W base args ds gs before hval hW (hcond _ rfl) hL
theorem disposeBegins_said : Rows.DisposeBeginsUptoSaid :=
  OpenClaim.holds_of_cond 7 Tryz.f7 rfl rfl rfl rfl rfl rfl rfl ⟨rfl, rfl, rfl, rfl, rfl⟩ rfl rfl rfl rfl rfl (by kernel_rfl) Tryz.func7 (by kernel_rfl)
    (of_decide_eq_true (by kernel_rfl)) (by unfold Func.isWrapper; first | (rw [if_pos (by decide +kernel)]; kernel_rfl) | (rw [if_neg (by decide +kernel)]; exact ⟨rfl, rfl⟩))
    (fun os started H enc _ F => by rw [OpenClaim.pre_eq_preRow]; exact disposeBegins_lifted os started H enc F)
theorem disposeBegins_plain (f : FuncId) (fn : Func) (hf : Tryz.pinned.checked.prog.funcNamed "wharf/wharflaw24.DisposeBegins" = some f) (hfn : Tryz.pinned.checked.prog.funcs[f]? = some fn) :
    true = Tryz.pinned.checked.prog.looks [] ∧ ∀ (j : Nat) t, fn.params[j]? = some t → Tryz.pinned.checked.prog.wantsStandIn t = false := by
  obtain rfl : f = 7 := Option.some.inj ((show Tryz.prog.funcNamed "wharf/wharflaw24.DisposeBegins" = some 7 by kernel_rfl).symm.trans hf) |>.symm
  obtain rfl : fn = Tryz.f7 := (Option.some.inj (Tryz.func7.symm.trans hfn)).symm
  refine ⟨by kernel_rfl, fun j t ht => ?_⟩
  rw [Tryz.params7] at ht
  have hm := Array.mem_of_getElem? ht
  simp only [List.mem_toArray, List.mem_cons, List.not_mem_nil, or_false] at hm
  rcases hm with rfl | rfl
  all_goals (show Tryz.prog.wantsStandIn _ = false; kernel_rfl)
theorem disposeBegins_card : Rows.DisposeBeginsUptoCardSaid :=
  Claim7.holds_tied_plain_at .later [] _ _ _ _ disposeBegins_said (fun _ h => by cases h) (by kernel_rfl) (fun _ h => by cases h) disposeBeginsUpto_row_tie rfl ⟨rfl, rfl⟩ (by kernel_rfl) rfl disposeBegins_plain (by kernel_rfl)
end Go.Proofs.YtldoehmlpdpiaaaGreatDoor.C
