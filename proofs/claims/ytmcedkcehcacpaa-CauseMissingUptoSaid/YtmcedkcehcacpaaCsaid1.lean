/- CauseMissing: the statement. -/
import Derived.Test.YtmcedkcehcacpaaRows
import Derived.Test.YtmcedkcehcacpaaClaw10a
import Derived.Test.YtmcedkcehcacpaaAbs27
set_option linter.unusedVariables false
set_option linter.unusedSimpArgs false
namespace Go.Proofs.Ytmcedkcehcacpaa.C
open Go.Abs Go.ChangeShapes Go.WideShapes Go.ChangeAt Go.RowKit

theorem own : ownKnob Try.prog.godebug = none := by kernel_rfl
theorem laidOut : laidOutB Try.prog = true := by kernel_rfl

theorem u16s_of {zs : List Int} (h : ∀ n ∈ zs, (Lit.int .u16 n).wf = true) : (zs.map fun n => AV.val (.int .u16 n)) = u16s (zs.map Int.toNat) ∧ ∀ t ∈ zs.map Int.toNat, t < 2 ^ 16 := by
  have h2 : ∀ n ∈ zs, 0 ≤ n ∧ n ≤ 65535 := fun n hn => by simpa [Lit.wf, IntKind.min, IntKind.max, IntKind.signed, IntKind.bits] using h n hn
  refine ⟨?_, ?_⟩
  · simp only [u16s, List.map_map]
    refine List.map_congr_left fun n hn => ?_
    have := h2 n hn
    show AV.val (.int .u16 n) = .val (.int .u16 (N n.toNat))
    rw [show N n.toNat = n from Int.toNat_of_nonneg this.1]
  · intro t ht
    obtain ⟨n, hn, rfl⟩ := List.mem_map.1 ht
    have := h2 n hn
    omega
theorem u16_of {n : Int} (h : (Lit.int .u16 n).wf = true) : ∃ m : Nat, n = N m ∧ m < 2 ^ 16 := by
  have h2 : 0 ≤ n ∧ n ≤ 65535 := by simpa [Lit.wf, IntKind.min, IntKind.max, IntKind.signed, IntKind.bits] using h
  exact ⟨n.toNat, by unfold N; omega, by omega⟩
theorem bulk_lits {H : Type} (k : IntKind) (zs : List Int) (rest : List (DataW H)) : zs.length ≤ Rows.uptoBulk (.slice (lits k zs) rest : DataW H) := by
  have key : ∀ l : List (DataW H), l.length ≤ Rows.uptoBulkAll l := by
    intro l
    induction l with
    | nil => simp [Rows.uptoBulkAll]
    | cons x r ih =>
      have : 1 ≤ Rows.uptoBulk x := by
        cases x with
        | lit l => cases l <;> simp [Rows.uptoBulk]
        | _ => simp [Rows.uptoBulk]
      simp only [Rows.uptoBulkAll, List.length_cons]; omega
  have := key (lits k zs)
  simp only [lits, List.length_map] at this
  simp only [Rows.uptoBulk, lits]
  omega

set_option maxRecDepth 100000 in
theorem missing_contract (H : Type) (enc : TypeId × Value → H) (W : World) (base : Nat) (args : Array Value) (ds gs : List (DataW H)) (before : List MemPlace)
    (hval : ∀ (j : Nat) t v, Try.f5.params[j]? = some t → args[j]? = some v → Value.okWide Try.prog W .any base t v)
    (hW : DataW.Whole enc Try.prog Try.f5.params.toList Rows.causeMissingSpec.vars false W args.toList ds gs before) (hk : Rows.uptoSmall H (ds ++ gs) = true) :
    Calls Try.prog 5 args W fun e W' => ∃ v, e = .returned v ∧ Rows.causeMissingSpec.post enc Try.prog Try.f5 false true false false W args v W' := by
  have hW' := hW
  obtain ⟨p, q, hA0, hV, rfl, hfz, hnd⟩ := hW
  have hA : DataW.TrodAll enc Try.prog W 0 (fun _ => true) true Try.f5.params.toList args.toList ds p := hA0
  rw [Try.params5] at hA hval
  obtain ⟨v0, vs0, d0, ds0, p0, q0, hargs, rfl, rfl, h0, r0⟩ := trodAll_cons hA
  obtain ⟨v1, vs1, d1, ds1, p1, q1, rfl, rfl, rfl, h1, r1⟩ := trodAll_cons r0
  obtain ⟨rfl, rfl, rfl⟩ := trodAll_nil r1
  obtain rfl : args = #[v0, v1] := by cases args; simp_all
  obtain ⟨rfl, rfl⟩ := trodVars_none hV
  have hc22 : Try.prog.cellsOf 22 = 1 := by kernel_rfl
  have hv0 := hval 0 37 v0 (by simp) (by simp)
  obtain ⟨zs, k0, k1, k2⟩ := rel_ints Try.underlying37 Try.underlying22 hc22 hv0 h0
  obtain ⟨n, rfl, rfl, rfl, w1⟩ := open_int Try.underlying22 (hval 1 22 v1 (by simp) (by simp)) h1
  obtain ⟨m, rfl, hm⟩ := u16_of w1
  obtain ⟨e1, e2⟩ := u16s_of k1
  rw [e1] at k0
  have hb : zs.length ≤ 2 ^ 22 := by
    have h := of_decide_eq_true hk
    simp only [List.append_nil, Rows.uptoBulkAll] at h
    rcases k2 with ⟨_, rfl⟩ | ⟨rest, rfl⟩
    · simp
    · have := bulk_lits .u16 zs rest
      omega
  have hc := (causeMissing_c (zs.map Int.toNat) m (by simpa using hb) e2 hm).answers (args := #[v0, .int .u16 (N m)]) (.cons k0 (.cons (.val _) .nil))
  refine hc.mono fun e W' ⟨he, hB⟩ => ⟨_, he, ?_⟩
  exact post_true (tb := 4) hW' rfl rfl (by kernel_rfl) Try.underlying4 laidOut (by kernel_rfl) hB

set_option maxRecDepth 100000 in
theorem missing_lifted (os : Os) (started : os.Started) (H : Type) (enc : TypeId × Value → H) (F : Stop.Interp) :
    ReturnsInHanded {} Try.checked os 5 .any ((Rows.OpenSpec.upto Rows.causeMissingSpec).pre6 enc Try.prog Try.f5 Rows.causeMissingUptoRow.domain false) (((Rows.OpenSpec.upto Rows.causeMissingSpec).at F).post enc Try.prog Try.f5 false true false false) := by
  refine returnsInHanded_of_cond (C := Try.checked) (s := Rows.OpenSpec.upto Rows.causeMissingSpec) (k := Rows.uptoSmall) rfl own started (by kernel_rfl) Try.func5
    (OpenSpec.witness (enc := enc) (C := Try.checked) (s := Rows.OpenSpec.upto Rows.causeMissingSpec) (k := Rows.uptoSmall) rfl false ⟨#[], #[.slice none 0 0, .int .u16 0], []⟩ 8 (by kernel_rfl) (by kernel_rfl) (by kernel_rfl)
      (x := ([.nil, .lit (.int .u16 0)], [], [])) (by kernel_rfl) rfl (by kernel_rfl)) ?_
  intro W base args ds gs before hval hW _ hk _
  exact missing_contract H enc W base args ds gs before hval hW hk

theorem causeMissing_holds : Rows.CauseMissingUptoSaid :=
  OpenClaim.holds_of_cond 5 Try.f5 rfl rfl rfl rfl rfl rfl rfl ⟨rfl, rfl, rfl, rfl, rfl⟩ rfl rfl rfl rfl rfl (by kernel_rfl) Try.func5 (by kernel_rfl)
    (of_decide_eq_true (by kernel_rfl)) (by unfold Func.isWrapper; first | (rw [if_pos (by decide +kernel)]; kernel_rfl) | (rw [if_neg (by decide +kernel)]; exact ⟨rfl, rfl⟩))
    (fun os started H enc _ F => missing_lifted os started H enc F)
end Go.Proofs.Ytmcedkcehcacpaa.C
