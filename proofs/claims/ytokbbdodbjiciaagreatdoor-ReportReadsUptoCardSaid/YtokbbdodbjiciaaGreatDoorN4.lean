/- The reference's bytes of nodes: wharfref03.Bytes, wharfref08.Bytes. -/
import Derived.Test.YtokbbdodbjiciaaGreatDoorN3
import Derived.Laws.StructEq
import Derived.ChangeKeysEq
import Derived.Lib.BytesEntry
set_option linter.unusedVariables false
set_option linter.unusedSimpArgs false
namespace Go.Proofs.YtokbbdodbjiciaaGreatDoor.C
open Go.Abs
mutual
def refV : GNode → List UInt8
  | .mk _ d k => d ++ joinF (refFs k)
def refFs : List GNode → List Frm
  | [] => []
  | n :: l => ⟨n.ty, refV n⟩ :: refFs l
end
theorem refV_eq (n : GNode) : refV n = n.data ++ joinF (refFs n.kids) := by cases n; simp [refV, GNode.data, GNode.kids]
theorem refFs_map : ∀ l : List GNode, refFs l = l.map fun n => ⟨n.ty, refV n⟩
  | [] => by simp [refFs]
  | n :: l => by simp [refFs, refFs_map l]
mutual
theorem refV_len : ∀ n : GNode, (refV n).length = vlen n
  | .mk t d k => by rw [refV, List.length_append, joinF_len, vlen, refFs_len k]
theorem refFs_len : ∀ l : List GNode, ((refFs l).map fun f => f.val.length) = nLens l
  | [] => by simp [refFs, nLens]
  | n :: l => by simp [refFs, nLens, refV_len n, refFs_len l]
end
theorem refB_len (l : List GNode) : (joinF (refFs l)).length = nSize l := by rw [joinF_len, refFs_len]; rfl
theorem padB_mod (l : List UInt8) : (padB l).length % 4 = 0 := by rw [padB_len]; unfold upN gapN; omega
theorem padB_app (A X : List UInt8) (h : A.length % 4 = 0) : padB (A ++ X) = A ++ padB X := by
  have : gapN (A ++ X).length = gapN X.length := by rw [List.length_append]; unfold gapN; omega
  unfold padB; rw [this, List.append_assoc]
theorem join_app (A : List UInt8) (h : A.length % 4 = 0) : ∀ (l : List Frm) (X : List UInt8), l.foldl (fun out f => padB out ++ putF f) (A ++ X) = A ++ l.foldl (fun out f => padB out ++ putF f) X
  | [], X => rfl
  | f :: l, X => by rw [List.foldl_cons, List.foldl_cons, padB_app A X h, List.append_assoc, join_app A h l]
theorem padB_nil : padB [] = [] := by simp [padB, gapN]
theorem joinF_one (f : Frm) : joinF [f] = putF f := by simp [joinF, padB_nil]
theorem joinF_two (f g : Frm) (l : List Frm) : joinF (f :: g :: l) = padB (putF f) ++ joinF (g :: l) := by
  unfold joinF
  rw [List.foldl_cons, List.foldl_cons, padB_nil, List.nil_append, join_app _ (padB_mod _), List.foldl_cons, padB_nil, List.nil_append]
theorem checkL_mem {c dp : Nat} : ∀ {l : List GNode}, checkL c dp l = 0 → ∀ n ∈ l, checkN c dp n = 0
  | [], h, n, hn => by simp at hn
  | m :: l, h, n, hn => by
    rw [checkL] at h
    split at h
    · rename_i hm; exact absurd h hm
    · rename_i hm
      rcases List.mem_cons.1 hn with rfl | hn
      · simpa using hm
      · exact checkL_mem h n hn
theorem checkN_zero {c dp : Nat} {n : GNode} (h : checkN c dp n = 0) : dp ≤ 4 ∧ badN c n.ty n.data.length n.kids = false ∧ countedN c n.ty n.data = false ∧ checkL (insideN (shapeOf c n.ty).kids).1 (dp + 1) n.kids = 0 ∧ nSize [n] ≤ 65535 := by
  rw [checkN_eq] at h
  split at h
  · cases h
  · rename_i h1
    split at h
    · cases h
    · rename_i h2
      split at h
      · cases h
      · rename_i h3
        split at h
        · rename_i h4; exact absurd h h4
        · rename_i h4
          split at h
          · cases h
          · rename_i h5
            exact ⟨by omega, by simpa using h2, by simpa using h3, by simpa using h4, by omega⟩
theorem size_one (n : GNode) : nSize [n] = 4 + vlen n := by simp [nSize, nLens, tlvSize, sumUp, upN, gapN]
theorem enc_rt : ∀ (w dp c : Nat) (l : List GNode), wts l ≤ w → checkL c dp l = 0 → encN l = joinF (refFs l)
  | w, dp, c, l, hw, h => by
    have key : ∀ n ∈ l, frameN n = ⟨n.ty, refV n⟩ := by
      intro n hn
      have hz := checkN_zero (checkL_mem h n hn)
      have hlt := kids_lt hn
      match w with
      | 0 => omega
      | w + 1 =>
        have := enc_rt w (dp + 1) _ n.kids (by omega) hz.2.2.2.1
        unfold encN at this
        rw [frameN_eq, this, ← refV_eq]
    have e : framesN l = refFs l := by
      rw [framesN_map, refFs_map]
      exact List.map_congr_left key
    unfold encN joinX
    rw [e, if_pos]
    rw [List.all_eq_true]
    intro f hf
    rw [refFs_map] at hf
    obtain ⟨n, hn, rfl⟩ := List.mem_map.1 hf
    have hz := (checkN_zero (checkL_mem h n hn)).2.2.2.2
    rw [size_one] at hz
    have := refV_len n
    simp [fitF]; omega
theorem putB4_2 (a b c d : UInt8) (r : List UInt8) (v : List UInt8) (hv : v = r) (hn : beN [c, d] = 4 + r.length) : putF ⟨beN [a, b], v⟩ = a :: b :: c :: d :: r := by
  subst hv
  simp only [putF, putB2_be, ← hn]
  rfl
theorem zeroB_iff (l : List UInt8) : zeroB l = true ↔ l = List.replicate l.length 0 := by
  unfold zeroB
  rw [List.all_eq_true, List.eq_replicate_iff]
  simp
theorem read_back (A X : List UInt8) (hA : A.length % 4 = 0) (hX : X ≠ []) (he : (readN (A ++ X) A.length).2.2 = .ok) :
    (X = putF (readN (A ++ X) A.length).1 ∧ (readN (A ++ X) A.length).2.1 = (A ++ X).length) ∨
    (∃ Y, Y ≠ [] ∧ X = padB (putF (readN (A ++ X) A.length).1) ++ Y ∧ (readN (A ++ X) A.length).2.1 = (A ++ padB (putF (readN (A ++ X) A.length).1)).length) := by
  have hd : (A ++ X).drop A.length = X := by rw [List.drop_append_of_le_length (Nat.le_refl _), List.drop_of_length_le (Nat.le_refl _), List.nil_append]
  have hl : (A ++ X).length = A.length + X.length := List.length_append
  unfold readN at he ⊢
  rw [hd, hl] at he ⊢
  split at he
  case isFalse => cases he
  rename_i hc
  rw [if_pos hc]
  obtain ⟨c1, c2, c3⟩ := hc
  obtain ⟨a, b, c, d, r, rfl⟩ : ∃ a b c d r, X = a :: b :: c :: d :: r := by
    match X, hX, c1 with
    | a :: b :: c :: d :: r, _, _ => exact ⟨a, b, c, d, r, rfl⟩
    | [a], _, h => simp at h
    | [a, b], _, h => simp at h
    | [a, b, c], _, h => simp at h
  have p2 : peekN 2 (a :: b :: c :: d :: r) 2 = beN [c, d] := by unfold peekN; rw [if_pos (by simp)]; rfl
  have p0 : peekN 2 (a :: b :: c :: d :: r) 0 = beN [a, b] := by unfold peekN; rw [if_pos (by simp)]; rfl
  have hrl : (a :: b :: c :: d :: r).length = 4 + r.length := by simp; omega
  rw [p2] at c2 c3 he ⊢
  rw [p0]
  rw [hrl] at c1 c3 he ⊢
  obtain ⟨n, hn⟩ : ∃ n, n = beN [c, d] := ⟨_, rfl⟩
  rw [← hn] at c2 c3 he ⊢
  have hv : ((a :: b :: c :: d :: r).drop 4).take (n - 4) = r.take (n - 4) := rfl
  rw [hv]
  have hpf : putF ⟨beN [a, b], r.take (n - 4)⟩ = (a :: b :: c :: d :: r).take n := by
    rw [putB4_2 a b c d (r.take (n - 4)) _ rfl (by rw [← hn, List.length_take]; omega)]
    obtain ⟨k, rfl⟩ : ∃ k, n = 4 + k := ⟨n - 4, by omega⟩
    rw [show 4 + k - 4 = k by omega, show 4 + k = k + 1 + 1 + 1 + 1 by omega]
    simp only [List.take_succ_cons]
  split at he
  · rename_i h1
    rw [if_pos h1]
    left
    refine ⟨?_, h1⟩
    show _ = putF ⟨beN [a, b], r.take (n - 4)⟩
    rw [hpf, List.take_of_length_le (by rw [hrl]; omega)]
  · rename_i h1
    rw [if_neg h1]
    split at he
    case isFalse => cases he
    rename_i h2
    rw [if_pos h2]
    right
    obtain ⟨h2, h3⟩ := h2
    obtain ⟨X, hXe⟩ : ∃ X, X = a :: b :: c :: d :: r := ⟨_, rfl⟩
    rw [← hXe] at h2 h3 hpf ⊢
    have hXl : X.length = 4 + r.length := by rw [hXe]; exact hrl
    have hnx : nextN (A ++ X) (A.length + n) = some (upN (A.length + n)) ∧ upN (A.length + n) ≤ (A ++ X).length ∧ zeroB (((A ++ X).take (upN (A.length + n))).drop (A.length + n)) = true := by
      unfold nextN at h2 ⊢
      split at h2
      · rename_i hc; exact ⟨by rw [if_pos hc], hc.2.1, hc.2.2⟩
      · simp at h2
    obtain ⟨q1, q2, q3⟩ := hnx
    rw [q1, Option.getD_some] at h3 ⊢
    have hu : upN (A.length + n) = A.length + upN n := by unfold upN gapN; omega
    have hun : upN n = n + gapN n := rfl
    have hlen : (X.take n).length = n := by rw [List.length_take]; omega
    rw [List.length_append] at q2
    have hpad : padB (X.take n) = X.take (upN n) := by
      unfold padB
      rw [hlen, hun, List.take_add]
      congr 1
      have hz : ((A ++ X).take (upN (A.length + n))).drop (A.length + n) = (X.drop n).take (gapN n) := by
        rw [hu, List.take_append, List.take_of_length_le (by omega), show A.length + upN n - A.length = upN n by omega, List.drop_append, List.drop_of_length_le (by omega), List.nil_append, show A.length + n - A.length = n by omega, List.drop_take, hun, show n + gapN n - n = gapN n by omega]
      rw [hz, zeroB_iff] at q3
      rw [q3, List.length_take, List.length_drop, Nat.min_eq_left (by omega)]
    refine ⟨X.drop (upN n), ?_, ?_, ?_⟩
    · intro h0
      have := congrArg List.length h0
      simp at this
      omega
    · show X = padB (putF ⟨beN [a, b], r.take (n - 4)⟩) ++ _
      rw [hpf, hpad, List.take_append_drop]
    · show _ = (A ++ padB (putF ⟨beN [a, b], r.take (n - 4)⟩)).length
      rw [hpf, List.length_append, padB_len, hlen, hu]
theorem scan_back : ∀ (k : Nat) (A X : List UInt8), A.length % 4 = 0 → X.length ≤ k → (scan (A ++ X) k A.length).2 = .ok → joinF ((scan (A ++ X) k A.length).1.map (·.2)) = X
  | 0, A, X, hA, hk, h => by
    obtain rfl : X = [] := List.eq_nil_of_length_eq_zero (by omega)
    rfl
  | k + 1, A, X, hA, hk, h => by
    rw [scan] at h ⊢
    by_cases hX : X = []
    · subst hX
      rw [if_neg (by simp)]; rfl
    · have hpos : 0 < X.length := List.length_pos_iff.2 hX
      rw [if_pos (by simp; omega)] at h ⊢
      cases he : (readN (A ++ X) A.length).2.2 with
      | code c => simp [he] at h
      | flt c j => simp [he] at h
      | ok =>
        simp only [he] at h ⊢
        rcases read_back A X hA hX he with ⟨h1, h2⟩ | ⟨Y, h1, h2, h3⟩
        · have hs : scan (A ++ X) k (A ++ X).length = ([], .ok) := by
            cases k with
            | zero => rfl
            | succ k => rw [scan, if_neg (by omega)]
          rw [h2, hs]
          simp only [List.map_cons, List.map_nil]
          rw [joinF_one]; exact h1.symm
        · generalize hr : readN (A ++ X) A.length = q at h1 h2 h3 h he
          rw [h3] at h ⊢
          have e : A ++ X = (A ++ padB (putF q.1)) ++ Y := by rw [h2, List.append_assoc]
          rw [e] at h ⊢
          have hl : (putF q.1).length = 4 + q.1.val.length := putF_len _
          have hp := padB_len (putF q.1)
          have hXl : X.length = (padB (putF q.1)).length + Y.length := by rw [h2, List.length_append]
          have hu : (putF q.1).length ≤ upN (putF q.1).length := by unfold upN; omega
          have ih := scan_back k (A ++ padB (putF q.1)) Y (by rw [List.length_append]; have := padB_mod (putF q.1); omega) (by omega) h
          cases hz : (scan ((A ++ padB (putF q.1)) ++ Y) k (A ++ padB (putF q.1)).length).1 with
          | nil => rw [hz] at ih; exact absurd ih.symm h1
          | cons p l =>
            rw [hz] at ih
            simp only [List.map_cons] at ih ⊢
            rw [joinF_two, ih]; exact h2.symm
theorem readN_val (b : List UInt8) (i : Nat) : (readN b i).1.val.length ≤ 65531 := by
  have hp := peek2_lt (b.drop i) 2
  unfold readN
  split
  · split
    · simp only [List.length_take]; omega
    · split
      · simp only [List.length_take]; omega
      · simp [frm0]
  · simp [frm0]
theorem scan_val (b : List UInt8) : ∀ (k i : Nat), ∀ p ∈ (scan b k i).1, p.2.val.length ≤ 65531 ∧ p.2.ty < 65536
  | 0, i, p, h => by simp [scan] at h
  | k + 1, i, p, h => by
    rw [scan] at h
    split at h
    · rename_i hi
      cases he : (readN b i).2.2 with
      | ok =>
        simp only [he] at h
        rcases List.mem_cons.1 h with rfl | h
        · exact ⟨readN_val b i, readN_ty b i⟩
        · exact scan_val b k _ p h
      | code c => simp [he] at h
      | flt c j => simp [he] at h
    · simp at h
def Back (c dp : Nat) (l : List GNode) (b : List UInt8) : Prop := checkL c dp l = 0 ∧ joinF (refFs l) = b ∧ tysOk l = true
theorem kidsOk_nil {f : ShForm} (h : f.kids = 0) : kidsOk f [] = true := by unfold kidsOk; rw [h]; rfl
theorem one_back (m c dp : Nat) (hdp : dp ≤ 4) (f : Frm) (i : Nat) (hf : f.val.length ≤ 65531) (hty : f.ty < 65536)
    (ih : ∀ (c : Nat) (b : List UInt8) (i : Nat), (c = 1 ∨ c = 2) → (parseF m c b i).2 = .ok → Back c (dp + 1) (parseF m c b i).1 b)
    (h : (oneF (parseF m) c f i).2 = .ok) : checkN c dp (oneF (parseF m) c f i).1 = 0 ∧ (⟨(oneF (parseF m) c f i).1.ty, refV (oneF (parseF m) c f i).1⟩ : Frm) = f ∧ (oneF (parseF m) c f i).1.tyOk = true := by
  have key : ∀ (d : List UInt8) (k : List GNode), badN c f.ty d.length k = false → countedN c f.ty d = false → checkL (insideN (shapeOf c f.ty).kids).1 (dp + 1) k = 0 → d ++ joinF (refFs k) = f.val → tysOk k = true →
      checkN c dp (.mk f.ty d k) = 0 ∧ (⟨(GNode.mk f.ty d k).ty, refV (.mk f.ty d k)⟩ : Frm) = f ∧ (GNode.mk f.ty d k).tyOk = true := by
    intro d k h1 h2 h3 h4 h5
    have hv : refV (.mk f.ty d k) = f.val := by rw [refV]; exact h4
    have hs : nSize [GNode.mk f.ty d k] = 4 + f.val.length := by rw [size_one, ← refV_len, hv]
    refine ⟨?_, ?_, ?_⟩
    · rw [checkN_eq]
      simp only [GNode.ty, GNode.data, GNode.kids]
      have hs' : ¬ 65535 < nSize [GNode.mk f.ty d k] := by rw [hs]; omega
      have hdp' : ¬ 4 < dp := by omega
      simp [h1, h2, h3, hs', hdp']
    · rw [hv]; rfl
    · rw [GNode.tyOk_eq]; simp [GNode.ty, GNode.kids, h5, hty]
  unfold oneF at h ⊢
  split at h
  · rename_i hs
    rw [if_pos hs]
    refine key f.val [] ?_ ?_ rfl (by simp [refFs, joinF]) rfl
    · unfold badN; rw [hs]; simp
    · unfold countedN
      cases hz : (c == 2 && (f.ty == 2 && (!decide (4 ≤ f.val.length) || peekN 4 f.val 0 != (f.val.length - 4) / 2))) with
      | false => rfl
      | true =>
        exfalso
        simp only [Bool.and_eq_true, beq_iff_eq] at hz
        rw [hz.1, hz.2.1] at hs
        cases hs
  · rename_i hs
    have hs' : shapeHas c f.ty = true := by simpa using hs
    rw [if_neg hs]
    split at h
    · cases h
    · rename_i hft
      have hft' : fitsN (shapeOf c f.ty) (dataOf c f).length = true := by simpa using hft
      rw [if_neg hft]
      split at h
      · cases h
      · rename_i hct
        rw [if_neg hct]
        have hct' : countedN c f.ty (dataOf c f) = false := by simpa using hct
        split at h
        · rename_i hk0
          rw [if_pos hk0]
          have hd : dataOf c f = f.val := by unfold dataOf; rw [if_neg (by simp [hk0])]
          refine key (dataOf c f) [] ?_ hct' rfl (by simp [refFs, joinF, hd]) rfl
          unfold badN; rw [hs', hft', kidsOk_nil hk0]; simp
        · rename_i hk0
          rw [if_neg hk0]
          have hcl := inside_cls (shape_kids4 c f.ty) hk0
          obtain ⟨R, hR⟩ : ∃ R, R = parseF m (insideN (shapeOf c f.ty).kids).1 (f.val.drop (shapeOf c f.ty).least) (i + 4 + (shapeOf c f.ty).least) := ⟨_, rfl⟩
          have hih := ih (insideN (shapeOf c f.ty).kids).1 (f.val.drop (shapeOf c f.ty).least) (i + 4 + (shapeOf c f.ty).least) hcl
          rw [← hR] at h hih ⊢
          split at h
          · rename_i hno; exact absurd h hno
          · rename_i hok
            have hok' : R.2 = .ok := by simpa using hok
            rw [if_neg hok]
            split at h
            · cases h
            · rename_i hkk
              have hkk' : kidsOk (shapeOf c f.ty) R.1 = true := by simpa using hkk
              rw [if_neg hkk]
              obtain ⟨b1, b2, b3⟩ := hih hok'
              have hle := fits_least hft'
              have hdl := dataOf_len c f
              have hd : dataOf c f = f.val.take (shapeOf c f.ty).least := by unfold dataOf; rw [if_pos ⟨hk0, by omega⟩]
              refine key (dataOf c f) R.1 ?_ hct' b1 ?_ b3
              · unfold badN; rw [hs', hft', hkk']; simp
              · rw [b2, hd, List.take_append_drop]
theorem goF_back (one : Frm → Nat → GNode × Er) (i c dp : Nat) : ∀ (l : List (Nat × Frm)), (∀ p ∈ l, (one p.2 (i + p.1)).2 = .ok → checkN c dp (one p.2 (i + p.1)).1 = 0 ∧ (⟨(one p.2 (i + p.1)).1.ty, refV (one p.2 (i + p.1)).1⟩ : Frm) = p.2 ∧ (one p.2 (i + p.1)).1.tyOk = true) →
    (goF one i l).2 = .ok → checkL c dp (goF one i l).1 = 0 ∧ refFs (goF one i l).1 = l.map (·.2) ∧ tysOk (goF one i l).1 = true
  | [], _, _ => ⟨rfl, by simp [goF, refFs], rfl⟩
  | p :: l, hp, h => by
    simp only [goF] at h ⊢
    split at h
    · rename_i h1
      split at h
      · rename_i h2
        rw [if_pos h1, if_pos h2]
        obtain ⟨a1, a2, a3⟩ := hp p (by simp) h1
        obtain ⟨b1, b2, b3⟩ := goF_back one i c dp l (fun q hq => hp q (by simp [hq])) h2
        refine ⟨by rw [checkL, a1]; simpa using b1, ?_, by rw [tysOk, a3, b3]; rfl⟩
        simp only [refFs, List.map_cons, b2, a2]
      · rename_i h2; exact absurd h h2
    · rename_i h1; exact absurd h h1
theorem parse_back : ∀ (m dp c : Nat) (b : List UInt8) (i : Nat), dp + m = 5 → (c = 1 ∨ c = 2) → (parseF m c b i).2 = .ok → Back c dp (parseF m c b i).1 b := by
  intro m
  induction m with
  | zero =>
    intro dp c b i hdm hc h
    rw [parseF_eq] at h ⊢
    split at h
    · rename_i hs
      rw [if_pos hs]
      have hb := scan_back b.length [] b rfl (Nat.le_refl _) hs
      have := goF_back (oneD 0 c) i c dp (scan b b.length 0).1 (fun p _ hp => by cases hp) h
      exact ⟨this.1, by rw [this.2.1]; exact hb, this.2.2⟩
    · rename_i hs
      cases he : (scan b b.length 0).2 <;> simp [he, Er.shift] at h hs
  | succ m ih =>
    intro dp c b i hdm hc h
    rw [parseF_eq] at h ⊢
    split at h
    · rename_i hs
      rw [if_pos hs]
      have hb := scan_back b.length [] b rfl (Nat.le_refl _) hs
      have hv := scan_val b b.length 0
      have := goF_back (oneD (m + 1) c) i c dp (scan b b.length 0).1 (fun p hp h1 => one_back m c dp (by omega) p.2 _ (hv p hp).1 (hv p hp).2 (fun c b i hc h => ih (dp + 1) c b i (by omega) hc h) h1) h
      exact ⟨this.1, by rw [this.2.1]; exact hb, this.2.2⟩
    · rename_i hs
      cases he : (scan b b.length 0).2 <;> simp [he, Er.shift] at h hs
def headB (c : GChunk) : List UInt8 := [UInt8.ofNat c.ty, UInt8.ofNat c.flags]
def bytesC (c : GChunk) : List UInt8 := headB c ++ (putB 2 (4 + c.data.length + nSize c.kids) ++ (c.data ++ joinF (refFs c.kids)))
theorem bytesC_len (c : GChunk) : (bytesC c).length = 4 + c.data.length + nSize c.kids := by
  simp only [bytesC, headB, List.length_append, putB_len, refB_len, List.length_cons, List.length_nil]; omega
def headC (b : List UInt8) : GChunk := ⟨(b.getD 0 0).toNat, (b.getD 1 0).toNat, b.drop 4, []⟩
def cutC (c : GChunk) : GChunk := if (kindOf c.ty).kids ≠ 0 ∧ (kindOf c.ty).least ≤ c.data.length then { c with data := c.data.take (kindOf c.ty).least } else c
def dataE4 (c : GChunk) : Er := firstE [flagsE c (kindOf c.ty), dataE c (kindOf c.ty), countE c, valueE c]
def insC (c : GChunk) (r : List GNode × Er) : GChunk × Er :=
  if r.2 ≠ .ok then (.zero, r.2.shift (4 + c.data.length)) else if kkidsOk (kindOf c.ty) r.1 = false then (.zero, .flt 7 0) else ({ c with kids := r.1 }, .ok)
def restC (c : GChunk) (d : List UInt8) : GChunk × Er :=
  if dataE4 c ≠ .ok then (.zero, dataE4 c) else insC c (parseF 4 (classOf c.ty) (d.drop c.data.length) 0)
def parseC (b : List UInt8) : GChunk × Er :=
  if b.length < 4 ∨ peekN 2 b 2 ≠ b.length then (.zero, .flt 4 0)
  else if kindHas (headC b).ty = false then (headC b, .ok)
  else restC (cutC (headC b)) (b.drop 4)
theorem kinds_exact : ∀ f ∈ kindForms, f.kids ≠ 0 → f.most = f.least := by decide
theorem kind_exact (t : Nat) (h : (kindOf t).kids ≠ 0) : (kindOf t).most = (kindOf t).least := by
  unfold kindOf at h ⊢
  cases hf : kindForms.find? (fun f => f.ty == t) with
  | none => rw [hf] at h; simp [zeroK] at h
  | some f => exact kinds_exact f (List.mem_of_find?_eq_some hf) (by rw [hf] at h; exact h)
theorem fit_len {k : KForm} {n : Nat} (h : kfitsN k n = true) : k.least ≤ n ∧ n ≤ k.most := by
  unfold kfitsN at h; simp only [Bool.and_eq_true, decide_eq_true_eq] at h; exact h.1
theorem pre_dataE4 {c : GChunk} (h : dataE4 c = .ok) (hk : kkidsOk (kindOf c.ty) c.kids = true) : preE c = .ok := by
  have hp := firstE_pre h
  have h1 := hp (flagsE c (kindOf c.ty)) (by simp)
  have h2 := hp (dataE c (kindOf c.ty)) (by simp)
  have h3 := hp (countE c) (by simp)
  have h4 := hp (valueE c) (by simp)
  have h5 : kidsE c (kindOf c.ty) = .ok := if_neg (by rw [hk]; simp)
  unfold preE
  simp only [h1, h2, h3, h4, h5, firstE, reduceIte]
theorem check_pre {c : GChunk} (h : checkC c = 0) (hh : kindHas c.ty = true) : preE c = .ok := by
  have hs : startC c = 0 := by
    unfold checkC at h
    split at h
    · rename_i h1; exact absurd h h1
    · rename_i h1; simpa using h1
  unfold startC at hs
  rw [if_pos hh] at hs
  exact (isN_ok (preE_isN c)).1 hs
theorem check_size {c : GChunk} (h : checkC c = 0) : 4 + c.data.length + nSize c.kids ≤ 65535 ∧ checkL (classOf c.ty) 1 c.kids = 0 := by
  unfold checkC at h
  split at h
  · rename_i h1; exact absurd h h1
  split at h
  · rename_i h1; exact absurd h h1
  rename_i h2
  split at h
  · cases h
  · rename_i h1; exact ⟨by omega, by simpa using h2⟩
theorem check_none {c : GChunk} (h : checkC c = 0) (hh : kindHas c.ty = false) : c.kids = [] := by
  by_cases h2 : 0 < c.kids.length
  · have hs : startC c = 7 := by unfold startC; rw [if_neg (by rw [hh]; simp), if_pos h2]
    unfold checkC at h
    rw [hs] at h
    simp at h
  · exact List.length_eq_zero_iff.1 (by omega)
theorem parse_empty (m c i : Nat) : parseF m c [] i = ([], .ok) := by
  rw [parseF_eq]; simp [scan, goF]
theorem u8_nat {n : Nat} (h : n < 256) : (UInt8.ofNat n).toNat = n := by rw [UInt8.toNat_ofNat']; omega
theorem kind_class {t : Nat} (h : (kindOf t).kids ≠ 0) : classOf t = 1 ∨ classOf t = 2 := by
  have hb := (kind_bd t).2.2.2.2.1
  unfold classOf
  have hh : (kindOf t).kids = 1 ∨ (kindOf t).kids = 2 ∨ (kindOf t).kids = 3 ∨ (kindOf t).kids = 4 ∨ (kindOf t).kids = 5 ∨ (kindOf t).kids = 6 := by omega
  rcases hh with e | e | e | e | e | e <;> rw [e] <;> first | exact .inl rfl | exact .inr rfl
theorem cut_ty (c : GChunk) : (cutC c).ty = c.ty ∧ (cutC c).flags = c.flags ∧ (cutC c).kids = c.kids := by
  unfold cutC; split <;> exact ⟨rfl, rfl, rfl⟩
theorem chunk_back {b : List UInt8} {c : GChunk} (h : parseC b = (c, .ok)) : checkC c = 0 ∧ bytesC c = b ∧ tysOk c.kids = true ∧ c.ty < 256 ∧ c.flags < 256 ∧ c.data.length ≤ b.length := by
  unfold parseC at h
  split at h
  · cases h
  rename_i h1
  have h4 : 4 ≤ b.length := by omega
  have hpk : peekN 2 b 2 = b.length := by
    rcases Nat.decEq (peekN 2 b 2) b.length with h | h
    · exact absurd (Or.inr h) h1
    · exact h
  obtain ⟨b0, b1, b2, b3, r, rfl⟩ : ∃ b0 b1 b2 b3 r, b = b0 :: b1 :: b2 :: b3 :: r := by
    match b, h4 with
    | b0 :: b1 :: b2 :: b3 :: r, _ => exact ⟨b0, b1, b2, b3, r, rfl⟩
  have hlt := peek2_lt (b0 :: b1 :: b2 :: b3 :: r) 2
  have hbe : beN [b2, b3] = 4 + r.length := by
    have : peekN 2 (b0 :: b1 :: b2 :: b3 :: r) 2 = beN [b2, b3] := by unfold peekN; rw [if_pos (by simp)]; rfl
    rw [← this, hpk]; simp; omega
  have hput : putB 2 (4 + r.length) = [b2, b3] := by rw [← hbe, putB2_be]
  have hr : r.length ≤ 65531 := by rw [hpk] at hlt; simp at hlt; omega
  have hhead : headC (b0 :: b1 :: b2 :: b3 :: r) = ⟨b0.toNat, b1.toNat, r, []⟩ := rfl
  have ht : b0.toNat < 256 := b0.toNat_lt
  have hf : b1.toNat < 256 := b1.toNat_lt
  have hB : ∀ (d : List UInt8) (l : List GNode), d ++ joinF (refFs l) = r → bytesC ⟨b0.toNat, b1.toNat, d, l⟩ = b0 :: b1 :: b2 :: b3 :: r ∧ d.length + nSize l = r.length := by
    intro d l e
    have hl : d.length + nSize l = r.length := by rw [← refB_len, ← List.length_append, e]
    refine ⟨?_, hl⟩
    unfold bytesC headB
    rw [Nat.add_assoc, hl, hput, e]
    simp
  rw [hhead] at h
  split at h
  · rename_i hk
    injection h with h2 h3
    subst h2
    obtain ⟨e1, e2⟩ := hB r [] (by simp [refFs, joinF])
    refine ⟨?_, e1, rfl, ht, hf, by simp; omega⟩
    unfold checkC startC
    rw [if_neg (by rw [hk]; simp)]
    simp [checkL, nSize, nLens, tlvSize, sumUp] at e2 ⊢
    omega
  · rename_i hk
    have hk' : kindHas b0.toNat = true := by simpa using hk
    obtain ⟨c1, hc1⟩ : ∃ c1, c1 = cutC ⟨b0.toNat, b1.toNat, r, []⟩ := ⟨_, rfl⟩
    have hty := cut_ty ⟨b0.toNat, b1.toNat, r, []⟩
    rw [← hc1] at h hty
    obtain ⟨t1, t2, t3⟩ := hty
    simp only at t1 t2 t3
    unfold restC at h
    split at h
    · rename_i h2; injection h with h3 h5; exact absurd h5 h2
    rename_i h2
    have he4 : dataE4 c1 = .ok := by
      cases hx : dataE4 c1 with
      | ok => rfl
      | code x => exact absurd (by rw [hx]; simp) h2
      | flt x y => exact absurd (by rw [hx]; simp) h2
    unfold insC at h
    have hd4 : List.drop 4 (b0 :: b1 :: b2 :: b3 :: r) = r := rfl
    rw [hd4, t1] at h
    split at h
    · rename_i h5
      injection h with h6 h7
      cases hx : (parseF 4 (classOf b0.toNat) (List.drop c1.data.length r) 0).2 <;> simp [hx, Er.shift] at h5 h7
    rename_i h5
    split at h
    · injection h with h6 h7; cases h7
    rename_i h6
    injection h with h7 h8
    have hpo : (parseF 4 (classOf b0.toNat) (List.drop c1.data.length r) 0).2 = .ok := by
      cases hx : (parseF 4 (classOf b0.toNat) (List.drop c1.data.length r) 0).2 with
      | ok => rfl
      | code x => exact absurd (by rw [hx]; simp) h5
      | flt x y => exact absurd (by rw [hx]; simp) h5
    obtain ⟨R, hR⟩ : ∃ R, R = parseF 4 (classOf b0.toNat) (List.drop c1.data.length r) 0 := ⟨_, rfl⟩
    rw [← hR] at h7 hpo h6
    have hko : kkidsOk (kindOf b0.toNat) R.1 = true := by simpa using h6
    have hfit : kfitsN (kindOf b0.toNat) c1.data.length = true := by
      have := firstE_pre he4 (dataE c1 (kindOf c1.ty)) (by simp)
      rw [t1] at this
      unfold dataE at this
      cases hx : kfitsN (kindOf b0.toNat) c1.data.length with
      | true => rfl
      | false => rw [hx] at this; cases this
    obtain ⟨f1, f2⟩ := fit_len hfit
    have key : checkL (classOf b0.toNat) 1 R.1 = 0 ∧ c1.data ++ joinF (refFs R.1) = r ∧ tysOk R.1 = true := by
      by_cases h0 : (kindOf b0.toNat).kids = 0
      · have hcc : c1 = ⟨b0.toNat, b1.toNat, r, []⟩ := by rw [hc1]; unfold cutC; rw [if_neg (by simp [h0])]
        have hRe : R = ([], .ok) := by rw [hR, hcc]; simp only [List.drop_length]; exact parse_empty 4 _ 0
        rw [hRe, hcc]
        exact ⟨rfl, by simp [refFs, joinF], rfl⟩
      · have he := kind_exact _ h0
        have hcc : (kindOf b0.toNat).least ≤ r.length ∧ c1.data = r.take (kindOf b0.toNat).least := by
          rw [hc1] at f1 f2 ⊢
          unfold cutC at f1 f2 ⊢
          split at f1
          · rename_i h9; rw [if_pos h9]; exact ⟨h9.2, rfl⟩
          · rename_i h9; exact absurd ⟨h0, f1⟩ h9
        have hdl : c1.data.length = (kindOf b0.toNat).least := by rw [hcc.2, List.length_take]; omega
        have hb := parse_back 4 1 _ (List.drop c1.data.length r) 0 rfl (kind_class h0) (by rw [← hR]; exact hpo)
        rw [← hR] at hb
        obtain ⟨a1, a2, a3⟩ := hb
        refine ⟨a1, ?_, a3⟩
        rw [a2, hdl, hcc.2, List.take_append_drop]
    obtain ⟨k1, k2, k3⟩ := key
    obtain ⟨e1, e2⟩ := hB _ _ k2
    have hce : c = ⟨b0.toNat, b1.toNat, c1.data, R.1⟩ := by rw [← h7, ← t1, ← t2]
    subst hce
    refine ⟨?_, e1, k3, ht, hf, by simp; omega⟩
    have hpre : preE ⟨b0.toNat, b1.toNat, c1.data, R.1⟩ = .ok := by
      refine pre_dataE4 ?_ hko
      have : dataE4 ⟨b0.toNat, b1.toNat, c1.data, R.1⟩ = dataE4 c1 := by
        cases c1; simp only at t1 t2 t3; subst t1; subst t2; rfl
      rw [this]; exact he4
    unfold checkC startC
    simp only [hk', if_true, hpre, k1, Er.codeOf]
    rw [if_neg (by simp), if_neg (by simp), if_neg (by omega)]
theorem encode2_c (c : Nat) (l : List GNode) (hc : 0 < l.length → c = 1 ∨ c = 2) (hs : nSize l ≤ 2 ^ 30) (ht : tysOk l = true) : PC Tryz.prog 128 [nat c, .sl false 3 (nodesA false l)]
    (.tup [.sl true 1 (bys (if checkL c 1 l = 0 then encN l else [])), errA (checkL c 1 l)]) := by
  have hlen := nSize_len l
  refine PC.of_bodyK (by simp only [push_cast]) Tryz.func128 rfl (by rw [Tryz.ntmps128]; simp) ?_
  refine AWp.regionW ?_
  refine AWp.seqK fun K1 hK1 => ?_
  refine AWp.regionW ?_
  refine AWp.block ?_
  refine AWp.loopK0 [0, 1, 11, 12] (fun (i : Nat) => [(13, nat i)]) (fun i => i ≤ l.length ∧ checkL c 1 (l.take i) = 0) (fun i => l.length - i) (0) ?_ ⟨Nat.zero_le _, rfl⟩ ?_
  · skip
    refine Le.m 0 ?_ ?_
    · exact Go.Abs.evM
    · exact Go.Abs.evN
  · intro i hi K2 hK2
    refine AWp.regionW ?_
    refine AWp.seqK fun K3 hK3 => ?_
    refine AWp.condLM (fun c0 => ?_) (fun c0 => ?_)
    · skip
      have hil : i < l.length := by simpa using c0
      have hm := List.getElem_mem hil
      have hn1 := nSize_one hm
      refine AWp.skip ?_
      refine hK3 _ ?_
      refine AWp.seqK fun K4 hK4 => ?_
      refine AWp.block ?_
      refine AWp.regionM fun K5 hK5 => ?_
      refine ARun2.indexM (i) (nodeA false l[i]) ?_ ?_
      · exact nodesA_at _ _ _ hil
      refine ARun2.endm (hK5 _ ?_)
      refine AWp.regionM fun K6 hK6 => ?_
      refine ARun2.callM (check_c c l[i] (hc (by omega)) (by omega)) ?_
      refine ARun2.endm (hK6 _ ?_)
      refine AWp.regionW ?_
      refine AWp.condLM (fun c1 => ?_) (fun c1 => ?_)
      · skip
        have hne : checkN c 1 l[i] ≠ 0 := by simpa using c1
        have hr := checkL_at c 1 l i hil hi.2 hne
        have hr2 : (if checkL c 1 l = 0 then encN l else []) = [] := by rw [hr, if_neg hne]
        refine AWp.regionW ?_
        refine AWp.ret ?_
        try simp only [thenQ, blockQ, noGo]
        refine bodyQ.m ?_
        clear hK6 K6 hK5 K5 hK4 K4 hK3 K3 hK2 K2 hK1 K1
        rw [hr2, hr]; try rw [encN]
        first | done | exact Wk.go
      have heq : checkN c 1 l[i] = 0 := by simpa using c1
      refine AWp.skip ?_
      refine hK4 _ ?_
      refine AWp.regionV ?_
      refine hK2 _ (i + 1) (⟨hil, by rw [List.take_succ_eq_append_getElem hil, checkL_snoc, hi.2]; simpa using heq⟩) (by omega) ?_
      refine Le.m 0 ?_ ?_
      · exact Go.Abs.evM
      · exact Go.Abs.evN
    have hil : i = l.length := by have := hi.1; simp at c0; omega
    subst hil
    have hr : checkL c 1 l = 0 := by have := hi.2; rwa [List.take_length] at this
    have hr2 : (if checkL c 1 l = 0 then encN l else []) = encN l := if_pos hr
    refine AWp.exit ?_
    try simp only [thenQ, blockQ, noGo, reduceIte, Nat.reduceEqDiff]
    refine hK1 _ ?_
    refine AWp.regionM fun K7 hK7 => ?_
    refine ARun2.callM (frames_c l hs ht) ?_
    refine ARun2.callM (join_c (framesN l) (by intro f hf; rw [framesN_map] at hf; obtain ⟨n, hn, rfl⟩ := List.mem_map.1 hf; rw [frameN_ty]; exact GNode.tyOk_ty (tysOk_mem ht _ hn)) (by have := framesT_le l; omega) (by rw [framesN_len]; omega)) ?_
    refine ARun2.endm (hK7 _ ?_)
    refine AWp.regionW ?_
    refine AWp.ret ?_
    try simp only [thenQ, blockQ, noGo]
    refine bodyQ.m ?_
    clear hK7 K7 hK3 K3 hK2 K2 hK1 K1
    rw [hr2, hr]; try rw [encN]
    first | done | exact Wk.go
theorem headB_A (c : GChunk) (ht : c.ty < 256) (hf : c.flags < 256) : [u8 c.ty, u8 c.flags] = bys (headB c) := by
  simp only [bys, headB, List.map_cons, List.map_nil, u8_nat ht, u8_nat hf]
theorem check_class {c : GChunk} (h : checkC c = 0) : 0 < c.kids.length → classOf c.ty = 1 ∨ classOf c.ty = 2 := by
  intro hl
  cases hh : kindHas c.ty with
  | false => rw [check_none h hh] at hl; simp at hl
  | true => exact kclass _ _ (pre_kids (check_pre h hh)) (kind_bd c.ty).2.2.2.2.1 hl
theorem encN_check {c : GChunk} (h : checkC c = 0) : encN c.kids = joinF (refFs c.kids) := enc_rt _ 1 _ c.kids (Nat.le_refl _) (check_size h).2
def encC (c : GChunk) : List UInt8 := if checkC c = 0 then bytesC c else []
theorem wjoin4 (a b c d : List UInt8) : [a, b, c, d].flatten = a ++ (b ++ (c ++ d)) := by simp
theorem cenc_yes (c : GChunk) (u1 u2 : Nat) (BB J : List UInt8) (h : Small c) (hck : PC Tryz.prog 85 [chunkA false c] (errA 0))
    (hki : PC Tryz.prog 89 [nat (kindOf c.ty).kids] (.tup [nat (classOf c.ty), nat u1, nat u2])) (hs : 4 + c.data.length + nSize c.kids ≤ 65535)
    (hen : PC Tryz.prog 128 [nat (classOf c.ty), .sl false 3 (nodesA false c.kids)] (.tup [.sl true 1 (bys J), errA 0]))
    (hsz : PC Tryz.prog 84 [chunkA false c] (nat (4 + c.data.length + nSize c.kids)))
    (hp : PC Tryz.prog 123 [nat 2, .sl false 1 [u32 (4 + c.data.length + nSize c.kids)]] (.sl true 1 (bys (putB 2 (4 + c.data.length + nSize c.kids)))))
    (hj : PC Tryz.prog 126 [.sl false 1 [.sl false 1 [u8 c.ty, u8 c.flags], .sl false 1 (bys (putB 2 (4 + c.data.length + nSize c.kids))), .sl false 1 (bys c.data), .sl false 1 (bys J)]] (.sl true 1 (bys BB))) :
    PC Tryz.prog 82 [chunkA false c] (.tup [.sl true 1 (bys BB), errA 0]) := by
  refine PC.of_bodyK (by simp only [push_cast]) Tryz.func82 rfl (by rw [Tryz.ntmps82]; simp) ?_
  refine AWp.regionW ?_
  refine AWp.seqK fun K1 hK1 => ?_
  refine AWp.regionM fun K2 hK2 => ?_
  refine ARun2.callM (hck) ?_
  refine ARun2.endm (hK2 _ ?_)
  refine AWp.regionW ?_
  refine AWp.condF ?_
  refine AWp.skip ?_
  refine hK1 _ ?_
  refine AWp.regionM fun K3 hK3 => ?_
  refine ARun2.callM (kof_c c.ty h.ty) ?_
  refine ARun2.endm (hK3 _ ?_)
  refine AWp.regionM fun K4 hK4 => ?_
  refine ARun2.callM (hki) ?_
  refine ARun2.endm (hK4 _ ?_)
  refine AWp.regionM fun K5 hK5 => ?_
  refine ARun2.callM (hen) ?_
  refine ARun2.endm (hK5 _ ?_)
  refine AWp.drS [[(1, none)], [(37, some 0)], [(1, none)], [(39, some 2)], [(38, some 1), (40, some 3)], [(1, none)], [(42, some 5)], [(43, some 6)], [(44, some 7)], [(45, some 8)], [(1, none)], [(47, some 10)], [(10, none)], [(41, some 4), (46, some 9), (48, some 11), (49, some 12)], [(50, some 13)], [(11, none)], [(51, some 14)], [(52, some 15)]] fun G hG => ?_
  refine Dr.sim ?_
  try simp only [lca, lna]
  refine Dr.sim ?_
  try simp only [lca, lna]
  refine Dr.sim ?_
  try simp only [lca, lna]
  refine Dr.sim ?_
  try simp only [lca, lna]
  refine Dr.build ?_
  try simp only [lca, lna]
  refine Dr.sim ?_
  try simp only [lca, lna]
  refine Dr.call (hsz) ?_
  try simp only [lca, lna]
  refine Dr.sim ?_
  try simp only [lca, lna]
  refine Dr.build ?_
  try simp only [lca, lna]
  refine Dr.call (hp) ?_
  try simp only [lca, lna]
  refine Dr.sim ?_
  try simp only [lca, lna]
  refine Dr.sim ?_
  try simp only [lca, lna]
  refine Dr.sim ?_
  try simp only [lca, lna]
  refine Dr.build ?_
  try simp only [lca, lna]
  refine Dr.call (hj) ?_
  try simp only [lca, lna]
  refine Dr.sim ?_
  try simp only [lca, lna]
  refine Dr.sim ?_
  try simp only [lca, lna]
  refine Dr.sim ?_
  try simp only [lca, lna]
  refine Dr.finM (n := 18) [(2, 16), (3, 17)] [] hG Facts.mixed fun KD hKD => ?_
  refine ARun2.endm (hKD _ ?_); clear hKD KD hG G
  refine AWp.ret ?_
  try simp only [thenQ, blockQ, noGo]
  refine bodyQ.m ?_
  clear hK5 K5 hK4 K4 hK3 K3 hK2 K2 hK1 K1
  first | done | exact Wk.go
theorem cenc_no (c : GChunk) (h : Small c) (h0 : ¬ checkC c = 0) : PC Tryz.prog 82 [chunkA false c] (.tup [.sl true 1 (bys []), errA (checkC c)]) := by
  have hck := h.check
  refine PC.of_bodyK (by simp only [push_cast]) Tryz.func82 rfl (by rw [Tryz.ntmps82]; simp) ?_
  refine AWp.regionW ?_
  refine AWp.seqK fun K1 hK1 => ?_
  refine AWp.regionM fun K2 hK2 => ?_
  refine ARun2.callM (hck) ?_
  refine ARun2.endm (hK2 _ ?_)
  refine AWp.regionW ?_
  refine AWp.condLM (fun c0 => ?_) (fun c0 => ?_)
  · skip
    refine AWp.regionW ?_
    refine AWp.ret ?_
    try simp only [thenQ, blockQ, noGo]
    refine bodyQ.m ?_
    clear hK2 K2 hK1 K1
    first | done | exact Wk.go
  exfalso; apply h0; simpa using c0
theorem cenc_c (c : GChunk) (h : Small c) (htk : tysOk c.kids = true) : PC Tryz.prog 82 [chunkA false c] (.tup [.sl true 1 (bys (encC c)), errA (checkC c)]) := by
  have hb := kind_bd c.ty
  have hck := h.check
  have hki := kinside_c (kindOf c.ty).kids (by omega)
  have hcc : classOf c.ty = (kinsideN (kindOf c.ty).kids).1 := rfl
  rw [← hcc] at hki
  have hns := nSize_szs2 c.kids
  have hkk := h.kids
  have hdd := h.data
  have hsz := csize_c c (by omega) (by omega)
  by_cases h0 : checkC c = 0
  · obtain ⟨hs, hL⟩ := check_size h0
    have hen := encode2_c (classOf c.ty) c.kids (check_class h0) (by omega) htk
    rw [hL, if_pos rfl, encN_check h0] at hen
    have hrl := refB_len c.kids
    have hp : PC Tryz.prog 123 [nat 2, .sl false 1 [u32 (4 + c.data.length + nSize c.kids)]] (.sl true 1 (bys (putB 2 (4 + c.data.length + nSize c.kids)))) := by
      have := wire_put 2 [4 + c.data.length + nSize c.kids] (by omega) (by intro x hx; simp at hx; omega) (by simp)
      simpa [u32s, List.flatMap_cons, List.flatMap_nil] using this
    have hj : PC Tryz.prog 126 [.sl false 1 [.sl false 1 (bys (headB c)), .sl false 1 (bys (putB 2 (4 + c.data.length + nSize c.kids))), .sl false 1 (bys c.data), .sl false 1 (bys (joinF (refFs c.kids)))]] (.sl true 1 (bys (bytesC c))) := by
      have := wjoin_c [headB c, putB 2 (4 + c.data.length + nSize c.kids), c.data, joinF (refFs c.kids)] (by simp only [lens, List.map_cons, List.map_nil, List.sum_cons, List.sum_nil, putB_len, headB, List.length_cons, List.length_nil]; omega) (by simp)
      rw [wjoin4] at this
      exact this
    rw [← headB_A c h.ty h.flags] at hj
    have he : encC c = bytesC c := if_pos h0
    rw [h0] at hck ⊢
    rw [he]
    exact cenc_yes c _ _ _ _ h hck hki hs hen hsz hp hj
  · have he : encC c = [] := if_neg h0
    rw [he]
    exact cenc_no c h h0
def actC (t : Nat) : Nat := if kindHas t = true then 4 else t / 64
def actP (t : Nat) : Nat := if shapeHas 1 t = true then 4 else t / 16384
def playF : Nat → List Nat → List Nat × List Nat × Bool
  | _, [] => ([], [], false)
  | i, a :: l =>
    if a = 4 then (i :: (playF (i + 1) l).1, (playF (i + 1) l).2)
    else if a = 3 then ((playF (i + 1) l).1, i :: (playF (i + 1) l).2.1, (playF (i + 1) l).2.2)
    else if a = 1 then ([], [i], true) else if a = 0 then ([], [], true) else playF (i + 1) l
def disF {α : Type} (f : α → Nat) : List α → List α × List α × Bool
  | [] => ([], [], false)
  | x :: l =>
    if f x = 4 then (x :: (disF f l).1, (disF f l).2)
    else if f x = 3 then ((disF f l).1, x :: (disF f l).2.1, (disF f l).2.2)
    else if f x = 1 then ([], [x], true) else if f x = 0 then ([], [], true) else disF f l
theorem playF_lt : ∀ (l : List Nat) (i : Nat), (∀ j ∈ (playF i l).1, j < i + l.length) ∧ (∀ j ∈ (playF i l).2.1, j < i + l.length)
  | [], i => ⟨by simp [playF], by simp [playF]⟩
  | a :: l, i => by
    have h := playF_lt l (i + 1)
    have e : i + (a :: l).length = i + 1 + l.length := by simp; omega
    rw [e]
    simp only [playF]
    split
    · exact ⟨fun j hj => (List.mem_cons.1 hj).elim (fun h => by omega) (h.1 j), h.2⟩
    split
    · exact ⟨h.1, fun j hj => (List.mem_cons.1 hj).elim (fun h => by omega) (h.2 j)⟩
    split
    · exact ⟨by simp, by simp; omega⟩
    split
    · exact ⟨by simp, by simp⟩
    · exact h
theorem playF_len : ∀ (l : List Nat) (i : Nat), (playF i l).1.length + (playF i l).2.1.length ≤ l.length
  | [], i => by simp [playF]
  | a :: l, i => by
    have h := playF_len l (i + 1)
    simp only [playF, List.length_cons]
    split
    · simp only [List.length_cons]; omega
    split
    · simp only [List.length_cons]; omega
    split
    · simp
    split
    · simp
    · omega
def pickN {α : Type} (d : α) (l : List α) (is : List Nat) : List α := is.map fun i => l.getD i d
theorem pick_play {α : Type} (f : α → Nat) (d : α) : ∀ (l pre : List α), pickN d (pre ++ l) (playF pre.length (l.map f)).1 = (disF f l).1 ∧ pickN d (pre ++ l) (playF pre.length (l.map f)).2.1 = (disF f l).2.1 ∧ (playF pre.length (l.map f)).2.2 = (disF f l).2.2
  | [], pre => ⟨rfl, rfl, rfl⟩
  | x :: l, pre => by
    have h := pick_play f d l (pre ++ [x])
    rw [List.append_assoc, List.length_append, List.length_singleton] at h
    simp only [List.cons_append, List.nil_append] at h
    have hx : (pre ++ x :: l).getD pre.length d = x := by simp [List.getD_eq_getElem?_getD]
    simp only [List.map_cons, playF, disF]
    split
    · refine ⟨?_, h.2.1, h.2.2⟩
      show (pre ++ x :: l).getD pre.length d :: pickN d _ _ = _
      rw [hx, h.1]
    split
    · refine ⟨h.1, ?_, h.2.2⟩
      show (pre ++ x :: l).getD pre.length d :: pickN d _ _ = _
      rw [hx, h.2.1]
    split
    · refine ⟨rfl, ?_, rfl⟩
      show [(pre ++ x :: l).getD pre.length d] = _
      rw [hx]
    split
    · exact ⟨rfl, rfl, rfl⟩
    · exact h
theorem pick_dis {α : Type} (f : α → Nat) (d : α) (l : List α) : pickN d l (playF 0 (l.map f)).1 = (disF f l).1 ∧ pickN d l (playF 0 (l.map f)).2.1 = (disF f l).2.1 ∧ (playF 0 (l.map f)).2.2 = (disF f l).2.2 := pick_play f d l []
theorem disF_mem {α : Type} (f : α → Nat) : ∀ (l : List α), (∀ x ∈ (disF f l).1, x ∈ l ∧ f x = 4) ∧ (∀ x ∈ (disF f l).2.1, x ∈ l ∧ (f x = 1 ∨ f x = 3))
  | [] => ⟨by simp [disF], by simp [disF]⟩
  | a :: l => by
    have h := disF_mem f l
    simp only [disF]
    split
    · rename_i ha
      exact ⟨fun x hx => (List.mem_cons.1 hx).elim (fun e => by subst e; exact ⟨by simp, ha⟩) (fun hx => ⟨by simp [(h.1 x hx).1], (h.1 x hx).2⟩), fun x hx => ⟨by simp [(h.2 x hx).1], (h.2 x hx).2⟩⟩
    split
    · rename_i ha
      exact ⟨fun x hx => ⟨by simp [(h.1 x hx).1], (h.1 x hx).2⟩, fun x hx => (List.mem_cons.1 hx).elim (fun e => by subst e; exact ⟨by simp, .inr ha⟩) (fun hx => ⟨by simp [(h.2 x hx).1], (h.2 x hx).2⟩)⟩
    split
    · rename_i ha
      exact ⟨by simp, fun x hx => by simp at hx; subst hx; exact ⟨by simp, .inl ha⟩⟩
    split
    · exact ⟨by simp, by simp⟩
    · exact ⟨fun x hx => ⟨by simp [(h.1 x hx).1], (h.1 x hx).2⟩, fun x hx => ⟨by simp [(h.2 x hx).1], (h.2 x hx).2⟩⟩
theorem disF_len {α : Type} (f : α → Nat) : ∀ (l : List α), (disF f l).1.length + (disF f l).2.1.length ≤ l.length
  | [] => by simp [disF]
  | a :: l => by
    have h := disF_len f l
    simp only [disF, List.length_cons]
    split
    · simp only [List.length_cons]; omega
    split
    · simp only [List.length_cons]; omega
    split
    · simp
    split
    · simp
    · omega
def wrapN (n : GNode) : GNode := .mk 8 [] [n]
def cleanC (c : GChunk) : GChunk × List GNode :=
  if classOf c.ty = 1 then ({ c with kids := (disF (fun n => actP n.ty) c.kids).1 }, ((disF (fun n => actP n.ty) c.kids).2.1).map wrapN) else (c, [])
structure GRes where
  done : List GChunk
  chunks : List GNode
  params : List GNode
  stopped : Bool
def repC (c : GChunk) : GNode := .mk 6 (bytesC c) []
def disO (l : List GChunk) : GRes :=
  ⟨(disF (fun c => actC c.ty) l).1.map fun c => (cleanC c).1, (disF (fun c => actC c.ty) l).2.1.map repC, (disF (fun c => actC c.ty) l).1.flatMap fun c => (cleanC c).2, (disF (fun c => actC c.ty) l).2.2⟩
@[push_cast] def resA (b : Bool) (r : GRes) : AV := .agg [.sl b 4 (chunksA b r.done), .sl b 3 (nodesA b r.chunks), .sl b 3 (nodesA b r.params), bool r.stopped]
structure GPkt where
  src : Nat
  dst : Nat
  tag : Nat
  l : List GChunk
@[push_cast] def pktA (b : Bool) (p : GPkt) : AV := .agg [u16 p.src, u16 p.dst, u32 p.tag, .sl b 4 (chunksA b p.l)]
theorem sh26 : shapeHas 2 6 = true ∧ (shapeOf 2 6).least = 4 ∧ (shapeOf 2 6).unit = 1 ∧ (shapeOf 2 6).kids = 0 ∧ (shapeOf 2 6).most = 65531 := by
  refine ⟨by kernel_rfl, by kernel_rfl, by kernel_rfl, by kernel_rfl, by kernel_rfl⟩
theorem sh18 : shapeHas 1 8 = true ∧ (shapeOf 1 8).least = 0 ∧ (shapeOf 1 8).unit = 1 ∧ (shapeOf 1 8).kids = 1 ∧ (shapeOf 1 8).most = 0 := by
  refine ⟨by kernel_rfl, by kernel_rfl, by kernel_rfl, by kernel_rfl, by kernel_rfl⟩
theorem rep_right (b : List UInt8) (h4 : 4 ≤ b.length) (hl : b.length ≤ 65531) : checkN 2 1 (.mk 6 b []) = 0 := by
  obtain ⟨s1, s2, s3, s4, s5⟩ := sh26
  have hf : fitsN (shapeOf 2 6) b.length = true := by unfold fitsN; rw [s2, s3, s5]; simp [Nat.mod_one]; omega
  have hk : kidsOk (shapeOf 2 6) [] = true := by unfold kidsOk; rw [s4]; rfl
  rw [checkN_eq]
  rw [if_neg (by decide), if_neg (by unfold badN; show ¬ ((!shapeHas 2 6 && decide (0 < ([] : List GNode).length)) || (shapeHas 2 6 && (!fitsN (shapeOf 2 6) b.length || !kidsOk (shapeOf 2 6) []))) = true; rw [s1, hf, hk]; decide)]
  rw [if_neg (by show ¬ countedN 2 6 b = true; unfold countedN; simp), if_neg (by show ¬ checkL _ _ [] ≠ 0; simp [checkL]), if_neg ?_]
  simp [nSize, nLens, tlvSize, sumUp, upN, gapN, vlen]
  omega
theorem actC_unk {t : Nat} (h : actC t = 1 ∨ actC t = 3) : kindHas t = false := by
  unfold actC at h
  cases hs : kindHas t with
  | false => rfl
  | true => rw [if_pos hs] at h; omega
def rightO (l : List GChunk) : Prop := ∀ c ∈ l, checkC c = 0 ∧ c.data.length ≤ 65527
theorem rep_bytes {c : GChunk} (h : checkC c = 0) (hd : c.data.length ≤ 65527) (hu : kindHas c.ty = false) : 4 ≤ (bytesC c).length ∧ (bytesC c).length ≤ 65531 := by
  have hk := check_none h hu
  rw [bytesC_len, hk]
  simp [nSize, nLens, tlvSize, sumUp]
  omega
theorem repC_right {c : GChunk} (h : checkC c = 0) (hd : c.data.length ≤ 65527) (hu : kindHas c.ty = false) : rightN (repC c) true = (repC c, true) := by
  obtain ⟨h1, h2⟩ := rep_bytes h hd hu
  unfold rightN repC
  rw [rep_right _ h1 h2]; rfl
def sameLC (l m : List GChunk) : Bool := decide (l.length = m.length) && (l.zip m).all fun p => sameC p.1 p.2
theorem sameLC_at {l m : List GChunk} {i : Nat} (hl : i < l.length) (hm : i < m.length) (h : sameC l[i] m[i] = false) : sameLC l m = false := by
  unfold sameLC
  have : ((l.zip m).all fun p => sameC p.1 p.2) = false := by
    rw [Bool.eq_false_iff]
    intro hh
    have := List.all_eq_true.1 hh (l[i], m[i]) (by
      rw [List.mem_iff_getElem]
      exact ⟨i, by rw [List.length_zip]; omega, by simp⟩)
    rw [h] at this; cases this
  rw [this, Bool.and_false]
theorem sameLC_all {l m : List GChunk} (he : l.length = m.length) (h : ∀ i (hl : i < l.length) (hm : i < m.length), sameC l[i] m[i] = true) : sameLC l m = true := by
  unfold sameLC
  rw [decide_eq_true he, Bool.true_and, List.all_eq_true]
  intro p hp
  obtain ⟨i, hi, rfl⟩ := List.mem_iff_getElem.1 hp
  simp only [List.length_zip] at hi
  simp only [List.getElem_zip]
  exact h i (by omega) (by omega)
theorem sameLC_iff (l m : List GChunk) : sameLC l m = true ↔ l = m := by
  constructor
  · intro h
    unfold sameLC at h
    simp only [Bool.and_eq_true, decide_eq_true_eq] at h
    refine List.ext_getElem h.1 fun i h1 h2 => ?_
    have := List.all_eq_true.1 h.2 (l[i], m[i]) (by rw [List.mem_iff_getElem]; exact ⟨i, by rw [List.length_zip]; omega, by simp⟩)
    exact (sameC_iff _ _).1 this
  · rintro rfl
    exact sameLC_all rfl fun i _ _ => sameC_self _
end Go.Proofs.YtokbbdodbjiciaaGreatDoor.C
namespace Go.Abs
set_option linter.unusedSectionVars false
@[push_cast] def eqAll : List (IntKind × Int × Int) → Bool
  | [] => true
  | p :: r => (p.2.1 == p.2.2) && eqAll r
section
variable {P : Program} {ops : Array Oper} {E : Env} {s s' : AS} {ρ : List Value} {B : Nat → Prop} {a : Act} {w w' : World} {o : Oper} {rest : List Oper} {Q : AS → Prop} {R : Exit → AS → Prop} {nds : List (List (Nat × Option Nat))} {vals : List AV} {G : Prop}
end
set_option linter.unusedSectionVars false
section
variable {P : Program} {ops : Array Oper} {E : Env} {s s' : AS} {ρ : List Value} {B : Nat → Prop} {a : Act} {w w' : World} {o : Oper} {rest : List Oper} {Q : AS → Prop} {R : Exit → AS → Prop} {nds : List (List (Nat × Option Nat))} {vals : List AV} {G : Prop}
def tailF (ops : Array Oper) (n q : Nat) : Bool :=
  decide (n < ops.size) && ((List.range n).all fun i => decide (i = q) || Region.waitsFor .any ops n i || (List.range n).any fun j => decide (i < j) && decide (j ≠ q) && Region.waitsFor .any ops j i) &&
  ((List.range ops.size).all fun j => decide (j ≤ n) || (List.range j).any fun i => decide (n ≤ i) && Region.waitsFor .any ops j i)
theorem tailF.tail {n q : Nat} (h : tailF ops n q = true) {listed : Array Bool} (inv : HeadInv .any ops n listed) : ∀ (d i : Nat), n - i = d → i < n → i ≠ q → listed.getD i true = false → ∀ t, n ≤ t → t ∉ Region.ready .any ops listed := by
  simp only [tailF, Bool.and_eq_true, decide_eq_true_eq] at h
  obtain ⟨⟨hn, hs⟩, hc⟩ := h
  intro d
  induction d using Nat.strongRecOn with
  | _ d ih =>
    intro i hd hi hiq hun t ht hr
    obtain ⟨_, ot, hot, hall⟩ := mem_ready.1 hr
    have htlt : t < ops.size := (Array.getElem?_eq_some_iff.1 hot).1
    by_cases htn : t = n
    · subst htn
      have h1 := List.all_eq_true.1 hs i (List.mem_range.2 hi)
      simp only [Bool.or_eq_true, decide_eq_true_eq] at h1
      rcases h1 with (h1 | h1) | h1
      · exact hiq h1
      · obtain ⟨oj, hoj, e, he, hb, hon⟩ := Region.waitsFor_spec h1
        have : oj = ot := Option.some.inj (hoj.symm.trans hot)
        subst this
        have h2 := hall e he hb
        rw [hon, getD_both hun] at h2
        cases h2
      · obtain ⟨j, hj, hj2⟩ := List.any_eq_true.1 h1
        simp only [Bool.and_eq_true, decide_eq_true_eq] at hj2
        obtain ⟨oj, hoj, e, he, hb, hon⟩ := Region.waitsFor_spec hj2.2
        have hjlt := List.mem_range.1 hj
        cases hl : listed.getD j false with
        | true =>
          have h2 := inv.closed j oj hoj hl e he hb
          rw [hon, getD_both hun] at h2
          cases h2
        | false =>
          have hjs : j < listed.size := by rw [inv.size]; omega
          exact ih (t - j) (by omega) j rfl (by omega) hj2.1.2 (getD_in hjs hl) t (Nat.le_refl _) hr
    · have h1 := List.all_eq_true.1 hc t (List.mem_range.2 htlt)
      simp only [Bool.or_eq_true, decide_eq_true_eq] at h1
      rcases h1 with h1 | h1
      · omega
      · obtain ⟨i', hi', h1⟩ := List.any_eq_true.1 h1
        simp only [Bool.and_eq_true, decide_eq_true_eq] at h1
        obtain ⟨o', ho', e, he, hb, hon⟩ := Region.waitsFor_spec h1.2
        have : o' = ot := Option.some.inj (ho'.symm.trans hot)
        subst this
        have h2 := hall e he hb
        have := List.mem_range.1 hi'
        rw [hon, getD_both (inv.tail i' h1.1 (by omega))] at h2
        cases h2
section fin
variable {id n : Nat} {y : Code} {T : TypeId} {z : List Value}
end fin
end
set_option linter.unusedSectionVars false
section
variable {P : Program} {ops : Array Oper} {E : Env} {s s' : AS} {ρ σ : List Value} {B : Nat → Prop} {a : Act} {w w' : World} {o : Oper} {rest : List Oper} {Q : AS → Prop} {R : Exit → AS → Prop}
variable {nds : List (List (Nat × Option Nat))} {vals : List AV} {G : Prop} {nds1 : List (List (Nat × Option Nat))} {X XL : List Ob} {i : Nat} {r : List Nat}
end
set_option linter.unusedSectionVars false
section
variable {P : Program} {ops : Array Oper} {E : Env} {s s' : AS} {ρ σ : List Value} {B : Nat → Prop} {a : Act} {w w' : World} {o : Oper} {rest : List Oper} {Q : AS → Prop} {R : Exit → AS → Prop}
end
section
variable {P : Program} {ops : Array Oper} {E : Env} {s s' : AS} {ρ σ : List Value} {B : Nat → Prop} {a : Act} {w w' : World} {o : Oper} {rest : List Oper} {Q : AS → Prop} {R : Exit → AS → Prop}
theorem obInval_nil (o : Ob) : Ob.invalL [] o = o := by
  cases o with
  | box T cs =>
    simp only [Ob.invalL]
    have : cs.map (AV.invalL []) = cs := by
      conv => rhs; rw [← List.map_id cs]
      exact List.map_congr_left fun x _ => by simp [AV.invalL]
    rw [this]
  | _ => simp [Ob.invalL]
theorem CSpec.callO {f : FuncId} {args : Array Operand} {ts : Array TypeId} {ys xs : List AV} {e : TypeId} {sz : Nat} (hp : OC P f ys [] (.own 0) [.row e sz xs]) (hx : AV.idsOkL (fun _ => false) xs = true) (hg : gd ops s o = some true)
    (ho : o.op = .call { callee := .value (.func f), args := args, argTypes := ts }) (hc : callable P f = true) (hsub : HandL [] (args.toList.map s.ev) ys) : CSpec P ops o s [] [.row e sz xs] (.own s.ob.length) := by
  intro E hE ρ B a w hs K Q' hK
  have hs' : RS E s ρ B a w := by simpa using hs
  rw [if_pos (gd_wanted hg hs')]
  unfold callable at hc
  split at hc <;> (try (simp at hc; done))
  rename_i fn hf
  simp only [Bool.and_eq_true, Bool.not_eq_true'] at hc
  have hr := run_call_func (P := P) (w := w) (args := args) (ts := ts) (ty := o.type) (ρe := a.eval) hf hc.1 hc.2 rfl
  have he : (execOp a.eval o).run P w = .ok (.enter f (args.map a.eval)) w := by
    simp only [execOp, ho]; exact hr
  have hrel : RelL w B E.bs ρ (args.toList.map s.ev) (args.toList.map a.eval) := RelL.map_ev hs' _
  have hsub' : SubXL [] (args.toList.map s.ev) ys := hsub
  refine owp_enter he ?_
  have hargs : args.map a.eval = (args.toList.map a.eval).toArray := by apply Array.ext'; simp
  rw [hargs]
  refine hp E.bs w [] B _ (hE.glb.call hs'.rw_ (fun _ h => h) (by intro v hv; simp at hv)) hs'.rw_.callee (hsub'.rel (Nat.le_refl _) (by intro i k hik; simp at hik) hrel) _ ?_
  rintro r' v τ' σ' B' w' ⟨rfl, rfl⟩ hw hv
  have haft := hs'.after (ids := []) (τ := []) List.nodup_nil trivial (by simpa [pick] using hw) (Nat.zero_le _)
  have e1 : obAfter s.ob [] [] [Ob.row e sz xs] = s.ob ++ [Ob.row e sz xs] := by
    unfold obAfter
    have h1 : s.ob.map (Ob.invalL (rowIds [] [])) = s.ob := by
      conv => rhs; rw [← List.map_id s.ob]
      exact List.map_congr_left fun x _ => obInval_nil x
    rw [h1]
    simp only [setAll, List.length_nil, List.drop_zero, List.map_cons, List.map_nil, Ob.ren, AV.renL_closed _ _ hx]
  have e2 : setAll ρ [] σ' ++ σ'.drop ([] : List Nat).length = ρ ++ σ' := by simp [setAll]
  rw [e1, e2] at haft
  have hl := hs'.rw_.len
  refine ⟨v, rfl, hK v w' (ρ ++ σ') B' ⟨haft.rw_, haft.jj⟩ hw.bsub (fun b hb => hw.block b (hs'.rw_.blt b hb) ⟨by rintro ⟨v, hv, _⟩; simp at hv, by simp⟩) (fun j u hj h => by rw [List.getElem?_append_left (by omega)]; exact h) ?_⟩
  cases hv with
  | own hq h1 => exact .own (by rw [← hl, List.getElem?_append_right (Nat.le_refl _), Nat.sub_self]; exact hq) h1
variable {nds : List (List (Nat × Option Nat))} {vals : List AV} {G : Prop} {nds1 : List (List (Nat × Option Nat))} {X XL : List Ob} {i : Nat} {r : List Nat}
theorem CL.callO {f : FuncId} {args : Array Operand} {ts : Array TypeId} {ys xs : List AV} {e : TypeId} {sz : Nat} (hp : OC P f ys [] (.own 0) [.row e sz xs]) (k : CL P ops s nds1 vals r [.row e sz xs] XL) (hx : AV.idsOkL (fun _ => false) xs = true := by simp only [push_cast]) (hol : ops[i]? = some o := by exact Go.Abs.evT)
    (ho : o.op = .call { callee := .value (.func f), args := args, argTypes := ts } := by rfl) (hg : gd ops { s with fr := needFr s.fr vals (nds1.getD i []) } o = some true := by exact Go.Abs.evT) (hc : callable P f = true := by exact Go.Abs.evT)
    (hsub : HandL [] (args.toList.map (AS.ev { s with fr := needFr s.fr vals (nds1.getD i []) })) ys := by
      exact Go.Abs.evH)
    (hv : vals.getD i .any = .own s.ob.length := by rfl) : CL P ops s nds1 vals (i :: r) [] XL :=
  ⟨_, fun o' ho' => by
    have : o' = o := Option.some.inj (ho'.symm.trans hol)
    subst this
    rw [hv]
    exact CSpec.callO (s := { s with fr := needFr s.fr vals (nds1.getD i []) }) hp hx hg ho hc hsub, k⟩
end
set_option linter.unusedSectionVars false
section
variable {P : Program} {ops : Array Oper} {E : Env} {s s' : AS} {ρ σ : List Value} {B : Nat → Prop} {a : Act} {w w' : World} {o : Oper} {rest : List Oper} {Q : AS → Prop} {R : Exit → AS → Prop}
end
set_option linter.unusedSectionVars false
section
variable {P : Program} {ops : Array Oper} {E : Env} {s s' : AS} {ρ σ : List Value} {B : Nat → Prop} {a : Act} {w w' : World} {o : Oper} {rest : List Oper} {Q : AS → Prop} {R : Exit → AS → Prop} {nds : List (List (Nat × Option Nat))} {vals : List AV} {G : Prop}
end
set_option linter.unusedSectionVars false
set_option linter.unnecessarySimpa false
section
variable {P : Program} {ops : Array Oper} {E : Env} {s s' : AS} {ρ ρ' : List Value} {B B' : Nat → Prop} {a a' : Act} {w w' : World} {o : Oper} {rest : List Oper} {Q : AS → Prop} {R : Exit → AS → Prop} {nds : List (List (Nat × Option Nat))} {vals : List AV} {G : Prop}
def slotO (T : TypeId) (z : List Value) (b : Bool) : Ob := match b with | true => .box T (z.map AV.val) | false => .gone
theorem Ob.inval_ids {k : Nat} {o : Ob} (h : obIds (· != k) o = true) : Ob.inval k o = o := by
  cases o with
  | box T cs =>
    simp only [Ob.inval, Ob.box.injEq, true_and]
    simp only [obIds] at h
    refine (List.map_congr_left (g := id) fun x hx => ?_).trans (List.map_id _)
    unfold AV.inval
    rw [if_pos ((AV.idsOkL_iff _ _).1 h x hx)]; rfl
  | row T sz xs =>
    simp only [obIds] at h
    simp only [Ob.inval]
    rw [if_pos h]
  | mp es => rfl
  | gone => rfl
theorem RJ.gone (h : RJ E s s.ob ρ B w) : RJ E s (s.ob ++ [.gone]) (ρ ++ [undef]) B w := by
  have h1 : RW E (s.ob ++ [.gone]) (ρ ++ [undef]) B w := h.1.new (same_refl w) trivial (by intro b hb; cases hb)
  exact ⟨h1, h.2.chg ⟨rfl, rfl, rfl, Nat.le_refl _, fun _ _ _ => rfl, Dof.new h.1.len (n := w.heap.size) (by intro b hb; cases hb), fun _ h => h, fun _ h => .inl h⟩ h1.bd⟩
theorem RJ.fill {T : TypeId} {z : List Value} {ob X : List Ob} {k : Nat} (h : RJ E s (ob ++ [slotO T z false] ++ X) ρ B w) (hk : ob.length = k) (hm : E.ρ0.length ≤ k ∧ E.pp.length ≤ k) (hone : ∀ x ∈ z.map AV.val, x.one = true) (hob : ob.all (obIds (· != k)) = true) (hX : X.all (obIds (· != k)) = true) :
    RJ E s (ob ++ [slotO T z true] ++ X) (ρ.set k (.pointer (some ⟨w.heap.size, 0, none⟩))) B (w.alloc (.cells z.toArray T)) := by
  obtain ⟨h, hj⟩ := h
  subst hk
  have hs := same_alloc w (.cells z.toArray T)
  have hBw : ∀ b, B b → (w.alloc (.cells z.toArray T)).heap[b]? = w.heap[b]? := fun b hb => hs.block b (h.blt b hb)
  have hsz : (w.alloc (.cells z.toArray T)).heap.size = w.heap.size + 1 := by simp
  have hlen := h.len
  have hkl : ob.length < ρ.length := by rw [hlen]; simp
  have tk : ∀ {i : Nat} {o : Ob}, (ob ++ [slotO T z true] ++ X)[i]? = some o → (i = ob.length ∧ o = slotO T z true) ∨ (i ≠ ob.length ∧ (ob ++ [slotO T z false] ++ X)[i]? = some o ∧ obIds (· != ob.length) o = true) := by
    intro i o hi
    rw [List.append_assoc] at hi
    rw [List.append_assoc]
    rcases Nat.lt_trichotomy i ob.length with hlt | rfl | hgt
    · rw [List.getElem?_append_left hlt] at hi
      refine .inr ⟨Nat.ne_of_lt hlt, by rw [List.getElem?_append_left hlt]; exact hi, ?_⟩
      exact List.all_eq_true.1 hob o (List.mem_of_getElem? hi)
    · rw [List.getElem?_append_right (Nat.le_refl _), Nat.sub_self] at hi
      exact .inl ⟨rfl, (by simpa using hi.symm)⟩
    · rw [List.getElem?_append_right (Nat.le_of_lt hgt)] at hi
      have e : i - ob.length = (i - ob.length - 1) + 1 := by omega
      rw [e] at hi
      refine .inr ⟨Nat.ne_of_gt hgt, ?_, ?_⟩
      · rw [List.getElem?_append_right (Nat.le_of_lt hgt), e]; simpa using hi
      · have hi' : X[i - ob.length - 1]? = some o := by simpa using hi
        exact List.all_eq_true.1 hX o (List.mem_of_getElem? hi')
  have hne : ∀ {i : Nat} {v u : Value}, i ≠ ob.length → (ρ.set ob.length v)[i]? = some u → ρ[i]? = some u := fun hi h => by rw [List.getElem?_set_ne (Ne.symm hi)] at h; exact h
  have hself : ∀ {v u : Value}, (ρ.set ob.length v)[ob.length]? = some u → u = v := fun h => by rw [List.getElem?_set_self hkl] at h; exact (Option.some.inj h).symm
  have hrw : RW E (ob ++ [slotO T z true] ++ X) (ρ.set ob.length (.pointer (some ⟨w.heap.size, 0, none⟩))) B (w.alloc (.cells z.toArray T)) := by
    refine { ep := h.ep, os := hs.os.trans h.os, tape := hs.tape.trans h.tape, output := hs.output.trans h.output, size := Nat.le_trans h.size hs.size,
             block := fun k h1 h2 => (hs.block k (Nat.lt_of_lt_of_le h1 h.size)).trans (h.block k h1 h2), pre := ?_, bsub := h.bsub, bnew := h.bnew,
             blt := fun b hb => Nat.lt_of_lt_of_le (h.blt b hb) hs.size, len := by simpa using hlen, obs := ?_, dis := ?_, prv := ?_ }
    · intro j v h1 h2
      have hj : j < ob.length := by
        rcases h1 with h1 | h1
        · have := get_lt h1; omega
        · have := get_lt h1; omega
      rw [List.getElem?_set_ne (by omega)]; exact h.pre j v h1 h2
    · intro i o hi
      rcases tk hi with ⟨rfl, rfl⟩ | ⟨h1, h2, h3⟩
      · refine ⟨w.heap.size, z, (0, 0), List.getElem?_set_self hkl, alloc_get _ _, .inl (by simp), RelL.vals z, fun c hc => AV.oc_of (hone c hc)⟩
      · have := RO.inval (k := ob.length) (v' := .pointer (some ⟨w.heap.size, 0, none⟩)) hBw h1 (fun u b hl hu hbu => hs.block b (h.prv i o u b h2 hl hu hbu).2.1) (h.obs i o h2)
        rw [Ob.inval_ids h3] at this
        exact this
    · intro i j o1 o2 u1 u2 b hij h1 l1 h2 l2 r1 r2 b1 b2
      rcases tk h1 with ⟨rfl, rfl⟩ | ⟨p1, p2, p3⟩ <;> rcases tk h2 with ⟨rfl, rfl⟩ | ⟨q1, q2, q3⟩
      · exact hij rfl
      · have e1 := hself r1
        subst e1
        have := (h.prv j o2 u2 b q2 l2 (hne q1 r2) b2).2.1
        simp only [blk, Option.some.injEq] at b1
        omega
      · have e1 := hself r2
        subst e1
        have := (h.prv i o1 u1 b p2 l1 (hne p1 r1) b1).2.1
        simp only [blk, Option.some.injEq] at b2
        omega
      · exact h.dis i j o1 o2 u1 u2 b hij p2 l1 q2 l2 (hne p1 r1) (hne q1 r2) b1 b2
    · intro i o u b hi hl hu hbu
      rcases tk hi with ⟨rfl, rfl⟩ | ⟨p1, p2, p3⟩
      · have e1 := hself hu
        subst e1
        simp only [blk, Option.some.injEq] at hbu
        subst hbu
        exact ⟨fun hB => by have := h.blt _ hB; omega, by omega, .inl h.size⟩
      · obtain ⟨a1, a2, a3⟩ := h.prv i o u b p2 hl (hne p1 hu) hbu
        exact ⟨a1, Nat.lt_of_lt_of_le a2 hs.size, a3⟩
  refine ⟨hrw, hj.chg ⟨hs.os, hs.tape, hs.output, hs.size, fun b hb _ => hs.block b hb, ?_, fun _ h => h, fun _ h => .inl h⟩ hrw.bd⟩
  rintro b ⟨i, o, u, h1, h2, h3, h4⟩
  rcases tk h1 with ⟨rfl, rfl⟩ | ⟨p1, p2, p3⟩
  · have e1 := hself h3
    subst e1
    simp only [blk, Option.some.injEq] at h4
    exact .inr (Nat.le_of_eq h4)
  · exact .inl ⟨i, o, u, p2, h2, hne p1 h3, h4⟩
theorem AS.ev_ob (s : AS) (X : List Ob) : AS.ev { s with ob := X } = AS.ev s := by
  funext y
  cases y with
  | const v => cases v <;> rfl
  | _ => rfl
def CLA (P : Program) (ops : Array Oper) (s : AS) (T : TypeId) (z : List Value) (nds1 : List (List (Nat × Option Nat))) (vals : List AV) : List Nat → List Ob → List Ob → Prop
  | [], X, XL => X = XL
  | i :: r, X, XL => ∃ X', X'.all (obIds (· != s.ob.length)) = true ∧ (∀ bb o, ops[i]? = some o → CSpec P ops o { s with fr := needFr s.fr vals (nds1.getD i []), ob := s.ob ++ [slotO T z bb] } X X' (vals.getD i .any)) ∧ CLA P ops s T z nds1 vals r X' XL
theorem CLA.obs {T : TypeId} {z : List Value} {nds1 : List (List (Nat × Option Nat))} : ∀ {ci : List Nat} {X XL : List Ob}, X.all (obIds (· != s.ob.length)) = true → CLA P ops s T z nds1 vals ci X XL → ∃ obs : Nat → List Ob, obs 0 = X ∧ obs ci.length = XL ∧ (∀ k, (obs k).all (obIds (· != s.ob.length)) = true) ∧
    ∀ bb l o, l < ci.length → ops[ci.getD l 0]? = some o → CSpec P ops o { s with fr := needFr s.fr vals (nds1.getD (ci.getD l 0) []), ob := s.ob ++ [slotO T z bb] } (obs l) (obs (l + 1)) (vals.getD (ci.getD l 0) .any)
  | [], X, XL, hX, h => ⟨fun _ => X, rfl, h, fun _ => hX, fun bb l o hl => by simp at hl⟩
  | i :: r, X, XL, hX, ⟨X', h0, h1, h2⟩ => by
    obtain ⟨obs, a1, a2, a4, a3⟩ := CLA.obs h0 h2
    refine ⟨fun l => match l with | 0 => X | l + 1 => obs l, rfl, a2, fun k => ?_, fun bb l o hl ho => ?_⟩
    · cases k with
      | zero => exact hX
      | succ k => exact a4 k
    · cases l with
      | zero =>
        have := h1 bb o (by simpa using ho)
        simp only [List.getD_cons_zero]
        rw [a1]; exact this
      | succ l =>
        simp only [List.getD_cons_succ] at ho ⊢
        exact a3 bb l o (by simpa using hl) ho
section cl
variable {T : TypeId} {z : List Value} {nds1 : List (List (Nat × Option Nat))} {X XL : List Ob} {i : Nat} {r : List Nat}
theorem CLA.nil : CLA P ops s T z nds1 vals [] X X := rfl
end cl
def chIds (p : Nat → Bool) (ci : List Nat) : Nat → List AV → Bool
  | _, [] => true
  | i, x :: r => (bif ciB ci i then x.idsOk p else true) && chIds p ci (i + 1) r
attribute [push_cast] chIds slotO cond_true cond_false
end
set_option linter.unusedSectionVars false
section
variable {P : Program} {ops : Array Oper} {E : Env} {s s' : AS} {ρ σ : List Value} {B : Nat → Prop} {a : Act} {w w' : World} {o : Oper} {rest : List Oper} {Q : AS → Prop} {R : Exit → AS → Prop} {nds : List (List (Nat × Option Nat))} {vals : List AV} {G : Prop}
theorem NSpec.callV {f : FuncId} {g : Operand} {cap : List AV} {args : Array Operand} {ts : Array TypeId} {ys : List AV} {r : AV} (hgd : gd ops s o = some true) (ho : o.op = .call { callee := .value g, args := args, argTypes := ts }) (hg : s.ev g = .fn (.func f) [] cap) (hc : callable P f = true)
    (hp : PC P f ys r) (hsub : SubL (args.toList.map s.ev ++ cap) ys) : NSpec P ops o s r := by
  intro E hE ρ B a w ob hs K Q' hK
  rw [if_pos (gd_wanted (s := { s with ob := s.ob ++ ob }) hgd hs)]
  have hev : AS.ev { s with ob := s.ob ++ ob } = s.ev := funext fun y => by cases y <;> rfl
  have hfn := hs.ev g
  rw [hev, hg] at hfn
  obtain ⟨v, hv⟩ : ∃ v, a.eval g = v := ⟨_, rfl⟩
  rw [hv] at hfn
  cases hfn with
  | fn r1 r2 =>
    rename_i cs ds
    cases r1
    have he : (execOp a.eval o).run P w = .ok (.enter f (args.map a.eval ++ ds.toArray)) w := by
      simp only [execOp, ho]; exact run_callV hc (by simpa using hv)
    have hrel0 : RelL w B E.bs ρ (args.toList.map s.ev) (args.toList.map a.eval) := by have := RelL.map_ev hs args.toList; rwa [hev] at this
    have hrel : RelL w B E.bs ρ (args.toList.map s.ev ++ cap) (args.toList.map a.eval ++ ds) := hrel0.append r2
    refine owp_enter he ?_
    have hargs : args.map a.eval ++ ds.toArray = (args.toList.map a.eval ++ ds).toArray := by apply Array.ext'; simp
    rw [hargs]
    refine hp.2 E.bs w [] B _ (hE.glb.call hs.rw_ (fun _ h => h) (by intro v hv; simp at hv)) hs.rw_.callee (hsub.rel (Nat.le_refl _) hrel) _ ?_
    rintro r' v τ' ρ' B' w' ⟨rfl, rfl⟩ hw hv
    have hρ : ρ' = [] := by have := hw.len; simpa using this
    subst hρ
    obtain ⟨hb, hsame⟩ := hs.rw_.back hw
    refine ⟨v, rfl, hK _ _ B' (hs.back hw).rj hw.bsub (fun b h => hsame.block b (hs.rw_.blt b h)) ?_⟩
    refine (hv.mono (fun _ h => h) (fun _ _ => rfl) (Nat.le_refl _) (fun _ _ h => h)).ids (p := fun _ => false) ?_ hp.1
    intro _ _ h; simp at h
theorem Dr.callV {f : FuncId} {g : Operand} {cap : List AV} {args : Array Operand} {ts : Array TypeId} {ys : List AV} {r : AV} (hp : PC P f ys r) (k : Dr P ops s nds (vals ++ [r]) G) (hn : ndsB nds = true := by first | rfl | decide) (hol : ops[vals.length]? = some o := by exact Go.Abs.evT)
    (ho : o.op = .call { callee := .value g, args := args, argTypes := ts } := by rfl) (hgd : gd ops { s with fr := needFr s.fr vals (nds.getD vals.length []) } o = some true := by exact Go.Abs.evT) (hg : AS.ev { s with fr := needFr s.fr vals (nds.getD vals.length []) } g = .fn (.func f) [] cap := by exact Go.Abs.evT) (hc : callable P f = true := by first | exact Go.Abs.evT | assumption)
    (hsub : HandL [] (args.toList.map (AS.ev { s with fr := needFr s.fr vals (nds.getD vals.length []) }) ++ cap) ys := by
      exact Go.Abs.evH) : Dr P ops s nds vals G :=
  Dr.step hn hol (NSpec.callV (s := { s with fr := needFr s.fr vals (nds.getD vals.length []) }) hgd ho hg hc hp (SubL.of hsub)) k
end
set_option linter.unusedSectionVars false
set_option linter.unnecessarySimpa false
section
variable {P : Program} {ops : Array Oper} {E : Env} {s s' : AS} {ρ σ : List Value} {B : Nat → Prop} {a : Act} {w w' : World} {o : Oper} {rest : List Oper} {Q : AS → Prop} {R : Exit → AS → Prop}
end
set_option linter.unusedSectionVars false
section
variable {P : Program} {ops : Array Oper} {E : Env} {s s' : AS} {ρ σ : List Value} {B : Nat → Prop} {a : Act} {w w' : World} {o : Oper} {rest : List Oper} {Q : AS → Prop} {R : Exit → AS → Prop}
end
set_option linter.unusedSectionVars false
section
variable {P : Program} {ops : Array Oper} {E : Env} {s s' : AS} {ρ : List Value} {B : Nat → Prop} {a : Act} {w w' : World} {o : Oper} {rest : List Oper} {Q : AS → Prop} {R : Exit → AS → Prop} {nds : List (List (Nat × Option Nat))} {vals : List AV} {G : Prop}
end
set_option linter.unusedSectionVars false
section
variable {P : Program} {ops : Array Oper} {E : Env} {s s' : AS} {ρ : List Value} {B : Nat → Prop} {a : Act} {w w' : World} {o : Oper} {rest : List Oper} {Q : AS → Prop} {R : Exit → AS → Prop}
end
set_option linter.unusedSectionVars false
section
variable {P : Program} {ops : Array Oper} {E : Env} {s s' : AS} {o : Oper} {Q : AS → Prop}
theorem wpOpIn_mono2 {F : Fence} {n : Nat} {i : Nat} {K K' : Act → World → Prop} {Q Q' : Exit → Act → World → Prop} {a : Act} {w : World} (h : ∀ a w, K a w → K' a w) (hq : ∀ e a w, e ≠ .normal → Q e a w → Q' e a w)
    (hh : wpOpIn F n P ops Q i K a w) : wpOpIn F n P ops Q' i K' a w := by
  unfold wpOpIn at *
  split
  · rename_i hn; simp only [hn] at hh; exact h _ _ hh
  · rename_i o ho
    simp only [ho] at hh
    split
    · rename_i hw; simp only [hw, if_true] at hh; exact wpIn_mono2 h hq hh
    · rename_i hw; simp only [hw] at hh; exact ⟨hh.1, h _ _ hh.2⟩
theorem wpAnyIn_monoQ {F : Fence} {n : Nat} {md : Region.Mode} {Q Q' : Exit → Act → World → Prop} (hq : ∀ e a w, Q e a w → Q' e a w) : ∀ (fuel : Nat) (listed : Array Bool) (a : Act) (w : World),
    wpAnyIn F n P md ops Q fuel listed a w → wpAnyIn F n P md ops Q' fuel listed a w
  | 0, _, _, _, h => ⟨h.1, hq _ _ _ h.2⟩
  | fuel + 1, listed, a, w, h => ⟨fun e => hq _ _ _ (h.1 e), fun i hi => wpOpIn_mono2 (fun a w h => wpAnyIn_monoQ hq fuel _ a w h) (fun e a w _ h => hq e a w h) (h.2 i hi)⟩
def placeB (P : Program) (ops : Array Oper) (s : AS) (j : Nat) : Bool :=
  match ops[j]? with
  | some o => o.guard.isNone && match o.op with
    | .fieldAddr T x f => (fld P T f).isSome && (match s.ev x with | .ptr _ _ => true | _ => false)
    | .move _ => true
    | .binOp op _ x y _ => match s.ev x, s.ev y with
      | .val a, .val b => (binV op (.val a) (.val b)).isSome
      | _, _ => false
    | _ => false
  | none => false
theorem placeB.spec {j : Nat} (h : placeB P ops s j = true) {ρ : List Value} {B : Nat → Prop} {a : Act} {w : World} (hs : RS E s ρ B a w) : ∃ o v, ops[j]? = some o ∧ YieldsFenced P ops o v a := by
  unfold placeB at h
  cases ho : ops[j]? with
  | none => simp [ho] at h
  | some o =>
    simp only [ho, Bool.and_eq_true, Option.isNone_iff_eq_none] at h
    obtain ⟨h1, h2⟩ := h
    have hw : Region.wanted o (yielded ops a.tmps) = true := by unfold Region.wanted; rw [h1]
    split at h2
    · rename_i T x f hop
      simp only [Bool.and_eq_true] at h2
      obtain ⟨h2, h3⟩ := h2
      obtain ⟨⟨o', k'⟩, hf⟩ := Option.isSome_iff_exists.1 h2
      split at h3
      · rename_i k off e
        have hy := hs.ev x
        rw [e] at hy
        generalize hu : a.eval x = u at hy
        cases hy with
        | ptr hp =>
          rename_i b
          refine ⟨o, .pointer (some ⟨b, off + o', none⟩), rfl, .inl ⟨hw, fun w' => ?_⟩, fun w' => by unfold Oper.about; rw [hop]⟩
          simp only [execOp, hop, hu]
          exact val_run (run_fieldAt hf)
      · cases h3
    · rename_i x hop
      refine ⟨o, a.eval x, rfl, .inl ⟨hw, fun w' => ?_⟩, fun w' => by unfold Oper.about; rw [hop]⟩
      simp [execOp, hop]
    · rename_i op T x y T2 hop
      split at h2
      · rename_i u v e1 e2
        obtain ⟨z, hz⟩ := Option.isSome_iff_exists.1 h2
        have hx : a.eval x = u := (e1 ▸ hs.ev x : Rel w B E.bs ρ (.val u) (a.eval x)).val_eq
        have hy : a.eval y = v := (e2 ▸ hs.ev y : Rel w B E.bs ρ (.val v) (a.eval y)).val_eq
        obtain ⟨r, _, hr, _⟩ := binV_run (P := P) (w := w) (B := B) (E := E) (ρ := ρ) (T := T) hz (.val u) (.val v)
        refine ⟨o, r, rfl, .inl ⟨hw, fun w' => ?_⟩, fun w' => by unfold Oper.about; rw [hop]⟩
        obtain ⟨r', h3, h4, h5⟩ := binV_run (P := P) (w := w') (B := B) (E := E) (ρ := ρ) (T := T) hz (.val u) (.val v)
        have hrr : r' = r := by rw [hr] at h4; injection h4 with h4; exact h4.symm
        subst hrr
        simp only [execOp, hop, hx, hy]
        exact val_run (by simp only [Sem.run_bind, h5 x y, Result.andThen_ok]; exact h3)
      · cases h2
    · cases h2
theorem yields_wpOpIn {F : Fence} {n : Nat} {Q : Exit → Act → World → Prop} {i : Nat} {o : Oper} {v : Value} {a : Act} (hd : ∀ c, o.op ≠ .defer c) (hi : ops[i]? = some o) (hy : YieldsFenced P ops o v a)
    {K : Act → World → Prop} {w : World} (h : K (a.put o.dst v) w) : wpOpIn F n P ops Q i K a w := by
  unfold wpOpIn
  simp only [hi]
  have hab : ∀ f, o.about P w a.eval = some f → F.fn f := fun f hf => by rw [hy.2 w] at hf; cases hf
  rcases hy.1 with ⟨hw, hv⟩ | ⟨hw, rfl⟩
  · simp only [hw, if_true, Oper.wpIn, Oper.semAt_eq _ _ _ hd, hv w, Oper.uponIn]; exact ⟨hab, h⟩
  · simp only [hw, Bool.false_eq_true, if_false]; exact ⟨hab, h⟩
theorem wpOpIn_putR {F : Fence} {n : Nat} {Q : Exit → Act → World → Prop} {j : Nat} {oi oj : Oper} {v : Value} (hdj : ∀ c, oj.op ≠ .defer c) (hj : ops[j]? = some oj) (hap : oi.apart ops oj = true)
    (hsi : ∀ cs b, oi.op ≠ .select cs b) (hsj : ∀ cs b, oj.op ≠ .select cs b)
    (hQ : ∀ c a w, Q (.panic c) (a.put oi.dst v) w → Q (.panic c) a w) {K : Act → World → Prop} {a : Act} {w : World}
    (hy : YieldsFenced P ops oi v a) (h : wpOpIn F n P ops Q j K (a.put oi.dst v) w) :
    wpOpIn F n P ops Q j (fun a' w' => YieldsFenced P ops oi v a' ∧ K (a'.put oi.dst v) w') a w := by
  obtain ⟨h1, h2, h3⟩ := Oper.apart_spec hap
  have keep : ∀ (a : Act), YieldsFenced P ops oi v a → ∀ u, YieldsFenced P ops oi v (a.put oj.dst u) := fun a hy u =>
    hy.of_same (execOp_put oi hsi a oj.dst u h3) (wanted_put oi a oj.dst u h3) (fun w => about_put oi w a oj.dst u h3)
  have keepD : ∀ d, YieldsFenced P ops oi v { a with defers := d :: a.defers } := fun d => hy.of_same rfl rfl (fun _ => rfl)
  unfold wpOpIn at *
  simp only [hj] at *
  rw [wanted_put oj a oi.dst v h1, about_put oj w a oi.dst v h1] at h
  split
  · rename_i hw
    simp only [hw, if_true] at h
    unfold Oper.wpIn at *
    rw [about_put oj w a oi.dst v h1] at h
    refine ⟨h.1, ?_⟩
    have h := h.2
    rw [Oper.semAt_eq _ _ _ hdj, execOp_put oj hsj a oi.dst v h1] at h
    rw [Oper.semAt_eq _ _ _ hdj]
    generalize (execOp a.eval oj).run P w = r at *
    cases r with
    | ok x w' =>
      cases x <;> simp only [Oper.uponIn] at h ⊢
      case value u => exact ⟨keep a hy u, by rw [← Act.put_comm a v u h2]; exact h⟩
      case skip => exact ⟨keep a hy _, by rw [← Act.put_comm a v undef h2]; exact h⟩
      case defer d =>
        refine ⟨keep _ (keepD d) _, ?_⟩
        rw [← Act.put_comm _ v undef h2, ← Act.put_defers]
        exact h
      case enter f args =>
        refine ⟨h.1, CallsIn.mono h.2 fun e w'' he => ?_⟩
        cases e with
        | returned u => exact ⟨keep a hy u, by rw [← Act.put_comm a v u h2]; exact he⟩
        | panicked c => exact hQ _ _ _ he
        | outgrown => exact he
      case row row args => exact ⟨h.1, RowsIn.mono h.2 fun u w'' he => ⟨keep a hy u, by rw [← Act.put_comm a v u h2]; exact he⟩⟩
      case round l f tmps assign body =>
        refine ⟨h.1, RoundIn.mono h.2 fun e w'' he => ?_⟩
        cases e with
        | returned u => exact ⟨keep a hy u, by rw [← Act.put_comm a v u h2]; exact he⟩
        | panicked c => exact hQ _ _ _ he
        | outgrown => exact he
    | halt x w' =>
      cases x <;> simp only [Oper.uponIn] at h ⊢
      case panic u => exact hQ _ _ _ h
  · rename_i hw
    simp only [hw] at h
    exact ⟨h.1, keep a hy _, by rw [← Act.put_comm a v undef h2]; exact h.2⟩
theorem wpAnyIn_firstR {F : Fence} {n : Nat} {md : Region.Mode} {Q : Exit → Act → World → Prop} {i : Nat} {oi : Oper} {v : Value} (hdf : ∀ (j : Nat) (o : Oper) c, ops[j]? = some o → o.op ≠ .defer c) (hi : ops[i]? = some oi) (hsel : ∀ (j : Nat) (o : Oper) cs b, ops[j]? = some o → o.op ≠ .select cs b)
    (hQ : ∀ c a w, Q (.panic c) (a.put oi.dst v) w → Q (.panic c) a w) :
    ∀ (fuel : Nat) (listed : Array Bool) (a : Act) (w : World),
      (∀ j oj, ops[j]? = some oj → j ≠ i → listed.getD j true = false → (∀ e ∈ oj.after, Region.binds md e = true → e.on ≠ i) → oi.apart ops oj = true) →
      i ∈ Region.ready md ops listed → YieldsFenced P ops oi v a →
      wpAnyIn F n P md ops Q fuel (listed.setIfInBounds i true) (a.put oi.dst v) w → wpAnyIn F n P md ops Q (fuel + 1) listed a w := by
  intro fuel
  induction fuel with
  | zero =>
    intro listed a w _ hr hy H
    refine ⟨fun h => (by rw [h] at hr; cases hr), fun j hj => ?_⟩
    by_cases hji : j = i
    · subst hji; exact yields_wpOpIn (fun c => hdf _ _ c hi) hi hy H
    · have := ready_mono hj hji
      rw [H.1] at this
      cases this
  | succ fuel ih =>
    intro listed a w hfree hr hy H
    refine ⟨fun h => (by rw [h] at hr; cases hr), fun j hj => ?_⟩
    by_cases hji : j = i
    · subst hji; exact yields_wpOpIn (fun c => hdf _ _ c hi) hi hy H
    · have h1 := H.2 j (ready_mono hj hji)
      obtain ⟨hjun, oj, hoj, hall⟩ := mem_ready.1 hj
      have hnot : ∀ e ∈ oj.after, Region.binds md e = true → e.on ≠ i := fun e he hb heq => by
        have h1 := hall e he hb
        have h0 := (mem_ready.1 hr).1
        rw [heq] at h1
        rcases Nat.lt_or_ge i listed.size with h' | h'
        · simp [h'] at h0 h1; rw [h0] at h1; cases h1
        · simp [Array.getElem?_eq_none h'] at h1
      have h2 := wpOpIn_putR (fun c => hdf _ _ c hoj) hoj (hfree j oj hoj hji hjun hnot) (fun cs b => hsel i oi cs b hi) (fun cs b => hsel j oj cs b hoj) hQ hy h1
      have hfree' : ∀ k ok, ops[k]? = some ok → k ≠ i → (listed.setIfInBounds j true).getD k true = false →
          (∀ e ∈ ok.after, Region.binds md e = true → e.on ≠ i) → oi.apart ops ok = true := fun k ok hk hki hun hno => by
        refine hfree k ok hk hki ?_ hno
        by_cases hjk : j = k
        · subst hjk; exact hjun
        · rw [getD_set_ne true hjk] at hun; exact hun
      refine wpOpIn_mono (fun a' w' h3 => ih (listed.setIfInBounds j true) a' w' hfree' (ready_mono hr (Ne.symm hji)) h3.1 ?_) h2
      rw [Array.setIfInBounds_comm _ _ hji]
      exact h3.2
def noDefer (ops : Array Oper) : Bool := ops.all fun o => match o.op with | .defer .. => false | _ => true
theorem noDefer_spec (h : noDefer ops = true) (j : Nat) (o : Oper) (c) (ho : ops[j]? = some o) : o.op ≠ .defer c := by
  intro heq
  have := Array.all_eq_true_iff_forall_mem.1 h o (Array.mem_of_getElem? ho)
  simp [heq] at this
theorem AAny.first {fuel : Nat} {listed : Array Bool} (j : Nat) (k : ARun P ops (ops[j]?).toList s (fun s' => AAny P ops fuel (listed.setIfInBounds j true) Q s'))
    (hp : placeB P ops s j = true := by kernel_rfl) (hns : (Region.noSelect ops && noDefer ops) = true := by kernel_rfl) (hf : Region.free .any ops listed j = true := by kernel_rfl) (hr : (Region.ready .any ops listed).contains j = true := by kernel_rfl) :
    AAny P ops (fuel + 1) listed Q s := by
  intro E hE ρ B a w hs Q' hQ
  obtain ⟨o, v, ho, hy⟩ := placeB.spec hp hs
  refine wpAnyIn_monoQ (Q := fun e a w => e = .normal ∧ Q' e a w) (fun e a w h => h.2) _ _ _ _ ?_
  rw [Bool.and_eq_true] at hns
  refine wpAnyIn_firstR (oi := o) (v := v) (noDefer_spec hns.2) ho (Region.noSelect_spec hns.1) (fun c a w h => by cases h.1) fuel listed a w (Region.free_spec ho hf) (by simpa using hr) hy ?_
  rw [ho] at k
  have := k E hE ρ B a w hs (fun e a w => match e with | .normal => wpAnyIn (FR E.rnd) 0 P .any ops (fun e a w => e = .normal ∧ Q' e a w) fuel (listed.setIfInBounds j true) a w | e => False)
    (fun s' ρ' B' a' w' q hs' => q E hE ρ' B' a' w' hs' _ (fun s2 ρ2 B2 a2 w2 q2 hs2 => ⟨rfl, hQ _ _ _ _ _ q2 hs2⟩))
  simp only [Option.toList_some, lwp] at this
  rcases hy.1 with ⟨hw, hv⟩ | ⟨hw, hv⟩
  · rw [if_pos hw] at this
    unfold owp Oper.wpIn at this
    have h2 := this.2
    rw [Oper.semAt_eq _ _ _ (fun c => noDefer_spec hns.2 j o c ho), hv w] at h2
    exact h2
  · rw [if_neg (by rw [hw]; simp)] at this
    rw [hv]; exact this
end
set_option linter.unusedSectionVars false
section
variable {P : Program} {ops : Array Oper} {E : Env} {s s' : AS} {o : Oper} {rest : List Oper} {Q : AS → Prop}
end
set_option linter.unusedSectionVars false
section
variable {P : Program} {ops : Array Oper} {s : AS} {Q : AS → Prop}
theorem AAny.three {fuel : Nat} {listed : Array Bool} (j1 j2 j3 : Nat) (k1 : ARun P ops (ops[j1]?).toList s (fun s' => AAny P ops fuel (listed.setIfInBounds j1 true) Q s')) (k2 : ARun P ops (ops[j2]?).toList s (fun s' => AAny P ops fuel (listed.setIfInBounds j2 true) Q s'))
    (k3 : ARun P ops (ops[j3]?).toList s (fun s' => AAny P ops fuel (listed.setIfInBounds j3 true) Q s'))
    (ho : ((ops[j1]?).isSome && ((ops[j2]?).isSome && (ops[j3]?).isSome)) = true := by kernel_rfl) (h : Region.ready .any ops listed = [j1, j2, j3] := by kernel_rfl) : AAny P ops (fuel + 1) listed Q s := by
  refine AAny.step h (by simp) fun i hi => ?_
  simp only [Bool.and_eq_true] at ho
  obtain ⟨o1, h1⟩ := Option.isSome_iff_exists.1 ho.1
  obtain ⟨o2, h2⟩ := Option.isSome_iff_exists.1 ho.2.1
  obtain ⟨o3, h3⟩ := Option.isSome_iff_exists.1 ho.2.2
  have : i = j1 ∨ i = j2 ∨ i = j3 := by simpa using hi
  rcases this with rfl | rfl | rfl
  · exact ⟨o1, h1, by rw [h1] at k1; exact k1⟩
  · exact ⟨o2, h2, by rw [h2] at k2; exact k2⟩
  · exact ⟨o3, h3, by rw [h3] at k3; exact k3⟩
end
end Go.Abs
namespace Go.Proofs.YtokbbdodbjiciaaGreatDoor.C
open Go.Abs
theorem kknown_c (t : Nat) (ht : t < 256) : PC Tryz.prog 153 [u8 t] (bool (kindHas t)) := by
  have k := kof_c t ht
  refine PC.of_bodyW (by simp only [push_cast]) Tryz.func153 rfl (by rw [Tryz.ntmps153]; simp) ?_
  refine AWp.regionW ?_
  refine AWp.regionM fun K1 hK1 => ?_
  refine ARun2.callM (k) ?_
  refine ARun2.endm (hK1 _ ?_)
  refine AWp.regionW ?_
  refine AWp.ret ?_
  try simp only [thenQ, blockQ, noGo]
  refine bodyQ.m ?_
  clear hK1 K1
  first | done | exact Hand.go
theorem sknown_c (c t : Nat) (hc : c = 1 ∨ c = 2) : PC Tryz.prog 174 [nat c, u16 t] (bool (shapeHas c t)) := by
  have k := of_c c t hc
  refine PC.of_bodyW (by simp only [push_cast]) Tryz.func174 rfl (by rw [Tryz.ntmps174]; simp) ?_
  refine AWp.regionW ?_
  refine AWp.regionM fun K1 hK1 => ?_
  refine ARun2.callM (k) ?_
  refine ARun2.endm (hK1 _ ?_)
  refine AWp.regionW ?_
  refine AWp.ret ?_
  try simp only [thenQ, blockQ, noGo]
  refine bodyQ.m ?_
  clear hK1 K1
  first | done | exact Hand.go
theorem shr6 (t : Nat) (h : t < 256) : IntKind.i64.wrap ((N t).fdiv (2 ^ min 6 IntKind.u8.bits)) = N (t / 64) := by
  rw [show (min 6 IntKind.u8.bits) = 6 from rfl, show ((2 : Int) ^ 6) = 64 from rfl, Int.fdiv_eq_ediv_of_nonneg _ (by decide), IntKind.wrap_i64]
  unfold N; omega
theorem shr14 (t : Nat) (h : t < 65536) : IntKind.i64.wrap ((N t).fdiv (2 ^ min 14 IntKind.u16.bits)) = N (t / 16384) := by
  rw [show (min 14 IntKind.u16.bits) = 14 from rfl, show ((2 : Int) ^ 14) = 16384 from rfl, Int.fdiv_eq_ediv_of_nonneg _ (by decide), IntKind.wrap_i64]
  unfold N; omega
theorem natsAt (l : List Nat) (i : Nat) (h : i < l.length) : (nats l)[i]? = some (nat l[i]) := by simp [nats, h]
theorem natsSnoc (l : List Nat) (n : Nat) : nats (l ++ [n]) = nats l ++ [nat n] := by simp [nats]
theorem acc_c (t : Nat) (ht : t < 256) : PC Tryz.prog 117 [u8 t] (nat (actC t)) := by
  have k := kknown_c t ht
  refine PC.of_bodyW (by simp only [push_cast]) Tryz.func117 rfl (by rw [Tryz.ntmps117]; simp) ?_
  refine AWp.regionW ?_
  refine AWp.seqK fun K1 hK1 => ?_
  refine AWp.regionM fun K2 hK2 => ?_
  refine ARun2.callM (k) ?_
  refine ARun2.endm (hK2 _ ?_)
  refine AWp.condLM (fun c0 => ?_) (fun c0 => ?_)
  · skip
    have hr : actC t = 4 := if_pos c0
    refine AWp.regionW ?_
    refine AWp.ret ?_
    try simp only [thenQ, blockQ, noGo]
    refine bodyQ.m ?_
    clear hK2 K2 hK1 K1
    rw [hr]
    try rw [h6]
    first | done | exact Hand.go
  have hr : actC t = t / 64 := if_neg (by rw [c0]; simp)
  have h6 := shr6 t ht
  refine AWp.skip ?_
  refine hK1 _ ?_
  refine AWp.regionW ?_
  refine AWp.ret ?_
  try simp only [thenQ, blockQ, noGo]
  refine bodyQ.m ?_
  clear hK2 K2 hK1 K1
  rw [hr]
  try rw [h6]
  first | done | exact Hand.go
theorem acp_c (t : Nat) (ht : t < 65536) : PC Tryz.prog 155 [u16 t] (nat (actP t)) := by
  have k := sknown_c 1 t (by decide)
  refine PC.of_bodyW (by simp only [push_cast]) Tryz.func155 rfl (by rw [Tryz.ntmps155]; simp) ?_
  refine AWp.regionW ?_
  refine AWp.seqK fun K1 hK1 => ?_
  refine AWp.regionM fun K2 hK2 => ?_
  refine ARun2.callM (k) ?_
  refine ARun2.endm (hK2 _ ?_)
  refine AWp.condLM (fun c0 => ?_) (fun c0 => ?_)
  · skip
    have hr : actP t = 4 := if_pos c0
    refine AWp.regionW ?_
    refine AWp.ret ?_
    try simp only [thenQ, blockQ, noGo]
    refine bodyQ.m ?_
    clear hK2 K2 hK1 K1
    rw [hr]
    try rw [h6]
    first | done | exact Hand.go
  have hr : actP t = t / 16384 := if_neg (by rw [c0]; simp)
  have h6 := shr14 t ht
  refine AWp.skip ?_
  refine hK1 _ ?_
  refine AWp.regionW ?_
  refine AWp.ret ?_
  try simp only [thenQ, blockQ, noGo]
  refine bodyQ.m ?_
  clear hK2 K2 hK1 K1
  rw [hr]
  try rw [h6]
  first | done | exact Hand.go
theorem playF_app (m : List Nat) : ∀ (l : List Nat) (i : Nat), playF i (l ++ m) = if (playF i l).2.2 = true then playF i l else ((playF i l).1 ++ (playF (i + l.length) m).1, (playF i l).2.1 ++ (playF (i + l.length) m).2.1, (playF (i + l.length) m).2.2)
  | [], i => rfl
  | a :: l, i => by
    have h := playF_app m l (i + 1)
    rw [show i + 1 + l.length = i + (a :: l).length by simp; omega] at h
    simp only [List.cons_append, playF]
    by_cases h4 : a = 4
    · simp only [if_pos h4, h]; split <;> rfl
    by_cases h3 : a = 3
    · simp only [if_neg h4, if_pos h3, h]; split <;> rfl
    by_cases h1 : a = 1
    · simp only [if_neg h4, if_neg h3, if_pos h1, if_true]
    by_cases h0 : a = 0
    · simp only [if_neg h4, if_neg h3, if_neg h1, if_pos h0, if_true]
    · simp only [if_neg h4, if_neg h3, if_neg h1, if_neg h0, h]
theorem playF_step (l : List Nat) (i : Nat) (hi : i < l.length) (h : (playF 0 (l.take i)).2.2 = false) : playF 0 (l.take (i + 1)) = ((playF 0 (l.take i)).1 ++ (playF i [l[i]]).1, (playF 0 (l.take i)).2.1 ++ (playF i [l[i]]).2.1, (playF i [l[i]]).2.2) := by
  rw [List.take_succ_eq_append_getElem hi, playF_app, if_neg (by rw [h]; simp), List.length_take, Nat.min_eq_left (by omega), Nat.zero_add]
theorem playF_stop (l : List Nat) (i : Nat) (h : (playF 0 (l.take i)).2.2 = true) : playF 0 l = playF 0 (l.take i) := by
  have := playF_app (l.drop i) (l.take i) 0
  rw [List.take_append_drop, if_pos h] at this
  exact this
theorem playF_four (i a : Nat) (h : a = 4) : playF i [a] = ([i], [], false) := by simp [playF, h]
theorem playF_three (i a : Nat) (h4 : ¬ a = 4) (h : a = 3) : playF i [a] = ([], [i], false) := by simp [playF, h]
theorem playF_one (i a : Nat) (h4 : ¬ a = 4) (h3 : ¬ a = 3) (h : a = 1) : playF i [a] = ([], [i], true) := by simp [playF, h]
theorem playF_zero (i a : Nat) (h4 : ¬ a = 4) (h3 : ¬ a = 3) (h1 : ¬ a = 1) (h : a = 0) : playF i [a] = ([], [], true) := by simp [playF, h]
theorem playF_else (i a : Nat) (h4 : ¬ a = 4) (h3 : ¬ a = 3) (h1 : ¬ a = 1) (h : ¬ a = 0) : playF i [a] = ([], [], false) := by simp [playF, h4, h3, h1, h]
set_option maxRecDepth 100000 in
theorem play_c (l : List Nat) (hl : l.length ≤ 2 ^ 30) : PC Tryz.prog 118 [.sl false 1 (nats l)] (.tup [.sl true 1 (nats (playF 0 l).1), .sl true 1 (nats (playF 0 l).2.1), bool (playF 0 l).2.2]) := by
  refine PC.of_bodyK (by simp only [push_cast]) Tryz.func118 rfl (by rw [Tryz.ntmps118]; simp) ?_
  refine AWp.regionW ?_
  refine AWp.seqK fun K1 hK1 => ?_
  refine AWp.regionW ?_
  refine AWp.block ?_
  -- SLOTS THAT TURN AND ARE NOT TOLD: [2, 3]
  refine AWp.nilOwn 2 3 1 (by simp only [push_cast, ↓reduceIte, Nat.reduceEqDiff, Nat.reduceLT, Nat.reduceAdd, Nat.reduceSub, Nat.reduceMul, Nat.reduceLeDiff, Nat.reducePow, Int.reduceLT, Int.reduceToNat, reduceCtorEq, Int.reduceNeg, Int.reduceEq, Nat.reduceBEq, Nat.reduceBNe, Int.reduceBEq, Int.reduceBNe, String.reduceEq]) ?_
  refine Go.Abs.evS2 ?_
  refine AWp.nilOwn 3 3 1 (by simp only [push_cast, ↓reduceIte, Nat.reduceEqDiff, Nat.reduceLT, Nat.reduceAdd, Nat.reduceSub, Nat.reduceMul, Nat.reduceLeDiff, Nat.reducePow, Int.reduceLT, Int.reduceToNat, reduceCtorEq, Int.reduceNeg, Int.reduceEq, Nat.reduceBEq, Nat.reduceBNe, Int.reduceBEq, Int.reduceBNe, String.reduceEq]) ?_
  refine Go.Abs.evS2 ?_
  refine AWp.loopK [2, 3, 7, 8] (fun (i : Nat) => [(9, nat i)]) (fun i => [.row 3 1 (nats (playF 0 (l.take i)).1), .row 3 1 (nats (playF 0 (l.take i)).2.1)]) (fun i => i ≤ l.length ∧ (playF 0 (l.take i)).2.2 = false) (fun i => l.length - i) (0) ?_ ⟨Nat.zero_le _, rfl⟩ ?_
  · skip
    refine Le.m 2 ?_ ?_
    · first | exact Go.Abs.evM | (refine Go.Abs.evS ?_; try rfl)
    · exact Go.Abs.evN
  · intro i hi K2 hK2
    refine AWp.regionW ?_
    refine AWp.seqK fun K3 hK3 => ?_
    refine AWp.condLM (fun c0 => ?_) (fun c0 => ?_)
    · skip
      have hil : i < l.length := by simpa using c0
      have hst := playF_step l i hil hi.2
      have hln := playF_len (l.take i) 0
      rw [List.length_take] at hln
      obtain ⟨a, ha⟩ : ∃ a, a = l[i] := ⟨_, rfl⟩
      rw [← ha] at hst
      have hat : (nats l)[i]? = some (nat a) := by rw [ha]; exact natsAt l i hil
      refine AWp.skip ?_
      refine hK3 _ ?_
      refine AWp.seqK fun K4 hK4 => ?_
      refine AWp.block ?_
      refine AWp.regionM fun K5 hK5 => ?_
      refine ARun2.indexM (i) (nat a) ?_ ?_
      · exact hat
      refine ARun2.endm (hK5 _ ?_)
      refine AWp.regionW ?_
      refine AWp.block ?_
      refine AWp.seqK fun K6 hK6 => ?_
      refine AWp.block ?_
      refine AWp.seqK fun K7 hK7 => ?_
      refine AWp.block ?_
      refine AWp.seqK fun K8 hK8 => ?_
      refine AWp.block ?_
      refine AWp.seqK fun K9 hK9 => ?_
      refine AWp.block ?_
      refine AWp.seqK fun K10 hK10 => ?_
      refine AWp.seqK fun K11 hK11 => ?_
      refine AWp.regionW ?_
      refine AWp.condLM (fun c1 => ?_) (fun c1 => ?_)
      · skip
        have h4 : a = 4 := by simpa using c1
        rw [playF_four i a h4] at hst
        refine AWp.exit ?_
        try simp only [thenQ, blockQ, noGo, reduceIte, Nat.reduceEqDiff]
        refine hK9 _ ?_
        refine AWp.regionM fun K12 hK12 => ?_
        refine ARun2.appendM ?_ ?_ ?_
        · rw [Facts.eb156, nats_len, List.length_cons, List.length_nil]; omega
        · rw [nats_len, List.length_cons, List.length_nil]; omega
        refine ARun2.endm (hK12 _ ?_)
        refine AWp.exit ?_
        try simp only [thenQ, blockQ, noGo, reduceIte, Nat.reduceEqDiff]
        refine hK4 _ ?_
        refine AWp.regionV ?_
        refine hK2 _ (i + 1) (⟨hil, by rw [hst]⟩) (by omega) ?_
        refine Le.m 2 ?_ ?_
        · refine Go.Abs.evS ?_
          rw [hst]
          simp [nats]
        · exact Go.Abs.evN
      have h4 : ¬ a = 4 := by simpa using c1
      refine AWp.skip ?_
      refine hK11 _ ?_
      refine AWp.seqK fun K13 hK13 => ?_
      refine AWp.regionW ?_
      refine AWp.condLM (fun c2 => ?_) (fun c2 => ?_)
      · skip
        have h3 : a = 3 := by simpa using c2
        rw [playF_three i a h4 h3] at hst
        refine AWp.exit ?_
        try simp only [thenQ, blockQ, noGo, reduceIte, Nat.reduceEqDiff]
        refine hK8 _ ?_
        refine AWp.regionM fun K14 hK14 => ?_
        refine ARun2.appendM ?_ ?_ ?_
        · rw [Facts.eb156, nats_len, List.length_cons, List.length_nil]; omega
        · rw [nats_len, List.length_cons, List.length_nil]; omega
        refine ARun2.endm (hK14 _ ?_)
        refine AWp.exit ?_
        try simp only [thenQ, blockQ, noGo, reduceIte, Nat.reduceEqDiff]
        refine hK4 _ ?_
        refine AWp.regionV ?_
        refine hK2 _ (i + 1) (⟨hil, by rw [hst]⟩) (by omega) ?_
        refine Le.m 2 ?_ ?_
        · refine Go.Abs.evS ?_
          rw [hst]
          simp [nats]
        · exact Go.Abs.evN
      have h3 : ¬ a = 3 := by simpa using c2
      refine AWp.skip ?_
      refine hK13 _ ?_
      refine AWp.seqK fun K15 hK15 => ?_
      refine AWp.regionW ?_
      refine AWp.condLM (fun c3 => ?_) (fun c3 => ?_)
      · skip
        have h1 : a = 1 := by simpa using c3
        rw [playF_one i a h4 h3 h1] at hst
        have hr : playF 0 l = _ := (playF_stop l (i + 1) (by rw [hst])).trans hst
        refine AWp.exit ?_
        try simp only [thenQ, blockQ, noGo, reduceIte, Nat.reduceEqDiff]
        refine hK7 _ ?_
        refine AWp.regionN fun K16 hK16 => ?_
        refine ARun2.appendM ?_ ?_ ?_
        · rw [Facts.eb156, nats_len, List.length_cons, List.length_nil]; omega
        · rw [nats_len, List.length_cons, List.length_nil]; omega
        refine ARun2.endm (hK16 _ ?_)
        refine hK6 _ ?_
        refine AWp.seqK fun K17 hK17 => ?_
        refine AWp.pubD 0 ?_
        refine AWp.pubD 1 ?_
        refine AWp.regionW ?_
        refine AWp.ret ?_
        try simp only [thenQ, blockQ, noGo]
        refine bodyQ.m ?_
        clear hK17 K17 hK16 K16 hK15 K15 hK13 K13 hK11 K11 hK10 K10 hK9 K9 hK8 K8 hK7 K7 hK6 K6 hK5 K5 hK4 K4 hK3 K3 hK2 K2 hK1 K1
        first | (rw [hr]; simp only [List.append_nil, natsSnoc]) | (have h2 := hi.2; rw [List.take_length] at h2; rw [h2])
        first | done | exact Wk.go
      have h1 : ¬ a = 1 := by simpa using c3
      refine AWp.skip ?_
      refine hK15 _ ?_
      refine AWp.regionW ?_
      refine AWp.condLM (fun c4 => ?_) (fun c4 => ?_)
      · skip
        have h0 : a = 0 := by simpa using c4
        rw [playF_zero i a h4 h3 h1 h0] at hst
        have hr : playF 0 l = _ := (playF_stop l (i + 1) (by rw [hst])).trans hst
        refine AWp.exit ?_
        try simp only [thenQ, blockQ, noGo, reduceIte, Nat.reduceEqDiff]
        refine hK6 _ ?_
        refine AWp.seqK fun K18 hK18 => ?_
        refine AWp.pubD 0 ?_
        refine AWp.pubD 1 ?_
        refine AWp.regionW ?_
        refine AWp.ret ?_
        try simp only [thenQ, blockQ, noGo]
        refine bodyQ.m ?_
        clear hK18 K18 hK15 K15 hK13 K13 hK11 K11 hK10 K10 hK9 K9 hK8 K8 hK7 K7 hK6 K6 hK5 K5 hK4 K4 hK3 K3 hK2 K2 hK1 K1
        first | (rw [hr]; simp only [List.append_nil, natsSnoc]) | (have h2 := hi.2; rw [List.take_length] at h2; rw [h2])
        first | done | exact Wk.go
      have h0 : ¬ a = 0 := by simpa using c4
      rw [playF_else i a h4 h3 h1 h0] at hst
      refine AWp.skip ?_
      refine hK10 _ ?_
      refine AWp.exit ?_
      try simp only [thenQ, blockQ, noGo, reduceIte, Nat.reduceEqDiff]
      refine hK4 _ ?_
      refine AWp.regionV ?_
      refine hK2 _ (i + 1) (⟨hil, by rw [hst]⟩) (by omega) ?_
      refine Le.m 2 ?_ ?_
      · refine Go.Abs.evS ?_
        rw [hst]
        simp [nats]
      · exact Go.Abs.evN
    have hil : i = l.length := by have := hi.1; simp at c0; omega
    subst hil
    rw [List.take_length]
    refine AWp.exit ?_
    try simp only [thenQ, blockQ, noGo, reduceIte, Nat.reduceEqDiff]
    refine hK1 _ ?_
    refine AWp.pubD 0 ?_
    refine AWp.pubD 1 ?_
    refine AWp.regionW ?_
    refine AWp.ret ?_
    try simp only [thenQ, blockQ, noGo]
    refine bodyQ.m ?_
    clear hK3 K3 hK2 K2 hK1 K1
    first | (rw [hr]; simp only [List.append_nil, natsSnoc]) | (have h2 := hi.2; rw [List.take_length] at h2; rw [h2])
    first | done | exact Wk.go
theorem pickN_snoc {α : Type} (d : α) (l : List α) (is : List Nat) (j : Nat) : pickN d l (is ++ [j]) = pickN d l is ++ [l.getD j d] := by simp [pickN]
theorem pickN_len {α : Type} (d : α) (l : List α) (is : List Nat) : (pickN d l is).length = is.length := by simp [pickN]
theorem pickC_c (l : List GChunk) (is : List Nat) (hl : l.length ≤ 2 ^ 30) (hs : is.length ≤ 2 ^ 30) (hin : ∀ j ∈ is, j < l.length) : PC Tryz.prog 119 [.sl false 4 (chunksA false l), .sl false 1 (nats is)] (.sl false 4 (chunksA false (pickN .zero l is))) := by
  refine PC.of_bodyW (by simp only [push_cast]) Tryz.func119 rfl (by rw [Tryz.ntmps119]; simp) ?_
  refine AWp.regionW ?_
  refine AWp.regionW ?_
  refine AWp.seqK fun K1 hK1 => ?_
  refine AWp.regionW ?_
  refine AWp.block ?_
  -- SLOTS THAT TURN AND ARE NOT TOLD: [5]
  refine AWp.nilOwn 5 30 4 (by simp only [push_cast, ↓reduceIte, Nat.reduceEqDiff, Nat.reduceLT, Nat.reduceAdd, Nat.reduceSub, Nat.reduceMul, Nat.reduceLeDiff, Nat.reducePow, Int.reduceLT, Int.reduceToNat, reduceCtorEq, Int.reduceNeg, Int.reduceEq, Nat.reduceBEq, Nat.reduceBNe, Int.reduceBEq, Int.reduceBNe, String.reduceEq]) ?_
  refine Go.Abs.evS2 ?_
  refine AWp.loopK [0, 5, 8, 9] (fun (i : Nat) => [(10, nat i)]) (fun i => [.row 30 4 (chunksA false (pickN .zero l (is.take i)))]) (fun i => i ≤ is.length) (fun i => is.length - i) (0) ?_ (Nat.zero_le _) ?_
  · skip
    refine Le.m 1 ?_ ?_
    · first | exact Go.Abs.evM | (refine Go.Abs.evS ?_; try rfl)
    · exact Go.Abs.evN
  · intro i hi K2 hK2
    refine AWp.regionW ?_
    refine AWp.seqK fun K3 hK3 => ?_
    refine AWp.condLM (fun c0 => ?_) (fun c0 => ?_)
    · skip
      have hil : i < is.length := by simpa using c0
      have hj := hin is[i] (List.getElem_mem hil)
      have hpl : (pickN GChunk.zero l (is.take i)).length ≤ is.length := by rw [pickN_len, List.length_take]; omega
      obtain ⟨j, hje⟩ : ∃ j, j = is[i] := ⟨_, rfl⟩
      have hat : (nats is)[i]? = some (nat j) := by rw [hje]; exact natsAt is i hil
      rw [← hje] at hj
      refine AWp.skip ?_
      refine hK3 _ ?_
      refine AWp.seqK fun K4 hK4 => ?_
      refine AWp.block ?_
      refine AWp.regionM fun K5 hK5 => ?_
      refine ARun2.indexM (i) (nat j) ?_ ?_
      · exact hat
      refine ARun2.endm (hK5 _ ?_)
      refine AWp.regionN fun K6 hK6 => ?_
      refine ARun2.indexM (j) (chunkA false l[j]) ?_ ?_
      · exact chunksA_at _ _ _ hj
      refine ARun2.appendM ?_ ?_ ?_
      · rw [Facts.eb41, chunksA_len, List.length_cons, List.length_nil]; omega
      · rw [chunksA_len, List.length_cons, List.length_nil]; omega
      refine ARun2.endm (hK6 _ ?_)
      refine hK4 _ ?_
      refine AWp.regionV ?_
      refine hK2 _ (i + 1) (by omega) (by omega) ?_
      refine Le.m 1 ?_ ?_
      · first | exact Go.Abs.evM | (refine Go.Abs.evS ?_; rw [List.take_succ_eq_append_getElem hil, ← hje, pickN_snoc, chunksA_snoc, List.getD_eq_getElem?_getD, List.getElem?_eq_getElem hj]; rfl)
      · exact Go.Abs.evN
    have hil : i = is.length := by simp at c0; omega
    subst hil
    refine AWp.exit ?_
    try simp only [thenQ, blockQ, noGo, reduceIte, Nat.reduceEqDiff]
    refine hK1 _ ?_
    refine AWp.pubD 0 ?_
    rw [List.take_length]
    refine AWp.regionW ?_
    refine AWp.ret ?_
    try simp only [thenQ, blockQ, noGo]
    refine bodyQ.m ?_
    clear hK3 K3 hK2 K2 hK1 K1
    first | done | exact Hand.go
theorem pickG_c (l : List GNode) (is : List Nat) (hl : l.length ≤ 2 ^ 30) (hs : is.length ≤ 2 ^ 30) (hin : ∀ j ∈ is, j < l.length) : PC Tryz.prog 156 [.sl false 3 (nodesA false l), .sl false 1 (nats is)] (.sl false 3 (nodesA false (pickN (.mk 0 [] []) l is))) := by
  refine PC.of_bodyW (by simp only [push_cast]) Tryz.func156 rfl (by rw [Tryz.ntmps156]; simp) ?_
  refine AWp.regionW ?_
  refine AWp.regionW ?_
  refine AWp.seqK fun K1 hK1 => ?_
  refine AWp.regionW ?_
  refine AWp.block ?_
  -- SLOTS THAT TURN AND ARE NOT TOLD: [5]
  refine AWp.nilOwn 5 26 3 (by simp only [push_cast, ↓reduceIte, Nat.reduceEqDiff, Nat.reduceLT, Nat.reduceAdd, Nat.reduceSub, Nat.reduceMul, Nat.reduceLeDiff, Nat.reducePow, Int.reduceLT, Int.reduceToNat, reduceCtorEq, Int.reduceNeg, Int.reduceEq, Nat.reduceBEq, Nat.reduceBNe, Int.reduceBEq, Int.reduceBNe, String.reduceEq]) ?_
  refine Go.Abs.evS2 ?_
  refine AWp.loopK [0, 5, 8, 9] (fun (i : Nat) => [(10, nat i)]) (fun i => [.row 26 3 (nodesA false (pickN (.mk 0 [] []) l (is.take i)))]) (fun i => i ≤ is.length) (fun i => is.length - i) (0) ?_ (Nat.zero_le _) ?_
  · skip
    refine Le.m 1 ?_ ?_
    · first | exact Go.Abs.evM | (refine Go.Abs.evS ?_; try rfl)
    · exact Go.Abs.evN
  · intro i hi K2 hK2
    refine AWp.regionW ?_
    refine AWp.seqK fun K3 hK3 => ?_
    refine AWp.condLM (fun c0 => ?_) (fun c0 => ?_)
    · skip
      have hil : i < is.length := by simpa using c0
      have hj := hin is[i] (List.getElem_mem hil)
      have hpl : (pickN (GNode.mk 0 [] []) l (is.take i)).length ≤ is.length := by rw [pickN_len, List.length_take]; omega
      obtain ⟨j, hje⟩ : ∃ j, j = is[i] := ⟨_, rfl⟩
      have hat : (nats is)[i]? = some (nat j) := by rw [hje]; exact natsAt is i hil
      rw [← hje] at hj
      refine AWp.skip ?_
      refine hK3 _ ?_
      refine AWp.seqK fun K4 hK4 => ?_
      refine AWp.block ?_
      refine AWp.regionM fun K5 hK5 => ?_
      refine ARun2.indexM (i) (nat j) ?_ ?_
      · exact hat
      refine ARun2.endm (hK5 _ ?_)
      refine AWp.regionN fun K6 hK6 => ?_
      refine ARun2.indexM (j) (nodeA false l[j]) ?_ ?_
      · exact nodesA_at _ _ _ hj
      refine ARun2.appendM ?_ ?_ ?_
      · rw [Facts.eb24, nodesA_len, List.length_cons, List.length_nil]; omega
      · rw [nodesA_len, List.length_cons, List.length_nil]; omega
      refine ARun2.endm (hK6 _ ?_)
      refine hK4 _ ?_
      refine AWp.regionV ?_
      refine hK2 _ (i + 1) (by omega) (by omega) ?_
      refine Le.m 1 ?_ ?_
      · first | exact Go.Abs.evM | (refine Go.Abs.evS ?_; rw [List.take_succ_eq_append_getElem hil, ← hje, pickN_snoc, nodesA_snoc, List.getD_eq_getElem?_getD, List.getElem?_eq_getElem hj, Option.getD_some, nodeA_eq])
      · exact Go.Abs.evN
    have hil : i = is.length := by simp at c0; omega
    subst hil
    refine AWp.exit ?_
    try simp only [thenQ, blockQ, noGo, reduceIte, Nat.reduceEqDiff]
    refine hK1 _ ?_
    refine AWp.pubD 0 ?_
    rw [List.take_length]
    refine AWp.regionW ?_
    refine AWp.ret ?_
    try simp only [thenQ, blockQ, noGo]
    refine bodyQ.m ?_
    clear hK3 K3 hK2 K2 hK1 K1
    first | done | exact Hand.go
def wrapV (b : Bool) (n : GNode) : AV := .agg [.val (.int .u16 8), .val (.slice none 0 0), .sl true 3 (nodesA b [n])]
def wrapsV (b : Bool) (l : List GNode) : List AV := l.map (wrapV b)
@[push_cast] theorem wrapsV_len (b : Bool) (l : List GNode) : (wrapsV b l).length = l.length := by simp [wrapsV]
@[push_cast] theorem wrapsV_nil (b : Bool) : wrapsV b [] = [] := rfl
theorem wrapsV_snoc (b : Bool) (l : List GNode) (n : GNode) : wrapsV b (l ++ [n]) = wrapsV b l ++ [wrapV b n] := by simp [wrapsV]
@[push_cast] theorem wrapsV_ids (p : Nat → Bool) (b : Bool) (l : List GNode) : AV.idsOkL p (wrapsV b l) = true := by
  rw [AV.idsOkL_iff]; intro x hx; simp only [wrapsV, List.mem_map] at hx; obtain ⟨n, _, rfl⟩ := hx
  simp only [wrapV, AV.idsOk, AV.idsOkL, nodesA_ids, Bool.and_self]
theorem wrapV_handR (b : Bool) : ∀ l : List GNode, HandR [] 3 (wrapsV b l) (nodesA false (l.map wrapN))
  | [] => trivial
  | n :: l => by
    have ih := wrapV_handR b l
    have h1 : Hand [] (.sl true 3 (nodesA b [n])) (.sl false 3 (nodesA false [n])) := by cases b <;> exact Hand.go
    exact HandR.cons (cs := [.val (.int .u16 8), .val (.slice none 0 0), .sl true 3 (nodesA b [n])]) (ds := [u16 8, .sl false 1 (bys []), .sl false 3 (nodesA false [n])]) (HandC.cons Hand.go (HandC.cons Hand.nil (HandC.cons h1 HandC.nil))) ih rfl rfl rfl
theorem small_kid {c : GChunk} (h : Small c) {n : GNode} (hn : n ∈ c.kids) : n.sz ≤ 2 ^ 26 := Nat.le_trans (szs_mem hn) h.kids
theorem disF_none {α : Type} (f : α → Nat) (l : List α) : (disF f l).1.length ≤ l.length ∧ (disF f l).2.1.length ≤ l.length := by
  have := disF_len f l; omega
set_option maxRecDepth 100000 in
set_option maxHeartbeats 1000000 in
theorem dclean_c (c : GChunk) (h : Small c) (htk : tysOk c.kids = true) : PC Tryz.prog 121 [chunkA false c] (.tup [chunkA false (cleanC c).1, .sl false 3 (nodesA false (cleanC c).2)]) := by
  have hbd := kind_bd c.ty
  have hki := kinside_c (kindOf c.ty).kids (by omega)
  have hclass : (kinsideN (kindOf c.ty).kids).1 = classOf c.ty := rfl
  generalize (kinsideN (kindOf c.ty).kids).2.1 = u1 at hki
  generalize (kinsideN (kindOf c.ty).kids).2.2 = u2 at hki
  rw [hclass] at hki
  have hkl := szs_len c.kids
  have hkk := h.kids
  have kcl := h.clone
  have kko := kof_c c.ty h.ty
  obtain ⟨acts, hacts⟩ : ∃ acts, acts = c.kids.map fun n => actP n.ty := ⟨_, rfl⟩
  have hal : acts.length = c.kids.length := by rw [hacts, List.length_map]
  have kpl := play_c acts (by omega)
  obtain ⟨q1, q2⟩ := playF_lt acts 0
  have hpl := playF_len acts 0
  have hpd := pick_dis (fun n : GNode => actP n.ty) (.mk 0 [] []) c.kids
  rw [← hacts] at hpd
  obtain ⟨d1, d2, d3⟩ := hpd
  have kp1 := pickG_c c.kids (playF 0 acts).1 (by omega) (by omega) (fun j hj => by have := q1 j hj; omega)
  have kp2 := pickG_c c.kids (playF 0 acts).2.1 (by omega) (by omega) (fun j hj => by have := q2 j hj; omega)
  rw [d1] at kp1
  rw [d2] at kp2
  have hdl := disF_none (fun n : GNode => actP n.ty) c.kids
  have hdm := (disF_mem (fun n : GNode => actP n.ty) c.kids).2
  have hcl : classOf c.ty = 1 → cleanC c = ({ c with kids := (disF (fun n : GNode => actP n.ty) c.kids).1 }, ((disF (fun n : GNode => actP n.ty) c.kids).2.1).map wrapN) := fun h => if_pos h
  obtain ⟨K, hK⟩ : ∃ K, K = (disF (fun n : GNode => actP n.ty) c.kids).1 := ⟨_, rfl⟩
  obtain ⟨R, hR⟩ : ∃ R, R = (disF (fun n : GNode => actP n.ty) c.kids).2.1 := ⟨_, rfl⟩
  rw [← hK, ← hR] at hcl hdl
  rw [← hK] at kp1
  rw [← hR] at kp2
  have hRm : ∀ n ∈ R, n.sz ≤ 2 ^ 26 := fun n hn => small_kid h (hdm n (by rw [← hR]; exact hn)).1
  generalize (playF 0 acts).1 = P at kpl kp1
  generalize (playF 0 acts).2.1 = S at kpl kp2
  generalize (playF 0 acts).2.2 = st at kpl
  have hw := wrapV_handR true R
  refine PC.of_bodyW (by simp only [push_cast]) Tryz.func121 rfl (by rw [Tryz.ntmps121]; simp) ?_
  refine AWp.regionW ?_
  refine AWp.regionM fun K1 hK1 => ?_
  refine ARun2.callM (kcl) ?_
  refine ARun2.endm (hK1 _ ?_)
  refine AWp.regionM fun K2 hK2 => ?_
  refine ARun2.callM (kko) ?_
  refine ARun2.endm (hK2 _ ?_)
  refine AWp.seqK fun K3 hK3 => ?_
  refine AWp.regionM fun K4 hK4 => ?_
  refine ARun2.callM (hki) ?_
  refine ARun2.endm (hK4 _ ?_)
  refine AWp.regionW ?_
  refine AWp.condLM (fun c0 => ?_) (fun c0 => ?_)
  · skip
    have hr : cleanC c = (c, []) := if_neg (by simpa using c0)
    refine AWp.regionW ?_
    refine AWp.ret ?_
    try simp only [thenQ, blockQ, noGo]
    refine bodyQ.m ?_
    clear hK4 K4 hK3 K3 hK2 K2 hK1 K1
    rw [hr]
    first | done | exact Hand.go
  have hr := hcl (by simpa using c0)
  refine AWp.skip ?_
  refine hK3 _ ?_
  refine AWp.regionW ?_
  refine AWp.seqK fun K5 hK5 => ?_
  refine AWp.regionW ?_
  refine AWp.block ?_
  -- SLOTS THAT TURN AND ARE NOT TOLD: [9]
  refine AWp.nilOwn 9 3 1 (by simp only [push_cast, ↓reduceIte, Nat.reduceEqDiff, Nat.reduceLT, Nat.reduceAdd, Nat.reduceSub, Nat.reduceMul, Nat.reduceLeDiff, Nat.reducePow, Int.reduceLT, Int.reduceToNat, reduceCtorEq, Int.reduceNeg, Int.reduceEq, Nat.reduceBEq, Nat.reduceBNe, Int.reduceBEq, Int.reduceBNe, String.reduceEq]) ?_
  refine Go.Abs.evS2 ?_
  refine AWp.loopK [1, 2, 9, 37, 38] (fun (i : Nat) => [(39, nat i)]) (fun i => [.box 30 [u8 c.ty, u8 c.flags, .sl true 1 (bys c.data), .sl true 3 (nodesA true c.kids)], .box 30 [.val (.int .u8 0), .val (.int .u8 0), .val (.slice none 0 0), .val (.slice none 0 0)], .box 123 [u8 (kindOf c.ty).ty, .val (.string (kindOf c.ty).name), u8 (kindOf c.ty).mask, nat (kindOf c.ty).least, nat (kindOf c.ty).most, nat (kindOf c.ty).unit, nat (kindOf c.ty).kids], .row 3 1 (nats (acts.take i))]) (fun i => i ≤ c.kids.length) (fun i => c.kids.length - i) (0) ?_ (Nat.zero_le _) ?_
  · skip
    refine Le.m 4 ?_ ?_
    · first | exact Go.Abs.evM | (refine Go.Abs.evS ?_; try rfl)
    · exact Go.Abs.evN
  · intro i hi K6 hK6
    refine AWp.regionW ?_
    refine AWp.seqK fun K7 hK7 => ?_
    refine AWp.condLM (fun c1 => ?_) (fun c1 => ?_)
    · skip
      have hil : i < c.kids.length := by simpa using c1
      have kap := acp_c c.kids[i].ty (GNode.tyOk_ty (tysOk_mem htk _ (List.getElem_mem hil)))
      have hai : acts[i]'(by omega) = actP c.kids[i].ty := by simp [hacts]
      refine AWp.skip ?_
      refine hK7 _ ?_
      refine AWp.seqK fun K8 hK8 => ?_
      refine AWp.block ?_
      refine AWp.regionM fun K9 hK9 => ?_
      refine ARun2.indexM (i) (nodeA true c.kids[i]) ?_ ?_
      · exact nodesA_at _ _ _ hil
      refine ARun2.endm (hK9 _ ?_)
      refine AWp.regionN fun K10 hK10 => ?_
      refine ARun2.callM (kap) ?_
      refine ARun2.appendM ?_ ?_ ?_
      · rw [Facts.eb156, nats_len, List.length_take, List.length_cons, List.length_nil]; omega
      · rw [nats_len, List.length_take, List.length_cons, List.length_nil]; omega
      refine ARun2.endm (hK10 _ ?_)
      refine hK8 _ ?_
      refine AWp.regionV ?_
      refine hK6 _ (i + 1) (by omega) (by omega) ?_
      refine Le.m 4 ?_ ?_
      · first | exact Go.Abs.evM | (refine Go.Abs.evS ?_; rw [List.take_succ_eq_append_getElem (by omega), natsSnoc, hai])
      · exact Go.Abs.evN
    have hil : i = c.kids.length := by simp at c1; omega
    subst hil
    rw [← hal, List.take_length]
    refine AWp.exit ?_
    try simp only [thenQ, blockQ, noGo, reduceIte, Nat.reduceEqDiff]
    refine hK5 _ ?_
    refine AWp.pubD 3 ?_
    refine AWp.regionM fun K11 hK11 => ?_
    refine ARun2.callM (kpl) ?_
    refine ARun2.endm (hK11 _ ?_)
    refine AWp.regionW ?_
    refine AWp.seqK fun K12 hK12 => ?_
    refine AWp.regionM fun K13 hK13 => ?_
    refine ARun2.callM (kp2) ?_
    refine ARun2.endm (hK13 _ ?_)
    refine AWp.block ?_
    -- SLOTS THAT TURN AND ARE NOT TOLD: [15]
    refine AWp.nilOwn 15 26 3 (by simp only [push_cast, ↓reduceIte, Nat.reduceEqDiff, Nat.reduceLT, Nat.reduceAdd, Nat.reduceSub, Nat.reduceMul, Nat.reduceLeDiff, Nat.reducePow, Int.reduceLT, Int.reduceToNat, reduceCtorEq, Int.reduceNeg, Int.reduceEq, Nat.reduceBEq, Nat.reduceBNe, Int.reduceBEq, Int.reduceBNe, String.reduceEq]) ?_
    refine Go.Abs.evS2 ?_
    refine AWp.loopK [1, 2, 12, 15, 59, 60] (fun (i : Nat) => [(61, nat i)]) (fun i => [.box 30 [u8 c.ty, u8 c.flags, .sl true 1 (bys c.data), .sl true 3 (nodesA true c.kids)], .box 30 [.val (.int .u8 0), .val (.int .u8 0), .val (.slice none 0 0), .val (.slice none 0 0)], .box 123 [u8 (kindOf c.ty).ty, .val (.string (kindOf c.ty).name), u8 (kindOf c.ty).mask, nat (kindOf c.ty).least, nat (kindOf c.ty).most, nat (kindOf c.ty).unit, nat (kindOf c.ty).kids], .gone, .row 26 3 (wrapsV true (R.take i))]) (fun i => i ≤ R.length) (fun i => R.length - i) (0) ?_ (Nat.zero_le _) ?_
    · skip
      refine Le.m 5 ?_ ?_
      · first | exact Go.Abs.evM | (refine Go.Abs.evS ?_; try rfl)
      · exact Go.Abs.evN
    · intro i hi K14 hK14
      refine AWp.regionW ?_
      refine AWp.seqK fun K15 hK15 => ?_
      refine AWp.condLM (fun c2 => ?_) (fun c2 => ?_)
      · skip
        have hil : i < R.length := by simpa using c2
        have kn := nclone_f R[i] (by have := hRm R[i] (List.getElem_mem hil); omega)
        refine AWp.skip ?_
        refine hK15 _ ?_
        refine AWp.seqK fun K16 hK16 => ?_
        refine AWp.block ?_
        refine AWp.regionM fun K17 hK17 => ?_
        refine ARun2.indexM (i) (nodeA false R[i]) ?_ ?_
        · exact nodesA_at _ _ _ hil
        refine ARun2.endm (hK17 _ ?_)
        refine AWp.regionN fun K18 hK18 => ?_
        refine ARun2.callM (kn) ?_
        refine ARun2.appendM ?_ ?_ ?_
        · rw [Facts.eb24, wrapsV_len, List.length_take, List.length_cons, List.length_nil]; omega
        · rw [wrapsV_len, List.length_take, List.length_cons, List.length_nil]; omega
        refine ARun2.endm (hK18 _ ?_)
        refine hK16 _ ?_
        refine AWp.regionV ?_
        refine hK14 _ (i + 1) (by omega) (by omega) ?_
        refine Le.m 5 ?_ ?_
        · first | exact Go.Abs.evM | (refine Go.Abs.evS ?_; rw [List.take_succ_eq_append_getElem hil, wrapsV_snoc, wrapV, nodesA_cons, nodesA_nil, nodeA_eq])
        · exact Go.Abs.evN
      have hil : i = R.length := by simp at c2; omega
      subst hil
      rw [List.take_length]
      refine AWp.exit ?_
      try simp only [thenQ, blockQ, noGo, reduceIte, Nat.reduceEqDiff]
      refine hK12 _ ?_
      refine AWp.pubD 4 ?_
      refine AWp.regionM fun K19 hK19 => ?_
      refine ARun2.callM (kp1) ?_
      refine ARun2.endm (hK19 _ ?_)
      refine AWp.regionW ?_
      refine AWp.ret ?_
      try simp only [thenQ, blockQ, noGo]
      refine bodyQ.m ?_
      clear hK19 K19 hK15 K15 hK14 K14 hK13 K13 hK12 K12 hK11 K11 hK7 K7 hK6 K6 hK5 K5 hK4 K4 hK3 K3 hK2 K2 hK1 K1
      rw [hr]
      first | done | exact Hand.go
structure Chs (l : List GChunk) : Prop where
  len : l.length ≤ 2 ^ 10
  sm : ∀ c ∈ l, Small c ∧ tysOk c.kids = true
  ok : rightO l
theorem nodesA_app (b : Bool) : ∀ l m : List GNode, nodesA b (l ++ m) = nodesA b l ++ nodesA b m
  | [], m => by rw [nodesA_nil]; rfl
  | n :: l, m => by rw [List.cons_append, nodesA_cons, nodesA_cons, nodesA_app b l m]; rfl
theorem clean_len2 (c : GChunk) (h : Small c) : (cleanC c).2.length ≤ 2 ^ 26 := by
  unfold cleanC
  split
  · have h1 := (disF_none (fun n : GNode => actP n.ty) c.kids).2
    have h2 := szs_len c.kids
    have h3 := h.kids
    show ((disF _ _).2.1.map wrapN).length ≤ _
    rw [List.length_map]; omega
  · simp
theorem flat_len {α β : Type} (f : α → List β) (b : Nat) : ∀ l : List α, (∀ x ∈ l, (f x).length ≤ b) → (l.flatMap f).length ≤ l.length * b
  | [], _ => by simp
  | x :: l, h => by
    have h1 := h x (by simp)
    have h2 := flat_len f b l (fun y hy => h y (by simp [hy]))
    rw [List.flatMap_cons, List.length_append, List.length_cons, Nat.add_mul, Nat.one_mul]
    omega
set_option maxRecDepth 100000 in
set_option maxHeartbeats 1000000 in
theorem dof24_c (p : GPkt) (h : Chs p.l) : PC Tryz.prog 55 [pktA false p] (resA false (disO p.l)) := by
  obtain ⟨hlen, hsm, hok⟩ := h
  obtain ⟨src, dst, tag, l⟩ := p
  simp only at hlen hsm hok
  obtain ⟨acts, hacts⟩ : ∃ acts, acts = l.map fun c => actC c.ty := ⟨_, rfl⟩
  have hal : acts.length = l.length := by rw [hacts, List.length_map]
  have kpl := play_c acts (by omega)
  obtain ⟨q1, q2⟩ := playF_lt acts 0
  have hpl := playF_len acts 0
  have hpd := pick_dis (fun c : GChunk => actC c.ty) .zero l
  rw [← hacts] at hpd
  obtain ⟨d1, d2, d3⟩ := hpd
  have kp1 := pickC_c l (playF 0 acts).1 (by omega) (by omega) (fun j hj => by have := q1 j hj; omega)
  have kp2 := pickC_c l (playF 0 acts).2.1 (by omega) (by omega) (fun j hj => by have := q2 j hj; omega)
  rw [d1] at kp1
  rw [d2] at kp2
  rw [d3] at kpl
  have hdl := disF_none (fun c : GChunk => actC c.ty) l
  obtain ⟨hm1, hm2⟩ := disF_mem (fun c : GChunk => actC c.ty) l
  have hr : disO l = ⟨(disF (fun c : GChunk => actC c.ty) l).1.map fun c => (cleanC c).1, (disF (fun c : GChunk => actC c.ty) l).2.1.map repC, (disF (fun c : GChunk => actC c.ty) l).1.flatMap fun c => (cleanC c).2, (disF (fun c : GChunk => actC c.ty) l).2.2⟩ := rfl
  generalize (disF (fun c : GChunk => actC c.ty) l).1 = D at hr hdl hm1 kp1
  generalize (disF (fun c : GChunk => actC c.ty) l).2.1 = R at hr hdl hm2 kp2
  generalize (disF (fun c : GChunk => actC c.ty) l).2.2 = st at hr kpl
  generalize (playF 0 acts).1 = P at kpl kp1
  generalize (playF 0 acts).2.1 = S at kpl kp2
  refine PC.of_bodyW (by simp only [push_cast]) Tryz.func55 rfl (by rw [Tryz.ntmps55]; simp) ?_
  refine AWp.regionW ?_
  refine AWp.regionW ?_
  refine AWp.seqK fun K1 hK1 => ?_
  refine AWp.regionW ?_
  refine AWp.block ?_
  -- SLOTS THAT TURN AND ARE NOT TOLD: [3]
  refine AWp.nilOwn 3 3 1 (by simp only [push_cast, ↓reduceIte, Nat.reduceEqDiff, Nat.reduceLT, Nat.reduceAdd, Nat.reduceSub, Nat.reduceMul, Nat.reduceLeDiff, Nat.reducePow, Int.reduceLT, Int.reduceToNat, reduceCtorEq, Int.reduceNeg, Int.reduceEq, Nat.reduceBEq, Nat.reduceBNe, Int.reduceBEq, Int.reduceBNe, String.reduceEq]) ?_
  refine Go.Abs.evS2 ?_
  refine AWp.loopK [1, 2, 3, 21, 22] (fun (i : Nat) => [(23, nat i)]) (fun i => [.box 43 [u16 src, u16 dst, u32 tag, .sl false 4 (chunksA false l)], .box 85 [.val (.slice none 0 0), .val (.slice none 0 0), .val (.slice none 0 0), bool false], .row 3 1 (nats (acts.take i))]) (fun i => i ≤ l.length) (fun i => l.length - i) (0) ?_ (Nat.zero_le _) ?_
  · skip
    refine Le.m 3 ?_ ?_
    · first | exact Go.Abs.evM | (refine Go.Abs.evS ?_; try rfl)
    · exact Go.Abs.evN
  · intro i hi K2 hK2
    refine AWp.regionW ?_
    refine AWp.seqK fun K3 hK3 => ?_
    refine AWp.condLM (fun c0 => ?_) (fun c0 => ?_)
    · skip
      have hil : i < l.length := by simpa using c0
      have kac := acc_c l[i].ty (hsm _ (List.getElem_mem hil)).1.ty
      have hai : acts[i]'(by omega) = actC l[i].ty := by simp [hacts]
      refine AWp.skip ?_
      refine hK3 _ ?_
      refine AWp.seqK fun K4 hK4 => ?_
      refine AWp.block ?_
      refine AWp.regionM fun K5 hK5 => ?_
      refine ARun2.indexM (i) (chunkA false l[i]) ?_ ?_
      · exact chunksA_at _ _ _ hil
      refine ARun2.endm (hK5 _ ?_)
      refine AWp.regionN fun K6 hK6 => ?_
      refine ARun2.callM (kac) ?_
      refine ARun2.appendM ?_ ?_ ?_
      · rw [Facts.eb156, nats_len, List.length_take, List.length_cons, List.length_nil]; omega
      · rw [nats_len, List.length_take, List.length_cons, List.length_nil]; omega
      refine ARun2.endm (hK6 _ ?_)
      refine hK4 _ ?_
      refine AWp.regionV ?_
      refine hK2 _ (i + 1) (by omega) (by omega) ?_
      refine Le.m 3 ?_ ?_
      · first | exact Go.Abs.evM | (refine Go.Abs.evS ?_; rw [List.take_succ_eq_append_getElem (by omega), natsSnoc, hai])
      · exact Go.Abs.evN
    have hil : i = l.length := by simp at c0; omega
    subst hil
    rw [← hal, List.take_length]
    refine AWp.exit ?_
    try simp only [thenQ, blockQ, noGo, reduceIte, Nat.reduceEqDiff]
    refine hK1 _ ?_
    refine AWp.pubD 2 ?_
    refine AWp.regionM fun K7 hK7 => ?_
    refine ARun2.callM (kpl) ?_
    refine ARun2.endm (hK7 _ ?_)
    refine AWp.regionW ?_
    refine AWp.seqK fun K8 hK8 => ?_
    refine AWp.regionM fun K9 hK9 => ?_
    refine ARun2.callM (kp2) ?_
    refine ARun2.endm (hK9 _ ?_)
    refine AWp.block ?_
    refine AWp.nilBox 3 1 26 3 rfl rfl ?_
    refine Go.Abs.evS2 ?_
    refine AWp.loopK [1, 2, 6, 9, 45, 46] (fun (i : Nat) => [(47, nat i)]) (fun i => [.box 43 [u16 src, u16 dst, u32 tag, .sl false 4 (chunksA false l)], .box 85 [.val (.slice none 0 0), .val (.slice none 0 0), .val (.slice none 0 0), bool false], .gone, .box 85 [.val (.slice none 0 0), .own 4, .val (.slice none 0 0), bool st], .row 26 3 (nodesA true ((R.take i).map repC))]) (fun i => i ≤ R.length) (fun i => R.length - i) (0) ?_ (Nat.zero_le _) ?_
    · skip
      refine Le.m 5 ?_ ?_
      · first | exact Go.Abs.evM | (refine Go.Abs.evS ?_; try rfl)
      · exact Go.Abs.evN
    · intro i hi K10 hK10
      refine AWp.regionW ?_
      refine AWp.seqK fun K11 hK11 => ?_
      refine AWp.condLM (fun c1 => ?_) (fun c1 => ?_)
      · skip
        have hil : i < R.length := by simpa using c1
        obtain ⟨c, hc⟩ : ∃ c, c = R[i] := ⟨_, rfl⟩
        have hcm := hm2 c (by rw [hc]; exact List.getElem_mem hil)
        obtain ⟨s1, s2⟩ := hsm c hcm.1
        obtain ⟨o1, o2⟩ := hok c hcm.1
        obtain ⟨b1, b2⟩ := rep_bytes o1 o2 (actC_unk hcm.2)
        have ke := cenc_c c s1 s2
        rw [show encC c = bytesC c from if_pos o1, o1] at ke
        have kc := chunk_f (bytesC c) (by omega)
        rw [show chunkN (bytesC c) = (repC c, true) from repC_right o1 o2 (actC_unk hcm.2)] at kc
        have hat : (chunksA false R)[i]? = some (chunkA false c) := by rw [hc]; exact chunksA_at _ _ _ hil
        refine AWp.skip ?_
        refine hK11 _ ?_
        refine AWp.seqK fun K12 hK12 => ?_
        refine AWp.block ?_
        refine AWp.regionM fun K13 hK13 => ?_
        refine ARun2.indexM (i) (chunkA false c) ?_ ?_
        · exact hat
        refine ARun2.endm (hK13 _ ?_)
        refine AWp.regionM fun K14 hK14 => ?_
        refine ARun2.callM (ke) ?_
        refine ARun2.endm (hK14 _ ?_)
        refine AWp.regionM fun K15 hK15 => ?_
        refine ARun2.callM (kc) ?_
        refine ARun2.endm (hK15 _ ?_)
        refine AWp.regionW ?_
        refine AWp.condT ?_
        refine AWp.regionN fun K16 hK16 => ?_
        refine ARun2.appendM ?_ ?_ ?_
        · rw [Facts.eb24, nodesA_len, List.length_map, List.length_take, List.length_cons, List.length_nil]; omega
        · rw [nodesA_len, List.length_map, List.length_take, List.length_cons, List.length_nil]; omega
        refine ARun2.endm (hK16 _ ?_)
        refine hK12 _ ?_
        refine AWp.regionV ?_
        refine hK10 _ (i + 1) (by omega) (by omega) ?_
        refine Le.m 5 ?_ ?_
        · first | exact Go.Abs.evM | (refine Go.Abs.evS ?_; rw [List.take_succ_eq_append_getElem hil, List.map_append, ← hc, List.map_cons, List.map_nil, nodesA_snoc, nodeA_eq])
        · exact Go.Abs.evN
      have hil : i = R.length := by simp at c1; omega
      subst hil
      rw [List.take_length]
      refine AWp.exit ?_
      try simp only [thenQ, blockQ, noGo, reduceIte, Nat.reduceEqDiff]
      refine hK8 _ ?_
      refine AWp.seqK fun K17 hK17 => ?_
      refine AWp.regionM fun K18 hK18 => ?_
      refine ARun2.callM (kp1) ?_
      refine ARun2.endm (hK18 _ ?_)
      refine AWp.block ?_
      refine AWp.nilBox 3 0 30 4 rfl rfl ?_
      refine Go.Abs.evS2 ?_
      refine AWp.nilBox 3 2 26 3 rfl rfl ?_
      refine Go.Abs.evS2 ?_
      refine AWp.loopK [2, 9, 72, 73] (fun (i : Nat) => [(74, nat i)]) (fun i => [.box 43 [u16 src, u16 dst, u32 tag, .sl false 4 (chunksA false l)], .box 85 [.val (.slice none 0 0), .val (.slice none 0 0), .val (.slice none 0 0), bool false], .gone, .box 85 [.own 5, .own 4, .own 6, bool st], .row 26 3 (nodesA true (R.map repC)), .row 30 4 (chunksA false ((D.take i).map fun c => (cleanC c).1)), .row 26 3 (nodesA false ((D.take i).flatMap fun c => (cleanC c).2))]) (fun i => i ≤ D.length) (fun i => D.length - i) (0) ?_ (Nat.zero_le _) ?_
      · skip
        refine Le.m 7 ?_ ?_
        · first | exact Go.Abs.evM | (refine Go.Abs.evS ?_; try rfl)
        · exact Go.Abs.evN
      · intro i hi K19 hK19
        refine AWp.regionW ?_
        refine AWp.seqK fun K20 hK20 => ?_
        refine AWp.condLM (fun c3 => ?_) (fun c3 => ?_)
        · skip
          have hil : i < D.length := by simpa using c3
          obtain ⟨c, hc⟩ : ∃ c, c = D[i] := ⟨_, rfl⟩
          have hcm := hm1 c (by rw [hc]; exact List.getElem_mem hil)
          obtain ⟨s1, s2⟩ := hsm c hcm.1
          have kcl := dclean_c c s1 s2
          have hat : (chunksA false D)[i]? = some (chunkA false c) := by rw [hc]; exact chunksA_at _ _ _ hil
          have hfl := flat_len (fun c : GChunk => (cleanC c).2) (2 ^ 26) (D.take i) (fun x hx => clean_len2 x (hsm x (hm1 x (List.mem_of_mem_take hx)).1).1)
          rw [List.length_take] at hfl
          have hfl2 : (min i D.length) * 2 ^ 26 ≤ 2 ^ 10 * 2 ^ 26 := Nat.mul_le_mul_right _ (by omega)
          have hcl2 := clean_len2 c s1
          obtain ⟨X, hX⟩ : ∃ X, X = cleanC c := ⟨_, rfl⟩
          rw [← hX] at kcl hcl2
          refine AWp.skip ?_
          refine hK20 _ ?_
          refine AWp.seqK fun K21 hK21 => ?_
          refine AWp.block ?_
          refine AWp.regionM fun K22 hK22 => ?_
          refine ARun2.indexM (i) (chunkA false c) ?_ ?_
          · exact hat
          refine ARun2.endm (hK22 _ ?_)
          refine AWp.regionM fun K23 hK23 => ?_
          refine ARun2.callM (kcl) ?_
          refine ARun2.endm (hK23 _ ?_)
          refine AWp.regionM fun K24 hK24 => ?_
          refine ARun2.appendM ?_ ?_ ?_
          · rw [Facts.eb41, chunksA_len, List.length_map, List.length_take, List.length_cons, List.length_nil]; omega
          · rw [chunksA_len, List.length_map, List.length_take, List.length_cons, List.length_nil]; omega
          refine ARun2.endm (hK24 _ ?_)
          refine AWp.regionN fun K25 hK25 => ?_
          refine ARun2.appendM ?_ ?_ ?_
          · rw [Facts.eb24, nodesA_len, nodesA_len]; omega
          · rw [nodesA_len, nodesA_len]; omega
          refine ARun2.endm (hK25 _ ?_)
          refine hK21 _ ?_
          refine AWp.regionV ?_
          refine hK19 _ (i + 1) (by omega) (by omega) ?_
          refine Le.m 7 ?_ ?_
          · first | exact Go.Abs.evM | (refine Go.Abs.evS ?_; rw [List.take_succ_eq_append_getElem hil, List.map_append, List.flatMap_append, ← hc]; simp only [List.map_cons, List.map_nil, List.flatMap_cons, List.flatMap_nil, List.append_nil, ← hX]; rw [chunksA_snoc, nodesA_app]; rfl)
          · exact Go.Abs.evN
        have hil : i = D.length := by simp at c3; omega
        subst hil
        rw [List.take_length]
        refine AWp.exit ?_
        try simp only [thenQ, blockQ, noGo, reduceIte, Nat.reduceEqDiff]
        refine hK17 _ ?_
        refine AWp.pubD 4 ?_
        refine AWp.pubD 5 ?_
        refine AWp.pubD 6 ?_
        refine AWp.regionW ?_
        refine AWp.ret ?_
        try simp only [thenQ, blockQ, noGo]
        refine bodyQ.m ?_
        clear hK20 K20 hK19 K19 hK18 K18 hK17 K17 hK11 K11 hK10 K10 hK9 K9 hK8 K8 hK7 K7 hK3 K3 hK2 K2 hK1 K1
        rw [hr]
        first | done | exact Hand.go
theorem zeroB_take {l : List UInt8} {i : Nat} (hil : i < l.length) (h : zeroB (l.take i) = true) (h0 : l[i] = 0) : zeroB (l.take (i + 1)) = true := by
  unfold zeroB at *
  rw [List.take_succ_eq_append_getElem hil, List.all_append, h]
  simp [h0]
theorem zeroB_no {l : List UInt8} {i : Nat} (hil : i < l.length) (h0 : l[i] ≠ 0) : zeroB l = false := by
  unfold zeroB
  rw [List.all_eq_false]
  exact ⟨l[i], List.getElem_mem hil, by simpa using h0⟩
theorem zero03_c (l : List UInt8) (hl : l.length ≤ 2 ^ 40) : PC Tryz.prog 172 [.sl false 1 (bys l)] (bool (zeroB l)) := by
  refine PC.of_bodyW (by simp only [push_cast]) Tryz.func172 rfl (by rw [Tryz.ntmps172]; simp) ?_
  refine AWp.regionW ?_
  refine AWp.seqK fun K1 hK1 => ?_
  refine AWp.regionW ?_
  refine AWp.block ?_
  refine AWp.loopK0 [0] (fun (i : Nat) => [(3, nat i)]) (fun i => i ≤ l.length ∧ zeroB (l.take i) = true) (fun i => l.length - i) (0) ?_ ⟨Nat.zero_le _, rfl⟩ ?_
  · skip
    refine Le.m 0 ?_ ?_
    · exact Go.Abs.evM
    · exact Go.Abs.evN
  · intro i hi K2 hK2
    refine AWp.seqK fun K3 hK3 => ?_
    refine AWp.regionW ?_
    refine AWp.condLM (fun c0 => ?_) (fun c0 => ?_)
    · skip
      have hil : i < l.length := by simpa using c0
      refine AWp.skip ?_
      refine hK3 _ ?_
      refine AWp.seqK fun K4 hK4 => ?_
      refine AWp.block ?_
      refine AWp.regionM fun K5 hK5 => ?_
      refine ARun2.indexM (i) (.val (.int .u8 (N l[i].toNat))) ?_ ?_
      · rw [bys_get, List.getElem?_eq_getElem hil]; rfl
      refine ARun2.endm (hK5 _ ?_)
      refine AWp.condLM (fun c1 => ?_) (fun c1 => ?_)
      · skip
        have hne : l[i] ≠ 0 := by
          intro h; rw [h] at c1; simp [N] at c1
        have hz := zeroB_no hil hne
        refine AWp.regionW ?_
        refine AWp.ret ?_
        try simp only [thenQ, blockQ, noGo]
        refine bodyQ.m ?_
        clear hK5 K5 hK4 K4 hK3 K3 hK2 K2 hK1 K1
        rw [hz]
        first | done | exact Hand.go
      have heq : l[i] = 0 := by
        apply UInt8.toNat_inj.1; simp [N] at c1; simpa using c1
      refine AWp.skip ?_
      refine hK4 _ ?_
      refine AWp.regionV ?_
      refine hK2 _ (i + 1) (⟨hil, zeroB_take hil hi.2 heq⟩) (by omega) ?_
      refine Le.m 0 ?_ ?_
      · exact Go.Abs.evM
      · exact Go.Abs.evN
    have hil : i = l.length := by have := hi.1; simp at c0; omega
    have hz : zeroB l = true := by have := hi.2; rwa [hil, List.take_length] at this
    refine AWp.exit ?_
    try simp only [thenQ, blockQ, noGo, reduceIte, Nat.reduceEqDiff]
    refine hK1 _ ?_
    refine AWp.regionW ?_
    refine AWp.ret ?_
    try simp only [thenQ, blockQ, noGo]
    refine bodyQ.m ?_
    clear hK3 K3 hK2 K2 hK1 K1
    rw [hz]
    first | done | exact Hand.go
theorem peekN_drop (k : Nat) (b : List UInt8) (i j : Nat) (h : i ≤ b.length) : peekN k (b.drop i) j = peekN k b (i + j) := by
  unfold peekN
  rw [List.length_drop, List.drop_drop]
  by_cases hc : i + j + k ≤ b.length
  · rw [if_pos hc, if_pos (by omega)]
  · rw [if_neg hc, if_neg (by omega)]
theorem readN_ref (b : List UInt8) (i : Nat) (h4 : i + 4 ≤ b.length) (hi4 : i % 4 = 0) (n : Nat) (hn : peekN 2 b (i + 2) = n) :
    ((n < 4 ∨ b.length < i + n) → readN b i = (frm0, 0, .flt 4 i)) ∧
    (4 ≤ n → i + n = b.length → readN b i = (⟨peekN 2 b i, (b.take (i + n)).drop (i + 4)⟩, i + n, .ok)) ∧
    (4 ≤ n → i + n < b.length → (b.length ≤ i + n + gapN n ∨ zeroB ((b.take (i + n + gapN n)).drop (i + n)) = false) → readN b i = (frm0, 0, .flt 5 (i + n))) ∧
    (4 ≤ n → i + n < b.length → i + n + gapN n < b.length → zeroB ((b.take (i + n + gapN n)).drop (i + n)) = true → readN b i = (⟨peekN 2 b i, (b.take (i + n)).drop (i + 4)⟩, i + n + gapN n, .ok)) := by
  have e2 := peekN_drop 2 b i 2 (by omega)
  have e0 := peekN_drop 2 b i 0 (by omega)
  rw [Nat.add_zero] at e0
  have hv : ((b.drop i).drop 4).take (n - 4) = (b.take (i + n)).drop (i + 4) := by
    rw [List.drop_drop, List.drop_take, show i + n - (i + 4) = n - 4 by omega]
  have hu : upN (i + n) = i + n + gapN n := by unfold upN gapN; omega
  unfold readN
  rw [e2, e0, hn, hv]
  refine ⟨fun h => ?_, fun h1 h2 => ?_, fun h1 h2 h3 => ?_, fun h1 h2 h3 h5 => ?_⟩
  · rw [if_neg (by omega)]
  · rw [if_pos (by omega), if_pos h2]
  · rw [if_pos (by omega), if_neg (by omega), if_neg]
    rintro ⟨k1, k2⟩
    unfold nextN at k1 k2
    rw [hu] at k1 k2
    split at k1
    · rename_i hc
      rw [if_pos hc, Option.getD_some] at k2
      rcases h3 with h3 | h3
      · omega
      · rw [h3] at hc; simp at hc
    · simp at k1
  · rw [if_pos (by omega), if_neg (by omega)]
    have hnx : nextN b (i + n) = some (i + n + gapN n) := by
      unfold nextN
      rw [hu, if_pos ⟨by omega, by omega, h5⟩]
    rw [hnx, if_pos ⟨rfl, by rw [Option.getD_some]; omega⟩]
    rfl
theorem readN_short (b : List UInt8) (i : Nat) (h4 : ¬ i + 4 ≤ b.length) : readN b i = (frm0, 0, .flt 4 i) := by
  unfold readN; rw [if_neg (by omega)]
theorem nats_at (l : List Nat) (i : Nat) (h : i < l.length) : (nats l)[i]? = some (nat l[i]) := by simp [nats, h]
theorem nats_snoc (l : List Nat) (n : Nat) : nats (l ++ [n]) = nats l ++ [nat n] := by simp [nats]
theorem split06_c (b : List UInt8) (hl : b.length ≤ 2 ^ 40) : PC Tryz.prog 147 [.sl false 1 (bys b)]
    (.agg [.sl false 2 (frmsA false ((scan b b.length 0).1.map (·.2))), .sl false 1 (nats ((scan b b.length 0).1.map (·.1))), nat (scan b b.length 0).2.codeOf.1, nat (scan b b.length 0).2.atOf.1]) := by
  obtain ⟨O, hO⟩ : ∃ O, O = scan b b.length 0 := ⟨_, rfl⟩
  rw [← hO]
  refine PC.of_bodyW (by simp only [push_cast]) Tryz.func147 rfl (by rw [Tryz.ntmps147]; simp) ?_
  refine AWp.regionW ?_
  refine AWp.regionW ?_
  refine AWp.regionW ?_
  refine AWp.seqK fun K1 hK1 => ?_
  refine AWp.block ?_
  refine AWp.nilBox 1 0 205 2 rfl rfl ?_
  refine Go.Abs.evS2 ?_
  refine AWp.nilBox 1 1 3 1 rfl rfl ?_
  refine Go.Abs.evS2 ?_
  refine AWp.loopK [0, 2, 3] (fun (g : List (Nat × Frm) × Nat × Nat) => [(4, nat g.2.2)]) (fun g => [.box 202 [.val (.slice none 0 0), .val (.slice none 0 0), nat 0, nat 0], .box 202 [.own 2, .own 3, nat 0, nat 0], .row 205 2 (frmsA false (g.1.map (·.2))), .row 3 1 (nats (g.1.map (·.1)))]) (fun g => scanInv b g.1 g.2.1 g.2.2 ∧ (g.2.2 < b.length → g.2.2 % 4 = 0)) (fun g => b.length - g.2.2) (([], b.length, 0)) ?_ ⟨scanInv_0 b, fun _ => rfl⟩ ?_
  · skip
    refine Le.m 4 ?_ ?_
    · exact Go.Abs.evM
    · exact Go.Abs.evN
  · intro g hg K2 hK2
    obtain ⟨p, k, i⟩ := g
    dsimp only at hg ⊢
    obtain ⟨hg, hi4⟩ := hg
    refine AWp.seqK fun K3 hK3 => ?_
    refine AWp.regionW ?_
    refine AWp.condLM (fun c0 => ?_) (fun c0 => ?_)
    · skip
      have hil : i < b.length := by simpa using c0
      refine AWp.skip ?_
      refine hK3 _ ?_
      refine AWp.block ?_
      refine AWp.seqK fun K4 hK4 => ?_
      refine AWp.regionW ?_
      refine AWp.condLM (fun c1 => ?_) (fun c1 => ?_)
      · skip
        have h4 : ¬ i + 4 ≤ b.length := by simpa using c1
        have hr := readN_short b i h4
        have hs := scanInv_err hg hil (by rw [hr]; intro h; cases h)
        rw [hr] at hs
        refine AWp.regionW ?_
        refine AWp.regionW ?_
        refine AWp.pubD 2 ?_
        refine AWp.pubD 3 ?_
        refine AWp.regionW ?_
        refine AWp.ret ?_
        try simp only [thenQ, blockQ, noGo]
        refine bodyQ.m ?_
        clear hK4 K4 hK3 K3 hK2 K2 hK1 K1
        rw [hs] at hO; subst hO
        first | done | exact Hand.go
      have h4 : i + 4 ≤ b.length := by simpa using c1
      refine AWp.skip ?_
      refine hK4 _ ?_
      refine AWp.regionM fun K5 hK5 => ?_
      refine ARun2.callM (number01_c 2 b i (by omega) hl (by omega)) ?_
      refine ARun2.endm (hK5 _ ?_)
      refine AWp.regionM fun K6 hK6 => ?_
      refine ARun2.callM (number01_c 2 b (i + 2) (by omega) hl (by omega)) ?_
      refine ARun2.endm (hK6 _ ?_)
      obtain ⟨n, hn⟩ : ∃ n, peekN 2 b (i + 2) = n := ⟨_, rfl⟩
      obtain ⟨q1, q2, q3, q4⟩ := readN_ref b i h4 (hi4 hil) n hn
      have hn16 := peek2_lt b (i + 2)
      have ht16 := peek2_lt b i
      have hg3 := gapN_le n
      rw [hn] at hn16 ⊢
      refine AWp.regionW ?_
      refine AWp.seqK fun K7 hK7 => ?_
      refine AWp.regionA fun K8 hK8 => ?_
      refine ARun.segm 3 fun KS hKS => ?_
      refine ARun2.endm (hKS _ ?_); clear hKS KS
      apply ARun.grpM 6 2 false 50 [0, 2, 3, 4, 5, 9, 44]
      · intro g2 KG hKG
        refine ARun2.gom ?_
        exact ARun2.endm (hKG _ Le.grpM)
      refine ARun2.gom ?_
      refine ARun2.endm (hK8 _ ?_)
      refine AWp.condLM (fun c2 => ?_) (fun c2 => ?_)
      · skip
        have hr := q1 (by simp at c2; omega)
        have hs := scanInv_err hg hil (by rw [hr]; intro h; cases h)
        rw [hr] at hs
        refine AWp.regionW ?_
        refine AWp.regionW ?_
        refine AWp.pubD 2 ?_
        refine AWp.pubD 3 ?_
        refine AWp.regionW ?_
        refine AWp.ret ?_
        try simp only [thenQ, blockQ, noGo]
        refine bodyQ.m ?_
        clear hK8 K8 hK7 K7 hK6 K6 hK5 K5 hK4 K4 hK3 K3 hK2 K2 hK1 K1
        rw [hs] at hO; subst hO
        first | done | exact Hand.go
      have hn4 : 4 ≤ n ∧ i + n ≤ b.length := by simp at c2; omega
      refine AWp.skip ?_
      refine hK7 _ ?_
      refine AWp.regionW ?_
      refine AWp.regionW ?_
      refine AWp.seqK fun K9 hK9 => ?_
      refine AWp.regionW ?_
      refine AWp.condLM (fun c3 => ?_) (fun c3 => ?_)
      · skip
        have hlt : i + n < b.length := by simpa using c3
        refine AWp.regionM fun K10 hK10 => ?_
        refine ARun2.callM (gap03_c n (by omega)) ?_
        refine ARun2.endm (hK10 _ ?_)
        refine AWp.seqK fun K11 hK11 => ?_
        refine AWp.regionA fun K12 hK12 => ?_
        refine ARun.segm 5 fun KS hKS => ?_
        refine ARun2.endm (hKS _ ?_); clear hKS KS
        apply ARun.grpM 6 4 false 78 [0, 2, 3, 4, 5, 10, 12, 72]
        · intro g4 KG hKG
          have hk : i + n + gapN n < b.length := by simpa using g4
          refine ARun2.gom ?_
          refine ARun2.sliceM (i + n) (i + n + gapN n) ?_ ?_ ?_
          · omega
          · rw [bys_len]; omega
          refine ARun2.callM (zero03_c ((b.take (i + n + gapN n)).drop (i + n)) (by rw [List.length_drop, List.length_take]; omega)) ?_
          exact ARun2.endm (hKG _ Le.grpM)
        refine ARun2.gom ?_
        refine ARun2.endm (hK12 _ ?_)
        refine AWp.condLM (fun c4 => ?_) (fun c4 => ?_)
        · skip
          have hr := q3 hn4.1 hlt (by simp at c4; exact c4.elim .inl (fun c => .inr (by first | exact c | exact c.2)))
          have hs := scanInv_err hg hil (by rw [hr]; intro h; cases h)
          rw [hr] at hs
          refine AWp.regionW ?_
          refine AWp.regionW ?_
          refine AWp.pubD 2 ?_
          refine AWp.pubD 3 ?_
          refine AWp.regionW ?_
          refine AWp.ret ?_
          try simp only [thenQ, blockQ, noGo]
          refine bodyQ.m ?_
          clear hK12 K12 hK11 K11 hK10 K10 hK9 K9 hK8 K8 hK7 K7 hK6 K6 hK5 K5 hK4 K4 hK3 K3 hK2 K2 hK1 K1
          rw [hs] at hO; subst hO
          first | done | exact Hand.go
        have hr := q4 hn4.1 hlt (by simp at c4; omega) (by simp at c4; exact c4.2)
        refine AWp.skip ?_
        refine hK11 _ ?_
        refine AWp.regionV ?_
        refine hK9 _ ?_
        have hst := scanInv_step hg hil (by rw [hr])
        have hpl := hg.2.2.2
        have hnx := readN_next (b := b) (i := i) (by rw [hr])
        rw [hr] at hst hnx
        refine AWp.drS [[(3, none)], [(85, some 0)], [(5, none)], [(87, some 2)], [(0, none)], [(4, none)], [(90, some 5)], [(10, none)], [(89, some 4), (91, some 6), (92, some 7)], [(88, some 3), (93, some 8)], [(94, some 9)]] fun G hG => ?_
        refine Dr.sim ?_
        try simp only [lca, lna]
        refine Dr.sim ?_
        try simp only [lca, lna]
        refine Dr.sim ?_
        try simp only [lca, lna]
        refine Dr.sim ?_
        try simp only [lca, lna]
        refine Dr.sim ?_
        try simp only [lca, lna]
        refine Dr.sim ?_
        try simp only [lca, lna]
        refine Dr.sim ?_
        try simp only [lca, lna]
        refine Dr.sim ?_
        try simp only [lca, lna]
        refine Dr.slice (i + 4) (i + n) ?_ ?_ ?_
        · omega
        · rw [bys_len]; omega
        try simp only [lca, lna]
        refine Dr.sim ?_
        try simp only [lca, lna]
        refine Dr.build ?_
        try simp only [lca, lna]
        refine Dr.finM (n := 11) [(86, 1), (95, 10)] [0, 2, 3, 4, 11] hG Facts.mixed fun KD hKD => ?_
        refine ARun2.appendM ?_ ?_ ?_
        · rw [Facts.eb200, frmsA_len, List.length_map, List.length_cons, List.length_nil]; omega
        · rw [frmsA_len, List.length_map, List.length_cons, List.length_nil]; omega
        refine ARun2.endm (hKD _ ?_); clear hKD KD hG G
        refine AWp.regionM fun K13 hK13 => ?_
        refine ARun2.appendM ?_ ?_ ?_
        · rw [Facts.eb156, nats_len, List.length_map, List.length_cons, List.length_nil]; omega
        · rw [nats_len, List.length_map, List.length_cons, List.length_nil]; omega
        refine ARun2.endm (hK13 _ ?_)
        refine AWp.regionV ?_
        refine hK2 _ ((p ++ [(i, ⟨peekN 2 b i, (b.take (i + n)).drop (i + 4)⟩)], k - 1, i + n + gapN n)) (⟨hst, fun _ => by have := hi4 hil; show (i + n + gapN n) % 4 = 0; unfold gapN; omega⟩) (by show b.length - (i + n + gapN n) < b.length - i; omega) ?_
        refine Le.m 4 ?_ ?_
        · first | exact Go.Abs.evM | (refine Go.Abs.evS ?_; rw [List.map_append, List.map_append, List.map_cons, List.map_cons, List.map_nil, List.map_nil, frmsA_snoc, nats_snoc]; rfl)
        · exact Go.Abs.evN
      have he : i + n = b.length := by simp at c3; omega
      have hr := q2 hn4.1 he
      refine AWp.skip ?_
      refine hK9 _ ?_
      have hst := scanInv_step hg hil (by rw [hr])
      have hpl := hg.2.2.2
      have hnx := readN_next (b := b) (i := i) (by rw [hr])
      rw [hr] at hst hnx
      refine AWp.drS [[(3, none)], [(85, some 0)], [(5, none)], [(87, some 2)], [(0, none)], [(4, none)], [(90, some 5)], [(10, none)], [(89, some 4), (91, some 6), (92, some 7)], [(88, some 3), (93, some 8)], [(94, some 9)]] fun G hG => ?_
      refine Dr.sim ?_
      try simp only [lca, lna]
      refine Dr.sim ?_
      try simp only [lca, lna]
      refine Dr.sim ?_
      try simp only [lca, lna]
      refine Dr.sim ?_
      try simp only [lca, lna]
      refine Dr.sim ?_
      try simp only [lca, lna]
      refine Dr.sim ?_
      try simp only [lca, lna]
      refine Dr.sim ?_
      try simp only [lca, lna]
      refine Dr.sim ?_
      try simp only [lca, lna]
      refine Dr.slice (i + 4) (i + n) ?_ ?_ ?_
      · omega
      · rw [bys_len]; omega
      try simp only [lca, lna]
      refine Dr.sim ?_
      try simp only [lca, lna]
      refine Dr.build ?_
      try simp only [lca, lna]
      refine Dr.finM (n := 11) [(86, 1), (95, 10)] [0, 2, 3, 4, 11] hG Facts.mixed fun KD hKD => ?_
      refine ARun2.appendM ?_ ?_ ?_
      · rw [Facts.eb200, frmsA_len, List.length_map, List.length_cons, List.length_nil]; omega
      · rw [frmsA_len, List.length_map, List.length_cons, List.length_nil]; omega
      refine ARun2.endm (hKD _ ?_); clear hKD KD hG G
      refine AWp.regionM fun K14 hK14 => ?_
      refine ARun2.appendM ?_ ?_ ?_
      · rw [Facts.eb156, nats_len, List.length_map, List.length_cons, List.length_nil]; omega
      · rw [nats_len, List.length_map, List.length_cons, List.length_nil]; omega
      refine ARun2.endm (hK14 _ ?_)
      refine AWp.regionV ?_
      refine hK2 _ ((p ++ [(i, ⟨peekN 2 b i, (b.take (i + n)).drop (i + 4)⟩)], k - 1, i + n)) (⟨hst, fun h => absurd h (by show ¬ i + n < b.length; omega)⟩) (by show b.length - (i + n) < b.length - i; omega) ?_
      refine Le.m 4 ?_ ?_
      · first | exact Go.Abs.evM | (refine Go.Abs.evS ?_; rw [List.map_append, List.map_append, List.map_cons, List.map_cons, List.map_nil, List.map_nil, frmsA_snoc, nats_snoc]; rfl)
      · exact Go.Abs.evN
    have hil : ¬ i < b.length := by simpa using c0
    have hs := scanInv_end hg hil
    refine AWp.exit ?_
    try simp only [thenQ, blockQ, noGo, reduceIte, Nat.reduceEqDiff]
    refine hK1 _ ?_
    refine AWp.pubD 2 ?_
    refine AWp.pubD 3 ?_
    refine AWp.regionW ?_
    refine AWp.ret ?_
    try simp only [thenQ, blockQ, noGo]
    refine bodyQ.m ?_
    clear hK3 K3 hK2 K2 hK1 K1
    rw [hs] at hO; subst hO
    first | done | exact Hand.go
theorem min_take (l : List UInt8) (k : Nat) : l.take (min k l.length) = if k ≤ l.length then l.take k else l := by
  split
  · rw [Nat.min_eq_left (by assumption)]
  · rw [Nat.min_eq_right (by omega), List.take_length]
theorem counted_par (c t : Nat) (d : List UInt8) (h : shapeHas c t = true → fitsN (shapeOf c t) d.length = true) : (c == 2 && (t == 2 && !countedR d)) = countedN c t d := by
  by_cases hc : c = 2
  · by_cases ht : t = 2
    · subst hc; subst ht
      have hf := h rfl
      have hb : badN 2 2 d.length [] = false := by
        have hs : shapeHas 2 2 = true := rfl
        have hk : kidsOk (shapeOf 2 2) [] = true := rfl
        unfold badN; rw [hs, hf, hk]; rfl
      have := counted_eq 2 2 d [] hb rfl rfl
      rw [this]; rfl
    · unfold countedN
      have : (t == 2) = false := by simpa using ht
      rw [this]; simp
  · unfold countedN
    have : (c == 2) = false := by simpa using hc
    rw [this]; rfl
theorem takePre {α : Type} (fs : List α) (k : Nat) (h : k < fs.length) : fs = fs.take k ++ fs[k] :: fs.drop (k + 1) := by rw [← List.drop_eq_getElem_cons h, List.take_append_drop]
@[push_cast] def resP (r : List GNode × Er) : AV := .agg [.sl false 3 (nodesA false r.1), nat r.2.codeOf.1, nat r.2.atOf.1]
def Er.num : Er → Bool
  | .ok => true
  | .code _ => false
  | .flt c _ => c != 0
theorem readN_num (b : List UInt8) (i : Nat) : (readN b i).2.2.num = true := by
  unfold readN; split
  · split
    · rfl
    · split <;> rfl
  · rfl
theorem scan_num (b : List UInt8) : ∀ (k i : Nat), (scan b k i).2.num = true
  | 0, i => rfl
  | k + 1, i => by
    rw [scan]
    split
    · have h := readN_num b i
      cases he : (readN b i).2.2 with
      | ok => exact scan_num b k _
      | code c => rw [he] at h; exact h
      | flt c j => rw [he] at h; exact h
    · rfl
theorem num_ok {e : Er} (h : e.num = true) : e.codeOf.1 = 0 ↔ e = .ok := by
  cases e with
  | ok => simp [Er.codeOf]
  | code c => cases h
  | flt c i => simp [Er.codeOf, Er.num] at *; exact h
theorem goF_num {one : Frm → Nat → GNode × Er} {i : Nat} : ∀ (l : List (Nat × Frm)), (∀ p ∈ l, (one p.2 (i + p.1)).2.num = true) → (goF one i l).2.num = true
  | [], _ => rfl
  | p :: l, h => by
    have h1 := h p (by simp)
    have h2 := goF_num l fun q hq => h q (by simp [hq])
    simp only [goF]
    split
    · split
      · rfl
      · exact h2
    · exact h1
theorem parseF_num : ∀ (m c : Nat) (b : List UInt8) (i : Nat), (parseF m c b i).2.num = true := by
  intro m
  induction m with
  | zero =>
    intro c b i
    rw [parseF_eq]
    split
    · exact goF_num _ fun p _ => rfl
    · have := scan_num b b.length 0
      cases h : (scan b b.length 0).2 <;> rw [h] at this <;> first | exact this | cases this
  | succ m ih =>
    intro c b i
    rw [parseF_eq]
    split
    · refine goF_num _ fun p _ => ?_
      show (oneF (parseF m) c p.2 _).2.num = true
      unfold oneF
      split
      · rfl
      · split
        · rfl
        · split
          · rfl
          · split
            · rfl
            · split
              · exact ih _ _ _
              · split <;> rfl
    · have := scan_num b b.length 0
      cases h : (scan b b.length 0).2 <;> rw [h] at this <;> first | exact this | cases this
theorem shift_num {e : Er} (h : e.num = true) (hne : e ≠ .ok) (i : Nat) : (e.shift i).codeOf.1 = e.codeOf.1 ∧ (e.shift i).atOf.1 = i + e.atOf.1 := by
  cases e with
  | ok => exact absurd rfl hne
  | code c => cases h
  | flt c j => exact ⟨rfl, Nat.add_comm _ _⟩
theorem goF_nil {one : Frm → Nat → GNode × Er} {i : Nat} : ∀ (l : List (Nat × Frm)), (goF one i l).2 ≠ .ok → (goF one i l).1 = []
  | [], h => rfl
  | p :: l, h => by
    simp only [goF] at h ⊢
    split
    · rename_i h1
      split
      · rename_i h2
        rw [if_pos h1, if_pos h2] at h
        exact absurd rfl h
      · rfl
    · rfl
theorem parseF_nil (m c : Nat) (b : List UInt8) (i : Nat) (h : (parseF m c b i).2 ≠ .ok) : (parseF m c b i).1 = [] := by
  rw [parseF_eq] at h ⊢
  split
  · rename_i hs
    rw [if_pos hs] at h
    exact goF_nil _ h
  · rfl
theorem oneF_eq (rec : Nat → List UInt8 → Nat → List GNode × Er) (c : Nat) (f : Frm) (i : Nat) (S : ShForm) (hS : shapeOf c f.ty = S) : oneF rec c f i =
  if shapeHas c f.ty = false then (.mk f.ty f.val [], .ok)
  else if fitsN S (dataOf c f).length = false then (.zero, .flt 7 i)
  else if countedN c f.ty (dataOf c f) = true then (.zero, .flt 8 (i + 4))
  else if S.kids = 0 then (.mk f.ty (dataOf c f) [], .ok)
  else if (rec (insideN S.kids).1 (f.val.drop S.least) (i + 4 + S.least)).2 ≠ .ok then
    (.zero, (rec (insideN S.kids).1 (f.val.drop S.least) (i + 4 + S.least)).2)
  else if kidsOk S (rec (insideN S.kids).1 (f.val.drop S.least) (i + 4 + S.least)).1 = false then (.zero, .flt 7 i)
  else (.mk f.ty (dataOf c f) (rec (insideN S.kids).1 (f.val.drop S.least) (i + 4 + S.least)).1, .ok) := by
  subst hS; rfl
set_option maxHeartbeats 2000000 in
theorem parse08_step (m c d : Nat) (hdm : d + m = 5) (b : List UInt8) (hc : 0 < b.length → c = 1 ∨ c = 2) (i : Nat) (hi : i + b.length ≤ 2 ^ 40)
    (ih : ∀ (m' : Nat), m = m' + 1 → ∀ (c : Nat) (b : List UInt8) (i : Nat), (c = 1 ∨ c = 2) → i + b.length ≤ 2 ^ 40 → PC Tryz.prog 114 [nat c, .sl false 1 (bys b), nat i, nat (d + 1)] (resP (parseF m' c b i))) :
    PC Tryz.prog 114 [nat c, .sl false 1 (bys b), nat i, nat d] (resP (parseF m c b i)) := by
  have hsat := scan_at b b.length 0
  have hsf := scan_fit b b.length 0
  have hsl := scan_len b b.length 0 (Nat.zero_le _)
  have hsn := scan_num b b.length 0
  have hsp := split06_c b (by omega)
  have hO := parseF_eq m c b i
  generalize parseF m c b i = O at hO
  generalize (scan b b.length 0).1 = fs at hsf hsl hsp hO
  generalize (scan b b.length 0).2 = er at hsat hsp hO hsn
  refine PC.of_bodyW (by simp only [push_cast]) Tryz.func114 rfl (by rw [Tryz.ntmps114]; simp) ?_
  refine AWp.regionW ?_
  refine AWp.regionM fun K1 hK1 => ?_
  refine ARun2.callM (hsp) ?_
  refine ARun2.endm (hK1 _ ?_)
  refine AWp.seqK fun K2 hK2 => ?_
  refine AWp.regionW ?_
  refine AWp.condLM (fun c0 => ?_) (fun c0 => ?_)
  · skip
    have he : er ≠ .ok := by intro h; rw [h] at c0; cases c0
    rw [if_neg he] at hO
    obtain ⟨s1, s2⟩ := shift_num hsn he i
    refine AWp.regionW ?_
    refine AWp.ret ?_
    try simp only [thenQ, blockQ, noGo]
    refine bodyQ.m ?_
    clear hK2 K2 hK1 K1
    subst hO; simp only [resP, s1, s2]
    first | done | exact Hand.go
  have he : er = .ok := by rw [← num_ok hsn]; simpa using c0
  rw [if_pos he] at hO
  subst he
  refine AWp.skip ?_
  refine hK2 _ ?_
  refine AWp.regionW ?_
  refine AWp.seqK fun K3 hK3 => ?_
  refine AWp.regionW ?_
  refine AWp.block ?_
  refine AWp.nilBox 2 0 26 3 rfl rfl ?_
  refine Go.Abs.evS2 ?_
  refine AWp.loopK [0, 2, 3, 8, 9, 10] (fun (k : Nat) => [(11, nat k)]) (fun k => [.box 152 [.val (.slice none 0 0), nat 0, nat 0], .box 202 [.sl false 2 (frmsA false (fs.map (·.2))), .sl false 1 (nats (fs.map (·.1))), nat 0, nat 0], .box 152 [.own 3, nat 0, nat 0], .row 26 3 (nodesA false (goF (oneD m c) i (fs.take k)).1)]) (fun k => k ≤ fs.length ∧ (goF (oneD m c) i (fs.take k)).2 = .ok) (fun k => fs.length - k) (0) ?_ ⟨Nat.zero_le _, rfl⟩ ?_
  · skip
    refine Le.m 4 ?_ ?_
    · exact Go.Abs.evM
    · exact Go.Abs.evN
  · intro k hk K4 hK4
    refine AWp.seqK fun K5 hK5 => ?_
    refine AWp.regionW ?_
    refine AWp.condLM (fun c1 => ?_) (fun c1 => ?_)
    · skip
      have hil : k < fs.length := by simpa using c1
      obtain ⟨hk1, hk2⟩ := hk
      have hfd := takePre fs k hil
      have hgl := goF_len (oneD m c) i (fs.take k)
      rw [List.length_take] at hgl
      obtain ⟨hp1, hp2⟩ := hsf fs[k] (List.getElem_mem hil)
      have a1 : (fs.map (·.1)).length = fs.length := List.length_map ..
      have a2 : (fs.map (·.2)).length = fs.length := List.length_map ..
      have a3 := nats_at (fs.map (·.1)) k (by omega)
      have a4 := frmsA_at false (fs.map (·.2)) k (by omega)
      rw [List.getElem_map] at a3 a4
      have ht : fs.take (k + 1) = fs.take k ++ [fs[k]] := List.take_succ_eq_append_getElem hil
      obtain ⟨q, hqe⟩ : ∃ q, fs[k] = q := ⟨_, rfl⟩
      rw [hqe] at hfd hp1 hp2 a3 a4 ht
      have hdl := dataOf_len c q.2
      have hof := of07_c c q.2.ty (hc (by omega))
      obtain ⟨f1, f2, f3, f4, f5, f6⟩ := form_small c q.2.ty
      have hdo : dataOf c q.2 = if (shapeOf c q.2.ty).kids ≠ 0 ∧ (shapeOf c q.2.ty).least ≤ q.2.val.length then q.2.val.take (shapeOf c q.2.ty).least else q.2.val := rfl
      have hcl : decide (0 < (shapeOf c q.2.ty).cls) = shapeHas c q.2.ty := by
        cases h : shapeHas c q.2.ty with
        | true => rw [(f5 h).1]; simp; omega
        | false => rw [f6 h]; rfl
      obtain ⟨S, hS⟩ : ∃ S, shapeOf c q.2.ty = S := ⟨_, rfl⟩
      rw [hS] at hof f1 f2 f3 f4 f5 f6 hdo hcl
      refine AWp.skip ?_
      refine hK5 _ ?_
      refine AWp.seqK fun K6 hK6 => ?_
      refine AWp.block ?_
      refine AWp.regionM fun K7 hK7 => ?_
      refine ARun2.indexM (k) (nat q.1) ?_ ?_
      · exact a3
      refine ARun2.endm (hK7 _ ?_)
      refine AWp.regionM fun K8 hK8 => ?_
      refine ARun2.indexM (k) (frmA false q.2) ?_ ?_
      · exact a4
      refine ARun2.endm (hK8 _ ?_)
      refine AWp.regionM fun K9 hK9 => ?_
      refine ARun2.indexM (k) (frmA false q.2) ?_ ?_
      · exact a4
      refine ARun2.endm (hK9 _ ?_)
      refine AWp.regionM fun K10 hK10 => ?_
      refine ARun2.callM (hof) ?_
      refine ARun2.endm (hK10 _ ?_)
      refine AWp.seqK fun K11 hK11 => ?_
      refine AWp.regionW ?_
      refine AWp.condLM (fun c2 => ?_) (fun c2 => ?_)
      · skip
        have hm : m = 0 := by simp at c2; omega
        have hr : O = ([], .flt 9 (i + q.1)) := by
          subst hm
          rw [hO, hfd]; exact goF_err hk2 (by intro h; cases h)
        refine AWp.regionW ?_
        refine AWp.ret ?_
        try simp only [thenQ, blockQ, noGo]
        refine bodyQ.m ?_
        clear hK11 K11 hK10 K10 hK9 K9 hK8 K8 hK7 K7 hK6 K6 hK5 K5 hK4 K4 hK3 K3 hK2 K2 hK1 K1
        rw [hr]; simp only [resP, Er.codeOf, Er.atOf]
        first | done | exact Hand.go
      obtain ⟨m, rfl⟩ : ∃ m', m = m' + 1 := ⟨m - 1, by simp at c2; omega⟩
      have hone : oneD (m + 1) c q.2 (i + q.1) = _ := oneF_eq (parseF m) c q.2 (i + q.1) S hS
      refine AWp.skip ?_
      refine hK11 _ ?_
      refine AWp.seqK fun K12 hK12 => ?_
      refine AWp.regionW ?_
      refine AWp.condLM (fun c3 => ?_) (fun c3 => ?_)
      · skip
        have hk0 : S.kids ≠ 0 := by intro h; rw [h] at c3; cases c3
        have hdm3 : q.2.val.take (min S.least q.2.val.length) = dataOf c q.2 := by rw [min_take, hdo]; simp [hk0]
        have hdm2 : dataOf c q.2 = dataOf c q.2 := rfl
        refine AWp.regionN fun K13 hK13 => ?_
        refine ARun2.iminM ?_
        refine ARun2.sliceHiM (min S.least q.2.val.length) ?_ ?_
        · rw [bys_len]; omega
        refine ARun2.endm (hK13 _ ?_)
        rw [hdm3]
        refine hK12 _ ?_
        refine AWp.seqK fun K14 hK14 => ?_
        refine AWp.regionA fun K15 hK15 => ?_
        refine ARun.segm 4 fun KS hKS => ?_
        refine ARun2.endm (hKS _ ?_); clear hKS KS
        apply ARun.grpM 6 3 true 86 [0, 2, 3, 8, 9, 10, 11, 12, 13, 14, 15, 80]
        · intro g3 KG hKG
          have hhas : shapeHas c q.2.ty = true := by rw [← hcl]; exact g3
          obtain ⟨u1, u2⟩ := f5 hhas
          refine ARun2.gom ?_
          refine ARun2.callM (fits07_c S (dataOf c q.2).length (by omega) f2 f3 u2 f4) ?_
          exact ARun2.endm (hKG _ Le.grpM)
        refine ARun2.gom ?_
        refine ARun2.endm (hK15 _ ?_)
        refine AWp.condLM (fun c4 => ?_) (fun c4 => ?_)
        · skip
          rw [hcl] at c4
          simp at c4
          rw [← hdm2] at hone
          rw [if_neg (by rw [c4.1]; simp), if_pos (by simpa [hdm2] using c4.2)] at hone
          have hr : O = ([], .flt 7 (i + q.1)) := by rw [hO, hfd, goF_err hk2 (by rw [hone]; intro h; cases h), hone]
          refine AWp.regionW ?_
          refine AWp.ret ?_
          try simp only [thenQ, blockQ, noGo]
          refine bodyQ.m ?_
          clear hK15 K15 hK14 K14 hK13 K13 hK12 K12 hK11 K11 hK10 K10 hK9 K9 hK8 K8 hK7 K7 hK6 K6 hK5 K5 hK4 K4 hK3 K3 hK2 K2 hK1 K1
          rw [hr]; simp only [resP, Er.codeOf, Er.atOf]
          first | done | exact Hand.go
        rw [hcl] at c4
        have hfit : shapeHas c q.2.ty = true → fitsN S (dataOf c q.2).length = true := by
          intro h; rw [← hdm2]; simpa [h] using c4
        refine AWp.skip ?_
        refine hK14 _ ?_
        refine AWp.seqK fun K16 hK16 => ?_
        refine AWp.regionA fun K17 hK17 => ?_
        refine ARun.segm 3 fun KS hKS => ?_
        refine ARun2.endm (hKS _ ?_); clear hKS KS
        apply ARun.grpM 3 2 true 95 [0, 2, 3, 8, 9, 10, 11, 12, 13, 14, 15, 92]
        · intro g2 KG hKG
          refine ARun2.gom ?_
          exact ARun2.endm (hKG _ Le.grpM)
        refine ARun.segm 2 fun KS hKS => ?_
        refine ARun2.endm (hKS _ ?_); clear hKS KS
        apply ARun.grpM 4 7 true 101 [0, 2, 3, 8, 9, 10, 11, 12, 13, 14, 15, 97]
        · intro g7 KG hKG
          refine ARun2.gom ?_
          refine ARun2.callM (counted08_c (dataOf c q.2) (by omega)) ?_
          exact ARun2.endm (hKG _ Le.grpM)
        refine ARun2.gom ?_
        refine ARun2.endm (hK17 _ ?_)
        refine AWp.condLM (fun c5 => ?_) (fun c5 => ?_)
        · skip
          have hcn : countedN c q.2.ty (dataOf c q.2) = true := by rw [← counted_par c q.2.ty (dataOf c q.2) (by rw [hS]; exact hfit), ← hdm2]; simpa [Bool.and_assoc] using c5
          have hhas : shapeHas c q.2.ty = true := by unfold countedN at hcn; simp at hcn; rw [hcn.1, hcn.2.1]; rfl
          rw [if_neg (by rw [hhas]; simp), if_neg (by rw [hfit hhas]; simp), if_pos hcn] at hone
          have hr : O = ([], .flt 8 (i + q.1 + 4)) := by rw [hO, hfd, goF_err hk2 (by rw [hone]; intro h; cases h), hone]
          refine AWp.regionW ?_
          refine AWp.ret ?_
          try simp only [thenQ, blockQ, noGo]
          refine bodyQ.m ?_
          clear hK17 K17 hK16 K16 hK15 K15 hK14 K14 hK13 K13 hK12 K12 hK11 K11 hK10 K10 hK9 K9 hK8 K8 hK7 K7 hK6 K6 hK5 K5 hK4 K4 hK3 K3 hK2 K2 hK1 K1
          rw [hr]; simp only [resP, Er.codeOf, Er.atOf]
          first | done | exact Hand.go
        have hcn : countedN c q.2.ty (dataOf c q.2) = false := by rw [← counted_par c q.2.ty (dataOf c q.2) (by rw [hS]; exact hfit), ← hdm2]; simpa [Bool.and_assoc] using c5
        refine AWp.skip ?_
        refine hK16 _ ?_
        refine AWp.seqK fun K18 hK18 => ?_
        refine AWp.regionW ?_
        refine AWp.condLM (fun c6 => ?_) (fun c6 => ?_)
        · skip
          have hhas : shapeHas c q.2.ty = true := by
            cases h : shapeHas c q.2.ty with
            | true => rfl
            | false => exact absurd (by rw [f6 h]; rfl) hk0
          have hle := fits_least (hfit hhas)
          have ihr := ih m rfl (insideN S.kids).1 (q.2.val.drop S.least) (i + q.1 + 4 + S.least) (inside_cls f1 hk0) (by rw [List.length_drop]; omega)
          have ihn := parseF_len m (insideN S.kids).1 (q.2.val.drop S.least) (i + q.1 + 4 + S.least)
          have ihm := parseF_num m (insideN S.kids).1 (q.2.val.drop S.least) (i + q.1 + 4 + S.least)
          have ihz := parseF_nil m (insideN S.kids).1 (q.2.val.drop S.least) (i + q.1 + 4 + S.least)
          rw [List.length_drop] at ihn
          rw [if_neg (by rw [hhas]; simp), if_neg (by rw [hfit hhas]; simp), if_neg (by rw [hcn]; simp), if_neg hk0] at hone
          obtain ⟨R, hR⟩ : ∃ R, R = parseF m (insideN S.kids).1 (q.2.val.drop S.least) (i + q.1 + 4 + S.least) := ⟨_, rfl⟩
          rw [← hR] at ihr ihn ihm ihz hone
          refine AWp.drS [[(15, none)], [(109, some 0)], [(110, some 1)], [(13, none)], [(15, none)], [(113, some 4)], [(112, some 3), (114, some 5)], [(12, none)], [(116, some 7)], [(15, none)], [(118, some 9)], [(117, some 8), (119, some 10)], [(3, none)], [(121, some 12)], [(111, some 2), (115, some 6), (120, some 11), (122, some 13)], []] fun G hG => ?_
          refine Dr.sim ?_
          try simp only [lca, lna]
          refine Dr.sim ?_
          try simp only [lca, lna]
          refine Dr.call (inside08_c S.kids f1) ?_
          try simp only [lca, lna]
          refine Dr.sim ?_
          try simp only [lca, lna]
          refine Dr.sim ?_
          try simp only [lca, lna]
          refine Dr.sim ?_
          try simp only [lca, lna]
          refine Dr.sliceLo (S.least) ?_ ?_
          · rw [bys_len]; omega
          try simp only [lca, lna]
          refine Dr.sim ?_
          try simp only [lca, lna]
          refine Dr.sim ?_
          try simp only [lca, lna]
          refine Dr.sim ?_
          try simp only [lca, lna]
          refine Dr.sim ?_
          try simp only [lca, lna]
          refine Dr.sim ?_
          try simp only [lca, lna]
          refine Dr.sim ?_
          try simp only [lca, lna]
          refine Dr.sim ?_
          try simp only [lca, lna]
          refine Dr.call (ihr) ?_
          try simp only [lca, lna]
          refine Dr.al ?_
          try simp only [lca, lna]
          refine Dr.finA (n := 16) 15 [(123, 14), (16, 15)] [0, 2, 3, 8, 9, 10, 11, 12, 14, 15] hG Facts.mixed fun KD hKD => ?_
          refine ARun2.endm (hKD _ ?_); clear hKD KD hG G
          refine AWp.seqK fun K19 hK19 => ?_
          refine AWp.regionW ?_
          refine AWp.condLM (fun c7 => ?_) (fun c7 => ?_)
          · skip
            have he : R.2 ≠ .ok := by intro h; rw [h] at c7; cases c7
            have hz := ihz he
            rw [if_pos he] at hone
            have hr : O = ([], R.2) := by rw [hO, hfd, goF_err hk2 (by rw [hone]; exact he), hone]
            refine AWp.regionW ?_
            refine AWp.ret ?_
            try simp only [thenQ, blockQ, noGo]
            refine bodyQ.m ?_
            clear hK19 K19 hK18 K18 hK17 K17 hK16 K16 hK15 K15 hK14 K14 hK13 K13 hK12 K12 hK11 K11 hK10 K10 hK9 K9 hK8 K8 hK7 K7 hK6 K6 hK5 K5 hK4 K4 hK3 K3 hK2 K2 hK1 K1
            rw [hr, hz]
            first | done | exact Hand.go
          have he : R.2 = .ok := by rw [← num_ok ihm]; simpa using c7
          rw [if_neg (by simpa using he)] at hone
          refine AWp.skip ?_
          refine hK19 _ ?_
          refine AWp.regionW ?_
          refine AWp.regionM fun K20 hK20 => ?_
          refine ARun2.callM (wanted_c S R.1 (by omega) f1) ?_
          refine ARun2.endm (hK20 _ ?_)
          refine AWp.condLM (fun c8 => ?_) (fun c8 => ?_)
          · skip
            have hkk : kidsOk S R.1 = false := by simpa using c8
            rw [if_pos hkk] at hone
            have hr : O = ([], .flt 7 (i + q.1)) := by rw [hO, hfd, goF_err hk2 (by rw [hone]; intro h; cases h), hone]
            refine AWp.regionW ?_
            refine AWp.ret ?_
            try simp only [thenQ, blockQ, noGo]
            refine bodyQ.m ?_
            clear hK20 K20 hK19 K19 hK18 K18 hK17 K17 hK16 K16 hK15 K15 hK14 K14 hK13 K13 hK12 K12 hK11 K11 hK10 K10 hK9 K9 hK8 K8 hK7 K7 hK6 K6 hK5 K5 hK4 K4 hK3 K3 hK2 K2 hK1 K1
            rw [hr]; simp only [resP, Er.codeOf, Er.atOf]
            first | done | exact Hand.go
          have hkk : kidsOk S R.1 = true := by simpa using c8
          rw [if_neg (by rw [hkk]; simp)] at hone
          have hs := goF_snoc hk2 (p := q) (by rw [hone])
          rw [← ht, hone] at hs
          refine AWp.skip ?_
          refine hK18 _ ?_
          refine AWp.regionN fun K21 hK21 => ?_
          refine ARun2.appendM ?_ ?_ ?_
          · rw [Facts.eb24, nodesA_len, List.length_cons, List.length_nil]; omega
          · rw [nodesA_len, List.length_cons, List.length_nil]; omega
          refine ARun2.endm (hK21 _ ?_)
          refine hK6 _ ?_
          refine AWp.regionV ?_
          refine hK4 _ (k + 1) (⟨hil, by rw [hs]⟩) (by omega) ?_
          refine Le.m 4 ?_ ?_
          · first | exact Go.Abs.evM | (refine Go.Abs.evS ?_; rw [hs, nodesA_snoc, nodeA_eq]; rfl)
          · exact Go.Abs.evN
        exfalso; simp at c6; omega
      have hk0 : S.kids = 0 := by simpa using c3
      have hdm2 : q.2.val = dataOf c q.2 := by rw [hdo, if_neg (by simp [hk0])]
      refine AWp.skip ?_
      refine hK12 _ ?_
      refine AWp.seqK fun K22 hK22 => ?_
      refine AWp.regionA fun K23 hK23 => ?_
      refine ARun.segm 4 fun KS hKS => ?_
      refine ARun2.endm (hKS _ ?_); clear hKS KS
      apply ARun.grpM 6 3 true 86 [0, 2, 3, 8, 9, 10, 11, 12, 13, 14, 15, 80]
      · intro g3 KG hKG
        have hhas : shapeHas c q.2.ty = true := by rw [← hcl]; exact g3
        obtain ⟨u1, u2⟩ := f5 hhas
        refine ARun2.gom ?_
        refine ARun2.callM (fits07_c S q.2.val.length (by omega) f2 f3 u2 f4) ?_
        exact ARun2.endm (hKG _ Le.grpM)
      refine ARun2.gom ?_
      refine ARun2.endm (hK23 _ ?_)
      refine AWp.condLM (fun c4 => ?_) (fun c4 => ?_)
      · skip
        rw [hcl] at c4
        simp at c4
        rw [← hdm2] at hone
        rw [if_neg (by rw [c4.1]; simp), if_pos (by simpa [hdm2] using c4.2)] at hone
        have hr : O = ([], .flt 7 (i + q.1)) := by rw [hO, hfd, goF_err hk2 (by rw [hone]; intro h; cases h), hone]
        refine AWp.regionW ?_
        refine AWp.ret ?_
        try simp only [thenQ, blockQ, noGo]
        refine bodyQ.m ?_
        clear hK23 K23 hK22 K22 hK12 K12 hK11 K11 hK10 K10 hK9 K9 hK8 K8 hK7 K7 hK6 K6 hK5 K5 hK4 K4 hK3 K3 hK2 K2 hK1 K1
        rw [hr]; simp only [resP, Er.codeOf, Er.atOf]
        first | done | exact Hand.go
      rw [hcl] at c4
      have hfit : shapeHas c q.2.ty = true → fitsN S (dataOf c q.2).length = true := by
        intro h; rw [← hdm2]; simpa [h] using c4
      refine AWp.skip ?_
      refine hK22 _ ?_
      refine AWp.seqK fun K24 hK24 => ?_
      refine AWp.regionA fun K25 hK25 => ?_
      refine ARun.segm 3 fun KS hKS => ?_
      refine ARun2.endm (hKS _ ?_); clear hKS KS
      apply ARun.grpM 3 2 true 95 [0, 2, 3, 8, 9, 10, 11, 12, 13, 14, 15, 92]
      · intro g2 KG hKG
        refine ARun2.gom ?_
        exact ARun2.endm (hKG _ Le.grpM)
      refine ARun.segm 2 fun KS hKS => ?_
      refine ARun2.endm (hKS _ ?_); clear hKS KS
      apply ARun.grpM 4 7 true 101 [0, 2, 3, 8, 9, 10, 11, 12, 13, 14, 15, 97]
      · intro g7 KG hKG
        refine ARun2.gom ?_
        refine ARun2.callM (counted08_c q.2.val (by omega)) ?_
        exact ARun2.endm (hKG _ Le.grpM)
      refine ARun2.gom ?_
      refine ARun2.endm (hK25 _ ?_)
      refine AWp.condLM (fun c5 => ?_) (fun c5 => ?_)
      · skip
        have hcn : countedN c q.2.ty (dataOf c q.2) = true := by rw [← counted_par c q.2.ty (dataOf c q.2) (by rw [hS]; exact hfit), ← hdm2]; simpa [Bool.and_assoc] using c5
        have hhas : shapeHas c q.2.ty = true := by unfold countedN at hcn; simp at hcn; rw [hcn.1, hcn.2.1]; rfl
        rw [if_neg (by rw [hhas]; simp), if_neg (by rw [hfit hhas]; simp), if_pos hcn] at hone
        have hr : O = ([], .flt 8 (i + q.1 + 4)) := by rw [hO, hfd, goF_err hk2 (by rw [hone]; intro h; cases h), hone]
        refine AWp.regionW ?_
        refine AWp.ret ?_
        try simp only [thenQ, blockQ, noGo]
        refine bodyQ.m ?_
        clear hK25 K25 hK24 K24 hK23 K23 hK22 K22 hK12 K12 hK11 K11 hK10 K10 hK9 K9 hK8 K8 hK7 K7 hK6 K6 hK5 K5 hK4 K4 hK3 K3 hK2 K2 hK1 K1
        rw [hr]; simp only [resP, Er.codeOf, Er.atOf]
        first | done | exact Hand.go
      have hcn : countedN c q.2.ty (dataOf c q.2) = false := by rw [← counted_par c q.2.ty (dataOf c q.2) (by rw [hS]; exact hfit), ← hdm2]; simpa [Bool.and_assoc] using c5
      refine AWp.skip ?_
      refine hK24 _ ?_
      refine AWp.seqK fun K26 hK26 => ?_
      refine AWp.regionW ?_
      refine AWp.condLM (fun c6 => ?_) (fun c6 => ?_)
      · skip
        exfalso; rw [hk0] at c6; cases c6
      have hone2 : oneD (m + 1) c q.2 (i + q.1) = (.mk q.2.ty (dataOf c q.2) [], .ok) := by
        cases h : shapeHas c q.2.ty with
        | false => rw [hone, if_pos h, ← hdm2]
        | true => rw [hone, if_neg (by rw [h]; simp), if_neg (by rw [hfit h]; simp), if_neg (by rw [hcn]; simp), if_pos hk0]
      have hs := goF_snoc hk2 (p := q) (by rw [hone2])
      rw [← ht, hone2] at hs
      refine AWp.skip ?_
      refine hK26 _ ?_
      refine AWp.subBox 4 [u16 q.2.ty, .sl false 1 (bys q.2.val), .sl false 3 []] ?_ ?_
      exact Hand.goL
      refine AWp.regionN fun K27 hK27 => ?_
      refine ARun2.appendM ?_ ?_ ?_
      · rw [Facts.eb24, nodesA_len, List.length_cons, List.length_nil]; omega
      · rw [nodesA_len, List.length_cons, List.length_nil]; omega
      refine ARun2.endm (hK27 _ ?_)
      refine hK6 _ ?_
      refine AWp.regionV ?_
      refine hK4 _ (k + 1) (⟨hil, by rw [hs]⟩) (by omega) ?_
      refine Le.m 4 ?_ ?_
      · first | exact Go.Abs.evM | (refine Go.Abs.evS ?_; rw [hs, nodesA_snoc, nodeA_eq, ← hdm2]; rfl)
      · exact Go.Abs.evN
    have hkl : k = fs.length := by have := hk.1; simp at c1; omega
    subst hkl
    have hk2 := hk.2
    rw [List.take_length] at hk2 ⊢
    refine AWp.exit ?_
    try simp only [thenQ, blockQ, noGo, reduceIte, Nat.reduceEqDiff]
    refine hK3 _ ?_
    refine AWp.pubD 3 ?_
    refine AWp.regionW ?_
    refine AWp.ret ?_
    try simp only [thenQ, blockQ, noGo]
    refine bodyQ.m ?_
    clear hK5 K5 hK4 K4 hK3 K3 hK2 K2 hK1 K1
    subst hO; simp only [resP, hk2, Er.codeOf, Er.atOf]
    first | done | exact Hand.go
theorem parse08_w : ∀ (m d c : Nat) (b : List UInt8) (i : Nat), d + m = 5 → (c = 1 ∨ c = 2) → i + b.length ≤ 2 ^ 40 →
    PC Tryz.prog 114 [nat c, .sl false 1 (bys b), nat i, nat d] (resP (parseF m c b i)) := by
  intro m
  induction m with
  | zero => intro d c b i hdm hc hi; exact parse08_step 0 c d hdm b (fun _ => hc) i hi (fun m' h => by omega)
  | succ m ih => intro d c b i hdm hc hi; exact parse08_step (m + 1) c d hdm b (fun _ => hc) i hi (fun m' h c b i hc hi => by obtain rfl : m = m' := (by omega); exact ih (d + 1) c b i (by omega) hc hi)
theorem parse08_n (c : Nat) (b : List UInt8) (hc : 0 < b.length → c = 1 ∨ c = 2) (i : Nat) (hi : i + b.length ≤ 2 ^ 40) : PC Tryz.prog 114 [nat c, .sl false 1 (bys b), nat i, nat 1] (resP (parseF 4 c b i)) :=
  parse08_step 4 c 1 rfl b hc i hi (fun m' h c b i hc hi => by
    obtain rfl : m' = 3 := by omega
    exact parse08_w 3 2 c b i rfl hc hi)
theorem Er.shift_ok {e : Er} {n : Nat} : e.shift n = .ok ↔ e = .ok := by cases e <;> simp [Er.shift]
theorem Er.shift_shift (e : Er) (a b : Nat) : (e.shift a).shift b = e.shift (a + b) := by cases e <;> simp [Er.shift, Nat.add_assoc]
theorem goF_shift {one : Frm → Nat → GNode × Er} {n : Nat} (h : ∀ f j, one f (j + n) = ((one f j).1, (one f j).2.shift n)) (i : Nat) : ∀ l, goF one (i + n) l = ((goF one i l).1, (goF one i l).2.shift n)
  | [] => rfl
  | p :: l => by
    have h1 := h p.2 (i + p.1)
    have e : i + n + p.1 = i + p.1 + n := by omega
    simp only [goF, e, h1, goF_shift h i l, Er.shift_ok]
    split
    · split <;> rfl
    · rfl
theorem oneF_shift {rec : Nat → List UInt8 → Nat → List GNode × Er} (n : Nat) (h : ∀ c b i, rec c b (i + n) = ((rec c b i).1, (rec c b i).2.shift n)) (c : Nat) (f : Frm) (i : Nat) : oneF rec c f (i + n) = ((oneF rec c f i).1, (oneF rec c f i).2.shift n) := by
  have e : i + n + 4 + (shapeOf c f.ty).least = i + 4 + (shapeOf c f.ty).least + n := by omega
  have e2 : i + n + 4 = i + 4 + n := by omega
  unfold oneF
  rw [e, h]
  simp only [Er.shift_ok, ne_eq]
  by_cases h1 : shapeHas c f.ty = false
  · simp only [if_pos h1]; rfl
  by_cases h2 : fitsN (shapeOf c f.ty) (dataOf c f).length = false
  · simp only [if_neg h1, if_pos h2]; rfl
  by_cases h3 : countedN c f.ty (dataOf c f) = true
  · simp only [if_neg h1, if_neg h2, if_pos h3, e2]; rfl
  by_cases h4 : (shapeOf c f.ty).kids = 0
  · simp only [if_neg h1, if_neg h2, if_neg h3, if_pos h4]; rfl
  by_cases h5 : (rec (insideN (shapeOf c f.ty).kids).1 (f.val.drop (shapeOf c f.ty).least) (i + 4 + (shapeOf c f.ty).least)).2 = .ok
  · by_cases h6 : kidsOk (shapeOf c f.ty) (rec (insideN (shapeOf c f.ty).kids).1 (f.val.drop (shapeOf c f.ty).least) (i + 4 + (shapeOf c f.ty).least)).1 = false
    · simp only [if_neg h1, if_neg h2, if_neg h3, if_neg h4, h5, not_true_eq_false, if_false, if_pos h6]; rfl
    · simp only [if_neg h1, if_neg h2, if_neg h3, if_neg h4, h5, not_true_eq_false, if_false, if_neg h6]; rfl
  · simp only [if_neg h1, if_neg h2, if_neg h3, if_neg h4, h5, not_false_eq_true, if_true]
theorem parseF_shift : ∀ (m c : Nat) (b : List UInt8) (i n : Nat), parseF m c b (i + n) = ((parseF m c b i).1, (parseF m c b i).2.shift n)
  | m, c, b, i, n => by
    rw [parseF_eq, parseF_eq]
    split
    · refine goF_shift (fun f j => ?_) i _
      match m with
      | 0 => rfl
      | m + 1 => exact oneF_shift n (fun c b i => parseF_shift m c b i n) c f j
    · show ([], _) = ([], _)
      rw [Er.shift_shift]
theorem goF_at {one : Frm → Nat → GNode × Er} {i n : Nat} : ∀ l : List (Nat × Frm), (∀ p ∈ l, (one p.2 (i + p.1)).2.atOf.1 ≤ n) → (goF one i l).2.atOf.1 ≤ n
  | [], _ => Nat.zero_le _
  | p :: l, h => by
    have h1 := h p (by simp)
    have h2 := goF_at l (fun q hq => h q (by simp [hq]))
    simp only [goF]
    split
    · split
      · exact Nat.zero_le _
      · exact h2
    · exact h1
theorem oneF_at {rec : Nat → List UInt8 → Nat → List GNode × Er} (h : ∀ c b i, (rec c b i).2.atOf.1 ≤ i + b.length) (c : Nat) (f : Frm) (i : Nat) : (oneF rec c f i).2.atOf.1 ≤ i + 4 + f.val.length := by
  unfold oneF
  have hd := dataOf_len c f
  split
  · exact Nat.zero_le _
  split
  · show i ≤ _; omega
  split
  · show i + 4 ≤ _; omega
  split
  · exact Nat.zero_le _
  rename_i h2 h3 h4
  have hf := fits_least (f := shapeOf c f.ty) (n := (dataOf c f).length) (by
    cases hx : fitsN (shapeOf c f.ty) (dataOf c f).length with
    | true => rfl
    | false => exact absurd hx h2)
  split
  · have := h (insideN (shapeOf c f.ty).kids).1 (f.val.drop (shapeOf c f.ty).least) (i + 4 + (shapeOf c f.ty).least)
    rw [List.length_drop] at this
    exact Nat.le_trans this (by omega)
  split
  · show i ≤ _; omega
  · exact Nat.zero_le _
theorem shift_at (e : Er) (i n : Nat) (h : e.atOf.1 ≤ n) : (e.shift i).atOf.1 ≤ i + n := by
  cases e <;> simp [Er.shift, Er.atOf] at * <;> omega
theorem parseF_at : ∀ (m c : Nat) (b : List UInt8) (i : Nat), (parseF m c b i).2.atOf.1 ≤ i + b.length
  | m, c, b, i => by
    rw [parseF_eq]
    split
    · refine goF_at _ fun p hp => ?_
      have hs := (scan_fit b b.length 0 p hp).1
      match m with
      | 0 => show i + p.1 ≤ _; omega
      | m + 1 =>
        have := oneF_at (rec := parseF m) (fun c b i => parseF_at m c b i) c p.2 (i + p.1)
        exact Nat.le_trans this (by omega)
    · exact shift_at _ _ _ (scan_at b b.length 0)
theorem nparse_n (c : Nat) (b : List UInt8) (hc : 0 < b.length → c = 1 ∨ c = 2) (hl : b.length ≤ 2 ^ 40) : PC Tryz.prog 105 [nat c, .sl false 1 (bys b)] (.tup [.sl true 3 (nodesA true (parseF 4 c b 0).1), erA (parseF 4 c b 0).2]) := by
  have h : PC Tryz.prog 142 [nat c, .sl false 1 (bys b), nat 0, nat 1] (.tup [.sl true 3 (nodesA true (parseF 4 c b 0).1), erA (parseF 4 c b 0).2]) := by
    cases b with
    | nil => exact parse_nil0 c
    | cons x r => exact parse_all 4 1 c (x :: r) 0 rfl (hc (by simp)) (by omega)
  refine PC.of_bodyK (by simp only [push_cast]) Tryz.func105 rfl (by rw [Tryz.ntmps105]; simp) ?_
  refine AWp.regionW ?_
  refine AWp.regionM fun K1 hK1 => ?_
  refine ARun2.callM (h) ?_
  refine ARun2.endm (hK1 _ ?_)
  refine AWp.ret ?_
  try simp only [thenQ, blockQ, noGo]
  refine bodyQ.m ?_
  clear hK1 K1
  first | done | exact Wk.go
set_option maxRecDepth 100000 in
theorem firsts4_c (c : GChunk) (hd : c.data.length ≤ 2 ^ 40) (hk : c.kids.length ≤ 2 ^ 40) (hh : kindHas c.ty = true) :
    PC Tryz.prog 100 [chunkA false c, kformA (kindOf c.ty), .sl false 1 [.fn (.func 101) [] [], .fn (.func 102) [] [], .fn (.func 103) [] [], .fn (.func 104) [] []]] (erA (dataE4 c)) := by
  have hb := kind_bd c.ty
  have hu := (hb.2.2.2.2.2.2.1 hh).1
  refine cfirst_c c (kindOf c.ty) [101, 102, 103, 104] [flagsE c (kindOf c.ty), dataE c (kindOf c.ty), countE c, valueE c] rfl (by decide) ?_ ?_
  · intro i hi
    match i, hi with
    | 0, _ => rfl
    | 1, _ => rfl
    | 2, _ => rfl
    | 3, _ => rfl
    | i + 4, h => simp at h; omega
  · intro i hi hok
    match i, hi with
    | 0, _ => exact cflags_c c _
    | 1, _ => exact cdata_c c _ hd (by omega) hu (by omega)
    | 2, _ => exact ccount_c c _ hd (data_ok (hok 1 (by omega))).1
    | 3, _ => exact cvalue_c c _ hd (data_ok (hok 1 (by omega))).2.1 (data_ok (hok 1 (by omega))).2.2
    | i + 4, h => simp at h; omega
theorem peek1_get (b : List UInt8) (i : Nat) (h : i + 1 ≤ b.length) : peekN 1 b i = (b.getD i 0).toNat := by
  have e : (b.drop i).take 1 = [b[i]'(by omega)] := by rw [List.drop_eq_getElem_cons (by omega)]; rfl
  unfold peekN
  rw [if_pos h, e, List.getD_eq_getElem?_getD, List.getElem?_eq_getElem (show i < b.length by omega)]
  simp [beN]
theorem kids_class {t : Nat} (D r : List UInt8) (h : (kindOf t).kids = 0 → D = r) (hl : 0 < (r.drop D.length).length) : classOf t = 1 ∨ classOf t = 2 := by
  by_cases h0 : (kindOf t).kids = 0
  · rw [h h0, List.drop_length] at hl; simp at hl
  · exact kind_class h0
theorem cparse_short (b : List UInt8) (hb : b.length ≤ 2 ^ 30) (t f n p1 p2 p3 : Nat) (x y : Bool) (ht : t < 2 ^ 32) (hf : f < 2 ^ 32)
    (k1 : OC Tryz.prog 96 [.ptr 0 0, nat 1] [cur b 0] (.tup [u32 t, bool x]) [cur b p1])
    (k2 : OC Tryz.prog 96 [.ptr 0 0, nat 1] [cur b p1] (.tup [u32 f, bool y]) [cur b p2])
    (k3 : OC Tryz.prog 96 [.ptr 0 0, nat 2] [cur b p2] (.tup [u32 n, bool false]) [cur b p3]) :
    PC Tryz.prog 48 [.sl false 1 (bys b)] (.tup [chunkA true .zero, erA (.flt 4 0)]) := by
  refine PC.of_bodyK (by simp only [push_cast]) Tryz.func48 rfl (by rw [Tryz.ntmps48]; simp) ?_
  refine AWp.regionW ?_
  refine AWp.regionM fun K1 hK1 => ?_
  refine ARun2.callOM [] (new_c b (by omega)) ?_
  refine ARun2.endm (hK1 _ ?_)
  refine AWp.regionM fun K2 hK2 => ?_
  refine ARun2.callOM [1] (k1) ?_
  refine ARun2.endm (hK2 _ ?_)
  refine AWp.regionM fun K3 hK3 => ?_
  refine ARun2.callOM [1] (k2) ?_
  refine ARun2.endm (hK3 _ ?_)
  refine AWp.regionM fun K4 hK4 => ?_
  refine ARun2.callOM [1] (k3) ?_
  refine ARun2.endm (hK4 _ ?_)
  refine AWp.seqK fun K5 hK5 => ?_
  refine AWp.regionW ?_
  refine AWp.condT ?_
  refine AWp.regionM fun K6 hK6 => ?_
  refine ARun2.callM (fnew_c 4 0) ?_
  refine ARun2.endm (hK6 _ ?_)
  refine AWp.ret ?_
  try simp only [thenQ, blockQ, noGo]
  refine bodyQ.m ?_
  clear hK6 K6 hK5 K5 hK4 K4 hK3 K3 hK2 K2 hK1 K1
  simp only [GChunk.zero]
  first | done | exact Wk.go
theorem cparse_bad (b : List UInt8) (hb : b.length ≤ 2 ^ 30) (h4 : 4 ≤ b.length) (hn : peekN 2 b 2 ≠ b.length) :
    PC Tryz.prog 48 [.sl false 1 (bys b)] (.tup [chunkA true .zero, erA (.flt 4 0)]) := by
  have hp := peek2_lt b 2
  refine PC.of_bodyK (by simp only [push_cast]) Tryz.func48 rfl (by rw [Tryz.ntmps48]; simp) ?_
  refine AWp.regionW ?_
  refine AWp.regionM fun K1 hK1 => ?_
  refine ARun2.callOM [] (new_c b (by omega)) ?_
  refine ARun2.endm (hK1 _ ?_)
  refine AWp.regionM fun K2 hK2 => ?_
  refine ARun2.callOM [1] (num_hit 1 b 0 (by decide) (by omega) (by omega)) ?_
  refine ARun2.endm (hK2 _ ?_)
  refine AWp.regionM fun K3 hK3 => ?_
  refine ARun2.callOM [1] (num_hit 1 b 1 (by decide) (by omega) (by omega)) ?_
  refine ARun2.endm (hK3 _ ?_)
  refine AWp.regionM fun K4 hK4 => ?_
  refine ARun2.callOM [1] (num_hit 2 b 2 (by decide) (by omega) (by omega)) ?_
  refine ARun2.endm (hK4 _ ?_)
  refine AWp.seqK fun K5 hK5 => ?_
  refine AWp.regionW ?_
  refine AWp.condLM (fun c0 => ?_) (fun c0 => ?_)
  · skip
    refine AWp.regionM fun K6 hK6 => ?_
    refine ARun2.callM (fnew_c 4 0) ?_
    refine ARun2.endm (hK6 _ ?_)
    refine AWp.ret ?_
    try simp only [thenQ, blockQ, noGo]
    refine bodyQ.m ?_
    clear hK6 K6 hK5 K5 hK4 K4 hK3 K3 hK2 K2 hK1 K1
    simp only [GChunk.zero]
    first | done | exact Wk.go
  exfalso; apply hn; simpa using c0
set_option maxRecDepth 100000 in
set_option maxHeartbeats 2000000 in
theorem cparse_main (b : List UInt8) (hb : b.length ≤ 2 ^ 30) (h4 : 4 ≤ b.length) (hn : peekN 2 b 2 = b.length) :
    PC Tryz.prog 48 [.sl false 1 (bys b)] (.tup [chunkA true (parseC b).1, erA (parseC b).2]) := by
  obtain ⟨R, hR⟩ : ∃ R, R = parseC b := ⟨_, rfl⟩
  have hP : R = if kindHas (headC b).ty = false then (headC b, .ok) else restC (cutC (headC b)) (b.drop 4) := by
    rw [hR]; unfold parseC; rw [if_neg (by rintro (h | h); omega; exact h hn)]
  rw [← hR]
  have e0 := peek1_get b 0 (by omega)
  have e1 := peek1_get b 1 (by omega)
  have g0 := (b.getD 0 0).toNat_lt
  have g1 := (b.getD 1 0).toNat_lt
  obtain ⟨ty, hty⟩ : ∃ ty, ty = (b.getD 0 0).toNat := ⟨_, rfl⟩
  obtain ⟨fl, hfl⟩ : ∃ fl, fl = (b.getD 1 0).toNat := ⟨_, rfl⟩
  have hhead : headC b = ⟨ty, fl, b.drop 4, []⟩ := by rw [hty, hfl]; rfl
  rw [← hty] at e0 g0
  rw [← hfl] at e1 g1
  have hct : (headC b).ty = ty := by rw [hhead]
  rw [hct, hhead] at hP
  have ht1 : (b.drop 4).take (b.length - 4) = b.drop 4 := List.take_of_length_le (by rw [List.length_drop]; exact Nat.le_refl _)
  have hrl : (b.drop 4).length = b.length - 4 := List.length_drop
  obtain ⟨r, hr⟩ : ∃ r, r = b.drop 4 := ⟨_, rfl⟩
  have ht2 := ht1
  rw [← hr] at hrl hP ht2
  have hbd := kind_bd ty
  have hki := kinside_c (kindOf ty).kids (by omega)
  have hclass : (kinsideN (kindOf ty).kids).1 = classOf ty := rfl
  generalize (kinsideN (kindOf ty).kids).2.1 = u1 at hki
  generalize (kinsideN (kindOf ty).kids).2.2 = u2 at hki
  rw [hclass] at hki
  refine PC.of_bodyK (by simp only [push_cast]) Tryz.func48 rfl (by rw [Tryz.ntmps48]; simp) ?_
  refine AWp.regionW ?_
  refine AWp.regionM fun K1 hK1 => ?_
  refine ARun2.callOM [] (new_c b (by omega)) ?_
  refine ARun2.endm (hK1 _ ?_)
  refine AWp.regionM fun K2 hK2 => ?_
  refine ARun2.callOM [1] (num_hit 1 b 0 (by decide) (by omega) (by omega)) ?_
  refine ARun2.endm (hK2 _ ?_)
  refine AWp.regionM fun K3 hK3 => ?_
  refine ARun2.callOM [1] (num_hit 1 b 1 (by decide) (by omega) (by omega)) ?_
  refine ARun2.endm (hK3 _ ?_)
  refine AWp.regionM fun K4 hK4 => ?_
  refine ARun2.callOM [1] (num_hit 2 b 2 (by decide) (by omega) (by omega)) ?_
  refine ARun2.endm (hK4 _ ?_)
  refine AWp.seqK fun K5 hK5 => ?_
  refine AWp.regionW ?_
  refine AWp.condLM (fun c0 => ?_) (fun c0 => ?_)
  · skip
    exfalso; simp [hn] at c0
  refine AWp.skip ?_
  refine hK5 _ ?_
  refine AWp.regionM fun K6 hK6 => ?_
  refine ARun2.callOM [1] (left_c b 4 (by omega) (by omega)) ?_
  refine ARun2.callOM [1] (take_ok b 4 (b.length - 4) (by omega) (by omega)) ?_
  refine ARun2.endm (hK6 _ ?_)
  rw [ht1, ← hr, e0, e1]
  refine AWp.regionW ?_
  refine AWp.regionM fun K7 hK7 => ?_
  refine ARun2.callM (kof_c ty g0) ?_
  refine ARun2.endm (hK7 _ ?_)
  refine AWp.seqK fun K8 hK8 => ?_
  refine AWp.regionW ?_
  refine AWp.condLM (fun c1 => ?_) (fun c1 => ?_)
  · skip
    have hh : kindHas ty = false := by simpa using c1
    rw [if_pos hh] at hP
    refine AWp.regionW ?_
    refine AWp.ret ?_
    try simp only [thenQ, blockQ, noGo]
    refine bodyQ.m ?_
    clear hK8 K8 hK7 K7 hK6 K6 hK5 K5 hK4 K4 hK3 K3 hK2 K2 hK1 K1
    first | rw [hP3] | rw [hP2] | rw [hP]
    try rw [hke]
    try simp only [GChunk.zero]
    first | done | exact Wk.go
  have hh : kindHas ty = true := by simpa using c1
  rw [if_neg (by rw [hh]; simp)] at hP
  refine AWp.skip ?_
  refine hK8 _ ?_
  refine AWp.seqK fun K9 hK9 => ?_
  refine AWp.regionA fun K10 hK10 => ?_
  refine ARun.segm 4 fun KS hKS => ?_
  refine ARun2.endm (hKS _ ?_); clear hKS KS
  apply ARun.grpM 5 3 true 80 [2, 11, 13, 14, 75]
  · intro g3 KG hKG
    refine ARun2.gom ?_
    exact ARun2.endm (hKG _ Le.grpM)
  refine ARun2.gom ?_
  refine ARun2.endm (hK10 _ ?_)
  refine AWp.condLM (fun c2 => ?_) (fun c2 => ?_)
  · skip
    have hk0 : (kindOf ty).kids ≠ 0 ∧ (kindOf ty).least ≤ r.length := by simpa using c2
    obtain ⟨D, hD⟩ : ∃ D, D = r.take (kindOf ty).least := ⟨_, rfl⟩
    have hcut : cutC ⟨ty, fl, r, []⟩ = ⟨ty, fl, D, []⟩ := by rw [hD]; exact if_pos hk0
    have hDk : (kindOf ty).kids = 0 → D = r := fun h => absurd h hk0.1
    have hDl : D.length ≤ r.length := by rw [hD, List.length_take]; omega
    refine AWp.regionN fun K11 hK11 => ?_
    refine ARun2.sliceHi3M (kindOf ty).least (by rw [bys_len]; exact hk0.2) ?_
    refine ARun2.endm (hK11 _ ?_)
    refine hK9 _ ?_
    refine AWp.seqK fun K12 hK12 => ?_
    rw [hcut] at hP
    have hP2 : R = if dataE4 ⟨ty, fl, D, []⟩ ≠ .ok then (.zero, dataE4 ⟨ty, fl, D, []⟩) else insC ⟨ty, fl, D, []⟩ (parseF 4 (classOf ty) (r.drop D.length) 0) := hP
    have kf := firsts4_c ⟨ty, fl, D, []⟩ (show D.length ≤ _ by omega) (by simp) hh
    try rw [← hD]
    refine AWp.regionM fun K13 hK13 => ?_
    refine ARun2.callM (kf) ?_
    refine ARun2.endm (hK13 _ ?_)
    refine AWp.regionW ?_
    refine AWp.condLM (fun c3 => ?_) (fun c3 => ?_)
    · skip
      have he : dataE4 ⟨ty, fl, D, []⟩ ≠ .ok := by intro h; rw [h] at c3; cases c3
      rw [if_pos he] at hP2
      refine AWp.regionW ?_
      refine AWp.ret ?_
      try simp only [thenQ, blockQ, noGo]
      refine bodyQ.m ?_
      clear hK13 K13 hK12 K12 hK11 K11 hK10 K10 hK9 K9 hK8 K8 hK7 K7 hK6 K6 hK5 K5 hK4 K4 hK3 K3 hK2 K2 hK1 K1
      first | rw [hP3] | rw [hP2] | rw [hP]
      try rw [hke]
      try simp only [GChunk.zero]
      first | done | exact Wk.go
    have he : dataE4 ⟨ty, fl, D, []⟩ = .ok := by rw [← isOk_iff]; simpa using c3
    rw [if_neg (by rw [he]; simp)] at hP2
    have kp := nparse_n (classOf ty) (r.drop D.length) (kids_class D r hDk) (by rw [List.length_drop]; omega)
    have hat := parseF_at 4 (classOf ty) (r.drop D.length) 0
    have hpl := parseF_len 4 (classOf ty) (r.drop D.length) 0
    rw [List.length_drop] at hat hpl
    generalize parseF 4 (classOf ty) (r.drop D.length) 0 = O at kp hat hpl hP2
    try rw [← hD] at kp
    have ks := shift_c O.2 (4 + D.length) (by omega) (by omega)
    have kk := ckids_c ⟨ty, fl, D, O.1⟩ (kindOf ty) (by omega) (show O.1.length ≤ _ by omega)
    refine AWp.skip ?_
    refine hK12 _ ?_
    refine AWp.regionM fun K14 hK14 => ?_
    refine ARun2.callM (hki) ?_
    refine ARun2.endm (hK14 _ ?_)
    refine AWp.regionM fun K15 hK15 => ?_
    refine ARun2.sliceLoM (D.length) ?_ ?_
    · rw [bys_len]; omega
    refine ARun2.callM (kp) ?_
    refine ARun2.endm (hK15 _ ?_)
    refine AWp.seqK fun K16 hK16 => ?_
    refine AWp.regionW ?_
    refine AWp.condLM (fun c4 => ?_) (fun c4 => ?_)
    · skip
      have ho : O.2 ≠ .ok := by intro h; rw [h] at c4; cases c4
      have hP3 : R = (.zero, O.2.shift (4 + D.length)) := by rw [hP2]; exact if_pos ho
      refine AWp.regionM fun K17 hK17 => ?_
      refine ARun2.callM (ks) ?_
      refine ARun2.endm (hK17 _ ?_)
      refine AWp.ret ?_
      try simp only [thenQ, blockQ, noGo]
      refine bodyQ.m ?_
      clear hK17 K17 hK16 K16 hK15 K15 hK14 K14 hK13 K13 hK12 K12 hK11 K11 hK10 K10 hK9 K9 hK8 K8 hK7 K7 hK6 K6 hK5 K5 hK4 K4 hK3 K3 hK2 K2 hK1 K1
      first | rw [hP3] | rw [hP2] | rw [hP]
      try rw [hke]
      try simp only [GChunk.zero]
      first | done | exact Wk.go
    have ho : O.2 = .ok := by rw [← isOk_iff]; simpa using c4
    refine AWp.skip ?_
    refine hK16 _ ?_
    refine AWp.regionW ?_
    refine AWp.seqK fun K18 hK18 => ?_
    refine AWp.regionM fun K19 hK19 => ?_
    refine ARun2.callM (kk) ?_
    refine ARun2.endm (hK19 _ ?_)
    refine AWp.regionW ?_
    refine AWp.condLM (fun c5 => ?_) (fun c5 => ?_)
    · skip
      have hko : kidsE ⟨ty, fl, D, O.1⟩ (kindOf ty) ≠ .ok := by intro h; rw [h] at c5; cases c5
      have hkn : kkidsOk (kindOf ty) O.1 = false := by
        cases h : kkidsOk (kindOf ty) O.1 with
        | false => rfl
        | true => exact absurd (if_neg (by rw [h]; simp)) hko
      have hke : kidsE ⟨ty, fl, D, O.1⟩ (kindOf ty) = .flt 7 0 := if_pos hkn
      have hP3 : R = (.zero, .flt 7 0) := by rw [hP2]; unfold insC; rw [if_neg (by rw [ho]; simp), if_pos hkn]
      refine AWp.regionW ?_
      refine AWp.ret ?_
      try simp only [thenQ, blockQ, noGo]
      refine bodyQ.m ?_
      clear hK19 K19 hK18 K18 hK16 K16 hK15 K15 hK14 K14 hK13 K13 hK12 K12 hK11 K11 hK10 K10 hK9 K9 hK8 K8 hK7 K7 hK6 K6 hK5 K5 hK4 K4 hK3 K3 hK2 K2 hK1 K1
      first | rw [hP3] | rw [hP2] | rw [hP]
      try rw [hke]
      try simp only [GChunk.zero]
      first | done | exact Wk.go
    have hko : kidsE ⟨ty, fl, D, O.1⟩ (kindOf ty) = .ok := by rw [← isOk_iff]; simpa using c5
    have hkn : ¬ kkidsOk (kindOf ty) O.1 = false := by
      intro h; rw [show kidsE ⟨ty, fl, D, O.1⟩ (kindOf ty) = .flt 7 0 from if_pos h] at hko; cases hko
    have hP3 : R = (⟨ty, fl, D, O.1⟩, .ok) := by rw [hP2]; unfold insC; rw [if_neg (by rw [ho]; simp), if_neg hkn]
    refine AWp.skip ?_
    refine hK18 _ ?_
    refine AWp.regionW ?_
    refine AWp.ret ?_
    try simp only [thenQ, blockQ, noGo]
    refine bodyQ.m ?_
    clear hK19 K19 hK18 K18 hK16 K16 hK15 K15 hK14 K14 hK13 K13 hK12 K12 hK11 K11 hK10 K10 hK9 K9 hK8 K8 hK7 K7 hK6 K6 hK5 K5 hK4 K4 hK3 K3 hK2 K2 hK1 K1
    first | rw [hP3] | rw [hP2] | rw [hP]
    try rw [hke]
    try simp only [GChunk.zero]
    first | done | exact Wk.go
  have hk0 : ¬ ((kindOf ty).kids ≠ 0 ∧ (kindOf ty).least ≤ r.length) := by
    rintro ⟨h1, h2⟩; simp [h1, h2] at c2
  obtain ⟨D, hD⟩ : ∃ D, D = r := ⟨_, rfl⟩
  have hcut : cutC ⟨ty, fl, r, []⟩ = ⟨ty, fl, D, []⟩ := by rw [hD]; exact if_neg hk0
  have hDk : (kindOf ty).kids = 0 → D = r := fun h => hD
  have hDl : D.length ≤ r.length := by rw [hD]; exact Nat.le_refl _
  refine AWp.skip ?_
  refine hK9 _ ?_
  refine AWp.seqK fun K20 hK20 => ?_
  rw [hcut] at hP
  have hP2 : R = if dataE4 ⟨ty, fl, D, []⟩ ≠ .ok then (.zero, dataE4 ⟨ty, fl, D, []⟩) else insC ⟨ty, fl, D, []⟩ (parseF 4 (classOf ty) (r.drop D.length) 0) := hP
  have kf := firsts4_c ⟨ty, fl, D, []⟩ (show D.length ≤ _ by omega) (by simp) hh
  try rw [← hD]
  refine AWp.regionM fun K21 hK21 => ?_
  refine ARun2.callM (kf) ?_
  refine ARun2.endm (hK21 _ ?_)
  refine AWp.regionW ?_
  refine AWp.condLM (fun c3 => ?_) (fun c3 => ?_)
  · skip
    have he : dataE4 ⟨ty, fl, D, []⟩ ≠ .ok := by intro h; rw [h] at c3; cases c3
    rw [if_pos he] at hP2
    refine AWp.regionW ?_
    refine AWp.ret ?_
    try simp only [thenQ, blockQ, noGo]
    refine bodyQ.m ?_
    clear hK21 K21 hK20 K20 hK10 K10 hK9 K9 hK8 K8 hK7 K7 hK6 K6 hK5 K5 hK4 K4 hK3 K3 hK2 K2 hK1 K1
    first | rw [hP3] | rw [hP2] | rw [hP]
    try rw [hke]
    try simp only [GChunk.zero]
    first | done | exact Wk.go
  have he : dataE4 ⟨ty, fl, D, []⟩ = .ok := by rw [← isOk_iff]; simpa using c3
  rw [if_neg (by rw [he]; simp)] at hP2
  have kp := nparse_n (classOf ty) (r.drop D.length) (kids_class D r hDk) (by rw [List.length_drop]; omega)
  have hat := parseF_at 4 (classOf ty) (r.drop D.length) 0
  have hpl := parseF_len 4 (classOf ty) (r.drop D.length) 0
  rw [List.length_drop] at hat hpl
  generalize parseF 4 (classOf ty) (r.drop D.length) 0 = O at kp hat hpl hP2
  try rw [← hD] at kp
  have ks := shift_c O.2 (4 + D.length) (by omega) (by omega)
  have kk := ckids_c ⟨ty, fl, D, O.1⟩ (kindOf ty) (by omega) (show O.1.length ≤ _ by omega)
  refine AWp.skip ?_
  refine hK20 _ ?_
  refine AWp.regionM fun K22 hK22 => ?_
  refine ARun2.callM (hki) ?_
  refine ARun2.endm (hK22 _ ?_)
  refine AWp.regionM fun K23 hK23 => ?_
  refine ARun2.sliceLoM (D.length) ?_ ?_
  · rw [bys_len]; omega
  refine ARun2.callM (kp) ?_
  refine ARun2.endm (hK23 _ ?_)
  refine AWp.seqK fun K24 hK24 => ?_
  refine AWp.regionW ?_
  refine AWp.condLM (fun c4 => ?_) (fun c4 => ?_)
  · skip
    have ho : O.2 ≠ .ok := by intro h; rw [h] at c4; cases c4
    have hP3 : R = (.zero, O.2.shift (4 + D.length)) := by rw [hP2]; exact if_pos ho
    refine AWp.regionM fun K25 hK25 => ?_
    refine ARun2.callM (ks) ?_
    refine ARun2.endm (hK25 _ ?_)
    refine AWp.ret ?_
    try simp only [thenQ, blockQ, noGo]
    refine bodyQ.m ?_
    clear hK25 K25 hK24 K24 hK23 K23 hK22 K22 hK21 K21 hK20 K20 hK10 K10 hK9 K9 hK8 K8 hK7 K7 hK6 K6 hK5 K5 hK4 K4 hK3 K3 hK2 K2 hK1 K1
    first | rw [hP3] | rw [hP2] | rw [hP]
    try rw [hke]
    try simp only [GChunk.zero]
    first | done | exact Wk.go
  have ho : O.2 = .ok := by rw [← isOk_iff]; simpa using c4
  refine AWp.skip ?_
  refine hK24 _ ?_
  refine AWp.regionW ?_
  refine AWp.seqK fun K26 hK26 => ?_
  refine AWp.regionM fun K27 hK27 => ?_
  refine ARun2.callM (kk) ?_
  refine ARun2.endm (hK27 _ ?_)
  refine AWp.regionW ?_
  refine AWp.condLM (fun c5 => ?_) (fun c5 => ?_)
  · skip
    have hko : kidsE ⟨ty, fl, D, O.1⟩ (kindOf ty) ≠ .ok := by intro h; rw [h] at c5; cases c5
    have hkn : kkidsOk (kindOf ty) O.1 = false := by
      cases h : kkidsOk (kindOf ty) O.1 with
      | false => rfl
      | true => exact absurd (if_neg (by rw [h]; simp)) hko
    have hke : kidsE ⟨ty, fl, D, O.1⟩ (kindOf ty) = .flt 7 0 := if_pos hkn
    have hP3 : R = (.zero, .flt 7 0) := by rw [hP2]; unfold insC; rw [if_neg (by rw [ho]; simp), if_pos hkn]
    refine AWp.regionW ?_
    refine AWp.ret ?_
    try simp only [thenQ, blockQ, noGo]
    refine bodyQ.m ?_
    clear hK27 K27 hK26 K26 hK24 K24 hK23 K23 hK22 K22 hK21 K21 hK20 K20 hK10 K10 hK9 K9 hK8 K8 hK7 K7 hK6 K6 hK5 K5 hK4 K4 hK3 K3 hK2 K2 hK1 K1
    first | rw [hP3] | rw [hP2] | rw [hP]
    try rw [hke]
    try simp only [GChunk.zero]
    first | done | exact Wk.go
  have hko : kidsE ⟨ty, fl, D, O.1⟩ (kindOf ty) = .ok := by rw [← isOk_iff]; simpa using c5
  have hkn : ¬ kkidsOk (kindOf ty) O.1 = false := by
    intro h; rw [show kidsE ⟨ty, fl, D, O.1⟩ (kindOf ty) = .flt 7 0 from if_pos h] at hko; cases hko
  have hP3 : R = (⟨ty, fl, D, O.1⟩, .ok) := by rw [hP2]; unfold insC; rw [if_neg (by rw [ho]; simp), if_neg hkn]
  refine AWp.skip ?_
  refine hK26 _ ?_
  refine AWp.regionW ?_
  refine AWp.ret ?_
  try simp only [thenQ, blockQ, noGo]
  refine bodyQ.m ?_
  clear hK27 K27 hK26 K26 hK24 K24 hK23 K23 hK22 K22 hK21 K21 hK20 K20 hK10 K10 hK9 K9 hK8 K8 hK7 K7 hK6 K6 hK5 K5 hK4 K4 hK3 K3 hK2 K2 hK1 K1
  first | rw [hP3] | rw [hP2] | rw [hP]
  try rw [hke]
  try simp only [GChunk.zero]
  first | done | exact Wk.go
theorem cparse_c (b : List UInt8) (hb : b.length ≤ 2 ^ 30) : PC Tryz.prog 48 [.sl false 1 (bys b)] (.tup [chunkA true (parseC b).1, erA (parseC b).2]) := by
  rcases Nat.lt_or_ge b.length 4 with h | h
  · have hr : parseC b = (.zero, .flt 4 0) := if_pos (.inl h)
    rw [hr]
    have hl : b.length = 0 ∨ b.length = 1 ∨ b.length = 2 ∨ b.length = 3 := by omega
    have q1 := peekN_lt 1 b 0 (by decide)
    have q2 := peekN_lt 1 b 1 (by decide)
    rcases hl with e | e | e | e
    · exact cparse_short b hb 0 0 0 0 0 0 false false (by decide) (by decide) (num_miss 1 b 0 (by decide) (by omega) (by omega) (by omega)) (num_miss 1 b 0 (by decide) (by omega) (by omega) (by omega)) (num_miss 2 b 0 (by decide) (by omega) (by omega) (by omega))
    · exact cparse_short b hb _ 0 0 1 1 1 true false q1 (by decide) (num_hit 1 b 0 (by decide) (by omega) (by omega)) (num_miss 1 b 1 (by decide) (by omega) (by omega) (by omega)) (num_miss 2 b 1 (by decide) (by omega) (by omega) (by omega))
    · exact cparse_short b hb _ _ 0 1 2 2 true true q1 q2 (num_hit 1 b 0 (by decide) (by omega) (by omega)) (num_hit 1 b 1 (by decide) (by omega) (by omega)) (num_miss 2 b 2 (by decide) (by omega) (by omega) (by omega))
    · exact cparse_short b hb _ _ 0 1 2 2 true true q1 q2 (num_hit 1 b 0 (by decide) (by omega) (by omega)) (num_hit 1 b 1 (by decide) (by omega) (by omega)) (num_miss 2 b 2 (by decide) (by omega) (by omega) (by omega))
  · by_cases hn : peekN 2 b 2 = b.length
    · exact cparse_main b hb h hn
    · have hr : parseC b = (.zero, .flt 4 0) := if_pos (.inr hn)
      rw [hr]; exact cparse_bad b hb h hn
theorem getD_at (b : List UInt8) (i : Nat) (h : i < b.length) : (bys b)[i]? = some (u8 (b.getD i 0).toNat) := by
  rw [List.getD_eq_getElem?_getD, List.getElem?_eq_getElem h]
  exact bys_at _ _ h
theorem dataE4_eq (c : GChunk) : dataE4 c = if maskBad c.flags (kindOf c.ty).mask = true then .flt 6 1 else if kfitsN (kindOf c.ty) c.data.length = false then .flt 7 0 else if sackBad c = true then .flt 8 12 else valueE c := by
  unfold dataE4
  simp only [firstE, flagsE, dataE, countE]
  by_cases h1 : maskBad c.flags (kindOf c.ty).mask = true
  · simp [h1]
  · by_cases h2 : kfitsN (kindOf c.ty) c.data.length = false
    · simp [h1, h2]
    · by_cases h4 : sackBad c = true
      · simp [h1, h2, h4]
      · simp only [h1, h2, h4, if_false, if_true]
        by_cases hv : valueE c = .ok
        · simp [hv]
        · simp [hv]
theorem value_at (c : GChunk) (i : Nat) (h : oddN c = some i) : valueE c = .flt 11 (4 + i) ∧ oddI c = N i := by
  unfold valueE oddI; rw [h]; exact ⟨rfl, rfl⟩
theorem value_ok (c : GChunk) (h : oddN c = none) : valueE c = .ok ∧ oddI c = -1 := by
  unfold valueE oddI; rw [h]; exact ⟨rfl, rfl⟩
theorem oddAt_le (d : List UInt8) : ∀ (k i j : Nat), oddAt d k i = some j → j ≤ d.length + 2
  | 0, i, j, h => by simp [oddAt] at h
  | k + 1, i, j, h => by
    rw [oddAt] at h
    split at h
    · split at h
      · simp only [Option.some.injEq] at h; omega
      · exact oddAt_le d k _ _ h
    · cases h
theorem oddN_le {c : GChunk} {w : Nat} (h : oddN c = some w) : w ≤ c.data.length + 6 := by
  unfold oddN at h
  split at h
  · split at h
    · simp only [Option.some.injEq] at h; omega
    · cases h
  · split at h
    · have := oddAt_le _ _ _ _ h; omega
    · cases h
theorem rparse12_short (b : List UInt8) (hb : b.length ≤ 2 ^ 30) (h : b.length < 4) : PC Tryz.prog 50 [.sl false 1 (bys b)] (.tup [chunkA false .zero, nat 4, nat 0]) := by
  have hd : decide (b.length < 4) = true := decide_eq_true h
  refine PC.of_bodyW (by simp only [push_cast]) Tryz.func50 rfl (by rw [Tryz.ntmps50]; simp) ?_
  refine AWp.regionW ?_
  refine AWp.seqK fun K1 hK1 => ?_
  refine AWp.regionS fun K2 hK2 => ?_
  simp only [push_cast, ↓reduceIte, Nat.reduceEqDiff, Nat.reduceLT, Nat.reduceAdd, Nat.reduceSub, Nat.reduceMul, Nat.reduceLeDiff, Nat.reducePow, Int.reduceLT, Int.reduceToNat, reduceCtorEq, Int.reduceNeg, Int.reduceEq, Nat.reduceBEq, Nat.reduceBNe, Int.reduceBEq, Int.reduceBNe, String.reduceEq, hd]
  skip
  refine ARun2.endm (hK2 _ ?_)
  refine AWp.condT ?_
  refine AWp.regionW ?_
  refine AWp.ret ?_
  try simp only [thenQ, blockQ, noGo]
  refine bodyQ.m ?_
  clear hK2 K2 hK1 K1
  simp only [GChunk.zero]
  first | done | exact Hand.go
set_option maxRecDepth 100000 in
set_option maxHeartbeats 2000000 in
theorem rparse12_main (b : List UInt8) (hb : b.length ≤ 2 ^ 30) (h4 : 4 ≤ b.length) :
    PC Tryz.prog 50 [.sl false 1 (bys b)] (.tup [chunkA false (parseC b).1, nat (parseC b).2.codeOf.1, nat (parseC b).2.atOf.1]) := by
  obtain ⟨R, hR⟩ : ∃ R, R = parseC b := ⟨_, rfl⟩
  have hP : R = if b.length < 4 ∨ peekN 2 b 2 ≠ b.length then (.zero, .flt 4 0) else if kindHas (headC b).ty = false then (headC b, .ok) else restC (cutC (headC b)) (b.drop 4) := hR
  rw [← hR]
  have g0 := (b.getD 0 0).toNat_lt
  have g1 := (b.getD 1 0).toNat_lt
  have a0 := getD_at b 0 (by omega)
  have a1 := getD_at b 1 (by omega)
  obtain ⟨ty, hty⟩ : ∃ ty, ty = (b.getD 0 0).toNat := ⟨_, rfl⟩
  obtain ⟨fl, hfl⟩ : ∃ fl, fl = (b.getD 1 0).toNat := ⟨_, rfl⟩
  have hhead : headC b = ⟨ty, fl, b.drop 4, []⟩ := by rw [hty, hfl]; rfl
  rw [← hty] at a0 g0
  rw [← hfl] at a1 g1
  have hct : (headC b).ty = ty := by rw [hhead]
  rw [hct, hhead] at hP
  have hrl : (b.drop 4).length = b.length - 4 := List.length_drop
  obtain ⟨r, hr⟩ : ∃ r, r = b.drop 4 := ⟨_, rfl⟩
  rw [← hr] at hrl hP
  have hbd := kind_bd ty
  have hm := mask_eq fl (kindOf ty).mask g1 hbd.2.2.2.2.2.1
  have e255 : IntKind.i64.wrap (255 - N (kindOf ty).mask) = N (255 - (kindOf ty).mask) := by rw [IntKind.wrap_i64]; unfold N; omega
  have hclass : (kinsideN (kindOf ty).kids).1 = classOf ty := rfl
  have hcx := class11_c (kindOf ty).kids (by omega)
  rw [hclass] at hcx
  have kn := number12_c b 2 (by omega) (by omega)
  obtain ⟨D, hD⟩ : ∃ D, D = if 0 < (kindOf ty).kids then r.take (min (kindOf ty).least r.length) else r := ⟨_, rfl⟩
  have hcut : cutC ⟨ty, fl, r, []⟩ = ⟨ty, fl, D, []⟩ := by
    by_cases hk : 0 < (kindOf ty).kids
    · rw [if_pos hk] at hD
      by_cases hl : (kindOf ty).least ≤ r.length
      · rw [hD, Nat.min_eq_left hl]; exact if_pos ⟨by show (kindOf ty).kids ≠ 0; omega, hl⟩
      · rw [hD, Nat.min_eq_right (by omega), List.take_length]; exact if_neg (fun h => hl h.2)
    · rw [if_neg hk] at hD
      rw [hD]; exact if_neg (fun h => h.1 (by show (kindOf ty).kids = 0; omega))
  have hDk : (kindOf ty).kids = 0 → D = r := fun h => by rw [hD, if_neg (by omega)]
  have hDl : D.length ≤ r.length := by
    rw [hD]; split
    · rw [List.length_take]; omega
    · exact Nat.le_refl _
  have hp2 := peek2_lt b 2
  refine PC.of_bodyW (by simp only [push_cast]) Tryz.func50 rfl (by rw [Tryz.ntmps50]; simp) ?_
  refine AWp.regionW ?_
  refine AWp.seqK fun K1 hK1 => ?_
  refine AWp.regionA fun K2 hK2 => ?_
  refine ARun.segm 4 fun KS hKS => ?_
  refine ARun2.endm (hKS _ ?_); clear hKS KS
  apply ARun.grpM 5 3 false 18 [0, 2, 13]
  · intro g3 KG hKG
    refine ARun2.gom ?_
    refine ARun2.callM (kn) ?_
    exact ARun2.endm (hKG _ Le.grpM)
  refine ARun2.gom ?_
  refine ARun2.endm (hK2 _ ?_)
  refine AWp.condLM (fun c0 => ?_) (fun c0 => ?_)
  · skip
    have hP1 : R = (.zero, .flt 4 0) := by
      rw [hP]; refine if_pos ?_
      rcases Nat.lt_or_ge b.length 4 with h | h
      · exact .inl h
      · right; intro he; rw [he] at c0; simp at c0; omega
    refine AWp.regionW ?_
    refine AWp.ret ?_
    try simp only [thenQ, blockQ, noGo]
    refine bodyQ.m ?_
    clear hK2 K2 hK1 K1
    first | rw [hP3] | rw [hP1] | rw [hP]
    try simp only [GChunk.zero, Er.codeOf, Er.atOf]
    try rw [hw4]
    first | done | exact Hand.go
  have hn : ¬ (b.length < 4 ∨ peekN 2 b 2 ≠ b.length) := by
    rintro (h | h)
    · omega
    · apply h; simp at c0; exact c0.2
  rw [if_neg hn] at hP
  refine AWp.skip ?_
  refine hK1 _ ?_
  refine AWp.drS [[(0, none)], [(21, some 0)], [(22, some 1)], [(0, none)], [(24, some 3)], [(25, some 4)], [(0, none)], [(27, some 6)], [(23, some 2), (26, some 5), (28, some 7)], []] fun G hG => ?_
  refine Dr.sim ?_
  try simp only [lca, lna]
  refine Dr.idx (0) (u8 ty) ?_ ?_
  · exact a0
  try simp only [lca, lna]
  refine Dr.sim ?_
  try simp only [lca, lna]
  refine Dr.sim ?_
  try simp only [lca, lna]
  refine Dr.idx (1) (u8 fl) ?_ ?_
  · exact a1
  try simp only [lca, lna]
  refine Dr.sim ?_
  try simp only [lca, lna]
  refine Dr.sim ?_
  try simp only [lca, lna]
  refine Dr.sliceLo (4) ?_ ?_
  · rw [bys_len]; omega
  try simp only [lca, lna]
  refine Dr.sim ?_
  try simp only [lca, lna]
  refine Dr.al ?_
  try simp only [lca, lna]
  refine Dr.finA (n := 10) 9 [(29, 8), (5, 9)] [0, 2] hG Facts.mixed fun KD hKD => ?_
  refine ARun2.endm (hKD _ ?_); clear hKD KD hG G
  rw [← hr]
  refine AWp.regionM fun K3 hK3 => ?_
  refine ARun2.callM (of11_c ty) ?_
  refine ARun2.endm (hK3 _ ?_)
  refine AWp.seqK fun K4 hK4 => ?_
  refine AWp.regionW ?_
  refine AWp.condLM (fun c1 => ?_) (fun c1 => ?_)
  · skip
    have hh : kindHas ty = false := by simpa using c1
    rw [if_pos hh] at hP
    refine AWp.regionW ?_
    refine AWp.ret ?_
    try simp only [thenQ, blockQ, noGo]
    refine bodyQ.m ?_
    clear hK4 K4 hK3 K3 hK2 K2 hK1 K1
    first | rw [hP3] | rw [hP1] | rw [hP]
    try simp only [GChunk.zero, Er.codeOf, Er.atOf]
    try rw [hw4]
    first | done | exact Hand.go
  have hh : kindHas ty = true := by simpa using c1
  rw [if_neg (by rw [hh]; simp)] at hP
  obtain ⟨v1, v2⟩ := hbd.2.2.2.2.2.2.1 hh
  refine AWp.skip ?_
  refine hK4 _ ?_
  refine AWp.seqK fun K5 hK5 => ?_
  refine AWp.regionW ?_
  refine AWp.condLM (fun c2 => ?_) (fun c2 => ?_)
  · skip
    rw [e255, hm] at c2
    have hcf : (cutC ⟨ty, fl, r, []⟩).ty = ty ∧ (cutC ⟨ty, fl, r, []⟩).flags = fl := ⟨(cut_ty _).1, (cut_ty _).2.1⟩
    have hP1 : R = (.zero, .flt 6 1) := by
      rw [hP]; unfold restC
      have hd : dataE4 (cutC ⟨ty, fl, r, []⟩) = .flt 6 1 := by rw [dataE4_eq, hcf.1, hcf.2, if_pos c2]
      rw [hd, if_pos (by simp)]
    refine AWp.regionW ?_
    refine AWp.ret ?_
    try simp only [thenQ, blockQ, noGo]
    refine bodyQ.m ?_
    clear hK5 K5 hK4 K4 hK3 K3 hK2 K2 hK1 K1
    first | rw [hP3] | rw [hP1] | rw [hP]
    try simp only [GChunk.zero, Er.codeOf, Er.atOf]
    try rw [hw4]
    first | done | exact Hand.go
  rw [e255, hm] at c2
  refine AWp.skip ?_
  refine hK5 _ ?_
  refine AWp.join ({ n := 119, m := 0, fr := [(0, .sl false 1 (bys b)), (2, .ptr 0 0), (5, .ptr 1 0), (6, .ptr 2 0)], ob := [.box 30 [.val (.int .u8 0), .val (.int .u8 0), .val (.slice none 0 0), .val (.slice none 0 0)], .box 30 [u8 ty, u8 fl, .sl false 1 (bys D), .val (.slice none 0 0)], .box 70 [u8 (kindOf ty).ty, .val (.string (kindOf ty).name), u8 (kindOf ty).mask, nat (kindOf ty).least, nat (kindOf ty).most, nat (kindOf ty).unit, nat (kindOf ty).kids]] }) (fun K6 hK6 => ?_) ?_
  · skip
    refine AWp.regionW ?_
    refine AWp.condLM (fun c3 => ?_) (fun c3 => ?_)
    · skip
      have hD3 : D = r.take (min (kindOf ty).least r.length) := by rw [hD, if_pos (by simpa using c3)]
      refine AWp.regionN fun K7 hK7 => ?_
      refine ARun2.iminM ?_
      refine ARun2.sliceHiM (min (kindOf ty).least r.length) ?_ ?_
      · rw [bys_len]; omega
      refine ARun2.endm (hK7 _ ?_)
      refine hK6 _ ?_
      refine Le.m 3 ?_ ?_
      · try simp only [push_cast, ↓reduceIte, Nat.reduceEqDiff, Nat.reduceLT, Nat.reduceAdd, Nat.reduceSub, Nat.reduceMul, Nat.reduceLeDiff, Nat.reducePow, Int.reduceLT, Int.reduceToNat, reduceCtorEq, Int.reduceNeg, Int.reduceEq, Nat.reduceBEq, Nat.reduceBNe, Int.reduceBEq, Int.reduceBNe, String.reduceEq]
        try simp (disch := omega) only [w_nat, w_add, w_addl, w_addr, w_sub, w_subl, w_mul, w_mull, w_mulr, w_u32, w_u16, w_u8, w_u32a, N_zero]
        try rw [hD3]
        try rfl
      · exact Go.Abs.evM
    have hD3 : D = r := by rw [hD, if_neg (by simpa using c3)]
    refine AWp.skip ?_
    refine hK6 _ ?_
    refine Le.m 3 ?_ ?_
    · try simp only [push_cast, ↓reduceIte, Nat.reduceEqDiff, Nat.reduceLT, Nat.reduceAdd, Nat.reduceSub, Nat.reduceMul, Nat.reduceLeDiff, Nat.reducePow, Int.reduceLT, Int.reduceToNat, reduceCtorEq, Int.reduceNeg, Int.reduceEq, Nat.reduceBEq, Nat.reduceBNe, Int.reduceBEq, Int.reduceBNe, String.reduceEq]
      try simp (disch := omega) only [w_nat, w_add, w_addl, w_addr, w_sub, w_subl, w_mul, w_mull, w_mulr, w_u32, w_u16, w_u8, w_u32a, N_zero]
      try rw [hD3]
      try rfl
    · exact Go.Abs.evM
  refine AWp.seqK fun K8 hK8 => ?_
  rw [hcut] at hP
  have hP2 : R = if dataE4 ⟨ty, fl, D, []⟩ ≠ .ok then (.zero, dataE4 ⟨ty, fl, D, []⟩) else insC ⟨ty, fl, D, []⟩ (parseF 4 (classOf ty) (r.drop D.length) 0) := hP
  have hdq : dataE4 ⟨ty, fl, D, []⟩ = if kfitsN (kindOf ty) D.length = false then .flt 7 0 else if sackBad ⟨ty, fl, D, []⟩ = true then .flt 8 12 else valueE ⟨ty, fl, D, []⟩ := by
    rw [dataE4_eq]; exact if_neg (by rw [c2]; simp)
  have kfit := fits11_c (kindOf ty) D.length (by omega) (by omega) (by omega) v1 (by omega)
  refine AWp.regionM fun K9 hK9 => ?_
  refine ARun2.callM (kfit) ?_
  refine ARun2.endm (hK9 _ ?_)
  refine AWp.condLM (fun c4 => ?_) (fun c4 => ?_)
  · skip
    have hf : kfitsN (kindOf ty) D.length = false := by simpa using c4
    rw [if_pos hf] at hdq
    have hP3 : R = (.zero, .flt 7 0) := by rw [hP2, hdq, if_pos (by simp)]
    refine AWp.regionW ?_
    refine AWp.ret ?_
    try simp only [thenQ, blockQ, noGo]
    refine bodyQ.m ?_
    clear hK9 K9 hK8 K8 hK5 K5 hK4 K4 hK3 K3 hK2 K2 hK1 K1
    first | rw [hP3] | rw [hP1] | rw [hP]
    try simp only [GChunk.zero, Er.codeOf, Er.atOf]
    try rw [hw4]
    first | done | exact Hand.go
  have hf : kfitsN (kindOf ty) D.length = true := by simpa using c4
  rw [if_neg (by rw [hf]; simp)] at hdq
  obtain ⟨f1, f2, f3⟩ := fits_facts (c := ⟨ty, fl, D, []⟩) hf
  have kc := counted12_c ⟨ty, fl, D, []⟩ (show D.length ≤ _ by omega) f1
  have ko := odd12_c ⟨ty, fl, D, []⟩ (show D.length ≤ _ by omega) f2 f3
  refine AWp.skip ?_
  refine hK8 _ ?_
  refine AWp.seqK fun K10 hK10 => ?_
  refine AWp.regionM fun K11 hK11 => ?_
  refine ARun2.callM (kc) ?_
  refine ARun2.endm (hK11 _ ?_)
  refine AWp.condLM (fun c5 => ?_) (fun c5 => ?_)
  · skip
    have hs : sackBad ⟨ty, fl, D, []⟩ = true := by simpa using c5
    rw [if_pos hs] at hdq
    have hP3 : R = (.zero, .flt 8 12) := by rw [hP2, hdq, if_pos (by simp)]
    refine AWp.regionW ?_
    refine AWp.ret ?_
    try simp only [thenQ, blockQ, noGo]
    refine bodyQ.m ?_
    clear hK11 K11 hK10 K10 hK9 K9 hK8 K8 hK5 K5 hK4 K4 hK3 K3 hK2 K2 hK1 K1
    first | rw [hP3] | rw [hP1] | rw [hP]
    try simp only [GChunk.zero, Er.codeOf, Er.atOf]
    try rw [hw4]
    first | done | exact Hand.go
  have hs : sackBad ⟨ty, fl, D, []⟩ = false := by simpa using c5
  rw [if_neg (by rw [hs]; simp)] at hdq
  refine AWp.skip ?_
  refine hK10 _ ?_
  refine AWp.seqK fun K12 hK12 => ?_
  refine AWp.regionM fun K13 hK13 => ?_
  refine ARun2.callM (ko) ?_
  refine ARun2.endm (hK13 _ ?_)
  refine AWp.condLM (fun c6 => ?_) (fun c6 => ?_)
  · skip
    obtain ⟨w, hw⟩ : ∃ w, oddN ⟨ty, fl, D, []⟩ = some w := by
      cases ho : oddN ⟨ty, fl, D, []⟩ with
      | some w => exact ⟨w, rfl⟩
      | none => rw [(value_ok _ ho).2] at c6; simp at c6
    obtain ⟨w1, w2⟩ := value_at _ w hw
    rw [w1] at hdq
    have hwl := oddN_le hw
    have hw4 : IntKind.i64.wrap (4 + N w) = N (4 + w) := by simp only at hwl; rw [IntKind.wrap_i64]; unfold N; omega
    rw [w2] at ko
    have hP3 : R = (.zero, .flt 11 (4 + w)) := by rw [hP2, hdq, if_pos (by simp)]
    refine AWp.regionM fun K14 hK14 => ?_
    refine ARun2.callM (ko) ?_
    refine ARun2.endm (hK14 _ ?_)
    refine AWp.ret ?_
    try simp only [thenQ, blockQ, noGo]
    refine bodyQ.m ?_
    clear hK14 K14 hK13 K13 hK12 K12 hK11 K11 hK10 K10 hK9 K9 hK8 K8 hK5 K5 hK4 K4 hK3 K3 hK2 K2 hK1 K1
    first | rw [hP3] | rw [hP1] | rw [hP]
    try simp only [GChunk.zero, Er.codeOf, Er.atOf]
    try rw [hw4]
    first | done | exact Hand.go
  have ho : oddN ⟨ty, fl, D, []⟩ = none := by
    cases ho : oddN ⟨ty, fl, D, []⟩ with
    | none => rfl
    | some w => rw [(value_at _ w ho).2] at c6; unfold N at c6; simp at c6 <;> omega
  rw [(value_ok _ ho).1] at hdq
  rw [hdq, if_neg (by simp)] at hP2
  have kp := parse08_n (classOf ty) (r.drop D.length) (kids_class D r hDk) (4 + D.length) (by rw [List.length_drop]; omega)
  have hsh := parseF_shift 4 (classOf ty) (r.drop D.length) 0 (4 + D.length)
  rw [Nat.zero_add] at hsh
  have hat := parseF_at 4 (classOf ty) (r.drop D.length) 0
  have hpl := parseF_len 4 (classOf ty) (r.drop D.length) 0
  have hnm := parseF_num 4 (classOf ty) (r.drop D.length) 0
  rw [List.length_drop] at hat hpl
  rw [hsh] at kp
  have hdd : b.drop (4 + D.length) = r.drop D.length := by rw [hr, List.drop_drop]
  generalize parseF 4 (classOf ty) (r.drop D.length) 0 = O at kp hat hpl hnm hP2
  rw [← hdd] at kp
  simp only [resP] at kp
  have kw := wanted12_c (kindOf ty) O.1 (by omega) (by omega)
  refine AWp.skip ?_
  refine hK12 _ ?_
  refine AWp.regionW ?_
  refine AWp.drS [[(6, none)], [(93, some 0)], [(94, some 1)], [(0, none)], [(8, none)], [(96, some 3), (97, some 4)], [(8, none)], [(95, some 2), (98, some 5), (99, some 6)], []] fun G hG => ?_
  refine Dr.sim ?_
  try simp only [lca, lna]
  refine Dr.sim ?_
  try simp only [lca, lna]
  refine Dr.call (hcx) ?_
  try simp only [lca, lna]
  refine Dr.sim ?_
  try simp only [lca, lna]
  refine Dr.sim ?_
  try simp only [lca, lna]
  refine Dr.sliceLo (4 + D.length) ?_ ?_
  · rw [bys_len]; omega
  try simp only [lca, lna]
  refine Dr.sim ?_
  try simp only [lca, lna]
  refine Dr.call (kp) ?_
  try simp only [lca, lna]
  refine Dr.al ?_
  try simp only [lca, lna]
  refine Dr.finA (n := 9) 8 [(100, 7), (9, 8)] [2, 5, 6] hG Facts.mixed fun KD hKD => ?_
  refine ARun2.endm (hKD _ ?_); clear hKD KD hG G
  refine AWp.seqK fun K15 hK15 => ?_
  refine AWp.regionW ?_
  refine AWp.condLM (fun c7 => ?_) (fun c7 => ?_)
  · skip
    have hne : O.2 ≠ .ok := by
      intro h; rw [h] at c7; simp [Er.shift, Er.codeOf] at c7
    have hP3 : R = (.zero, O.2.shift (4 + D.length)) := by rw [hP2]; exact if_pos hne
    refine AWp.drS [] fun G hG => ?_
    refine Dr.finZM 8 [2, 9] hG Facts.mixed fun KD hKD => ?_
    clear hG G
    refine AAny.first 1 ?_
    refine ARun.opM ?_
    refine ARun2.endm ?_
    refine AAny.first 3 ?_
    refine ARun.opM ?_
    refine ARun2.endm ?_
    refine AAny.three 0 2 4 ?_ ?_ ?_
    ·
      refine ARun.opM ?_
      refine ARun2.endm ?_
      refine AAny.three 2 4 5 ?_ ?_ ?_
      ·
        refine ARun.opM ?_
        refine ARun2.endm ?_
        refine AAny.two 4 5 ?_ ?_
        ·
          refine ARun.opM ?_
          refine ARun2.endm ?_
          refine AAny.one 5 ?_
          refine ARun.opM ?_
          refine ARun2.endm ?_
          refine AAny.one 6 ?_
          refine ARun.opM ?_
          refine ARun2.endm ?_
          refine AAny.one 7 ?_
          refine ARun.opM ?_
          refine ARun2.endm ?_
          refine AAny.fin (hKD _ ?_); clear hKD KD
          refine AWp.ret ?_
          try simp only [thenQ, blockQ, noGo]
          refine bodyQ.m ?_
          clear hK15 K15 hK13 K13 hK12 K12 hK11 K11 hK10 K10 hK9 K9 hK8 K8 hK5 K5 hK4 K4 hK3 K3 hK2 K2 hK1 K1
          first | rw [hP3] | rw [hP1] | rw [hP]
          try simp only [GChunk.zero, Er.codeOf, Er.atOf]
          try rw [hw4]
          first | done | exact Hand.go
        ·
          refine ARun.opM ?_
          refine ARun2.endm ?_
          refine AAny.two 4 6 ?_ ?_
          ·
            refine ARun.opM ?_
            refine ARun2.endm ?_
            refine AAny.one 6 ?_
            refine ARun.opM ?_
            refine ARun2.endm ?_
            refine AAny.one 7 ?_
            refine ARun.opM ?_
            refine ARun2.endm ?_
            refine AAny.fin (hKD _ ?_); clear hKD KD
            refine AWp.ret ?_
            try simp only [thenQ, blockQ, noGo]
            refine bodyQ.m ?_
            clear hK15 K15 hK13 K13 hK12 K12 hK11 K11 hK10 K10 hK9 K9 hK8 K8 hK5 K5 hK4 K4 hK3 K3 hK2 K2 hK1 K1
            first | rw [hP3] | rw [hP1] | rw [hP]
            try simp only [GChunk.zero, Er.codeOf, Er.atOf]
            try rw [hw4]
            first | done | exact Hand.go
          ·
            refine ARun.opM ?_
            refine ARun2.endm ?_
            refine AAny.one 4 ?_
            refine ARun.opM ?_
            refine ARun2.endm ?_
            refine AAny.one 7 ?_
            refine ARun.opM ?_
            refine ARun2.endm ?_
            refine AAny.fin (hKD _ ?_); clear hKD KD
            refine AWp.ret ?_
            try simp only [thenQ, blockQ, noGo]
            refine bodyQ.m ?_
            clear hK15 K15 hK13 K13 hK12 K12 hK11 K11 hK10 K10 hK9 K9 hK8 K8 hK5 K5 hK4 K4 hK3 K3 hK2 K2 hK1 K1
            first | rw [hP3] | rw [hP1] | rw [hP]
            try simp only [GChunk.zero, Er.codeOf, Er.atOf]
            try rw [hw4]
            first | done | exact Hand.go
      ·
        refine ARun.opM ?_
        refine ARun2.endm ?_
        refine AAny.two 2 5 ?_ ?_
        ·
          refine ARun.opM ?_
          refine ARun2.endm ?_
          refine AAny.one 5 ?_
          refine ARun.opM ?_
          refine ARun2.endm ?_
          refine AAny.one 6 ?_
          refine ARun.opM ?_
          refine ARun2.endm ?_
          refine AAny.one 7 ?_
          refine ARun.opM ?_
          refine ARun2.endm ?_
          refine AAny.fin (hKD _ ?_); clear hKD KD
          refine AWp.ret ?_
          try simp only [thenQ, blockQ, noGo]
          refine bodyQ.m ?_
          clear hK15 K15 hK13 K13 hK12 K12 hK11 K11 hK10 K10 hK9 K9 hK8 K8 hK5 K5 hK4 K4 hK3 K3 hK2 K2 hK1 K1
          first | rw [hP3] | rw [hP1] | rw [hP]
          try simp only [GChunk.zero, Er.codeOf, Er.atOf]
          try rw [hw4]
          first | done | exact Hand.go
        ·
          refine ARun.opM ?_
          refine ARun2.endm ?_
          refine AAny.one 2 ?_
          refine ARun.opM ?_
          refine ARun2.endm ?_
          refine AAny.one 6 ?_
          refine ARun.opM ?_
          refine ARun2.endm ?_
          refine AAny.one 7 ?_
          refine ARun.opM ?_
          refine ARun2.endm ?_
          refine AAny.fin (hKD _ ?_); clear hKD KD
          refine AWp.ret ?_
          try simp only [thenQ, blockQ, noGo]
          refine bodyQ.m ?_
          clear hK15 K15 hK13 K13 hK12 K12 hK11 K11 hK10 K10 hK9 K9 hK8 K8 hK5 K5 hK4 K4 hK3 K3 hK2 K2 hK1 K1
          first | rw [hP3] | rw [hP1] | rw [hP]
          try simp only [GChunk.zero, Er.codeOf, Er.atOf]
          try rw [hw4]
          first | done | exact Hand.go
      ·
        refine ARun.opM ?_
        refine ARun2.endm ?_
        refine AAny.two 2 4 ?_ ?_
        ·
          refine ARun.opM ?_
          refine ARun2.endm ?_
          refine AAny.two 4 6 ?_ ?_
          ·
            refine ARun.opM ?_
            refine ARun2.endm ?_
            refine AAny.one 6 ?_
            refine ARun.opM ?_
            refine ARun2.endm ?_
            refine AAny.one 7 ?_
            refine ARun.opM ?_
            refine ARun2.endm ?_
            refine AAny.fin (hKD _ ?_); clear hKD KD
            refine AWp.ret ?_
            try simp only [thenQ, blockQ, noGo]
            refine bodyQ.m ?_
            clear hK15 K15 hK13 K13 hK12 K12 hK11 K11 hK10 K10 hK9 K9 hK8 K8 hK5 K5 hK4 K4 hK3 K3 hK2 K2 hK1 K1
            first | rw [hP3] | rw [hP1] | rw [hP]
            try simp only [GChunk.zero, Er.codeOf, Er.atOf]
            try rw [hw4]
            first | done | exact Hand.go
          ·
            refine ARun.opM ?_
            refine ARun2.endm ?_
            refine AAny.one 4 ?_
            refine ARun.opM ?_
            refine ARun2.endm ?_
            refine AAny.one 7 ?_
            refine ARun.opM ?_
            refine ARun2.endm ?_
            refine AAny.fin (hKD _ ?_); clear hKD KD
            refine AWp.ret ?_
            try simp only [thenQ, blockQ, noGo]
            refine bodyQ.m ?_
            clear hK15 K15 hK13 K13 hK12 K12 hK11 K11 hK10 K10 hK9 K9 hK8 K8 hK5 K5 hK4 K4 hK3 K3 hK2 K2 hK1 K1
            first | rw [hP3] | rw [hP1] | rw [hP]
            try simp only [GChunk.zero, Er.codeOf, Er.atOf]
            try rw [hw4]
            first | done | exact Hand.go
        ·
          refine ARun.opM ?_
          refine ARun2.endm ?_
          refine AAny.one 2 ?_
          refine ARun.opM ?_
          refine ARun2.endm ?_
          refine AAny.one 6 ?_
          refine ARun.opM ?_
          refine ARun2.endm ?_
          refine AAny.one 7 ?_
          refine ARun.opM ?_
          refine ARun2.endm ?_
          refine AAny.fin (hKD _ ?_); clear hKD KD
          refine AWp.ret ?_
          try simp only [thenQ, blockQ, noGo]
          refine bodyQ.m ?_
          clear hK15 K15 hK13 K13 hK12 K12 hK11 K11 hK10 K10 hK9 K9 hK8 K8 hK5 K5 hK4 K4 hK3 K3 hK2 K2 hK1 K1
          first | rw [hP3] | rw [hP1] | rw [hP]
          try simp only [GChunk.zero, Er.codeOf, Er.atOf]
          try rw [hw4]
          first | done | exact Hand.go
    ·
      refine ARun.opM ?_
      refine ARun2.endm ?_
      refine AAny.two 0 4 ?_ ?_
      ·
        refine ARun.opM ?_
        refine ARun2.endm ?_
        refine AAny.two 4 5 ?_ ?_
        ·
          refine ARun.opM ?_
          refine ARun2.endm ?_
          refine AAny.one 5 ?_
          refine ARun.opM ?_
          refine ARun2.endm ?_
          refine AAny.one 6 ?_
          refine ARun.opM ?_
          refine ARun2.endm ?_
          refine AAny.one 7 ?_
          refine ARun.opM ?_
          refine ARun2.endm ?_
          refine AAny.fin (hKD _ ?_); clear hKD KD
          refine AWp.ret ?_
          try simp only [thenQ, blockQ, noGo]
          refine bodyQ.m ?_
          clear hK15 K15 hK13 K13 hK12 K12 hK11 K11 hK10 K10 hK9 K9 hK8 K8 hK5 K5 hK4 K4 hK3 K3 hK2 K2 hK1 K1
          first | rw [hP3] | rw [hP1] | rw [hP]
          try simp only [GChunk.zero, Er.codeOf, Er.atOf]
          try rw [hw4]
          first | done | exact Hand.go
        ·
          refine ARun.opM ?_
          refine ARun2.endm ?_
          refine AAny.two 4 6 ?_ ?_
          ·
            refine ARun.opM ?_
            refine ARun2.endm ?_
            refine AAny.one 6 ?_
            refine ARun.opM ?_
            refine ARun2.endm ?_
            refine AAny.one 7 ?_
            refine ARun.opM ?_
            refine ARun2.endm ?_
            refine AAny.fin (hKD _ ?_); clear hKD KD
            refine AWp.ret ?_
            try simp only [thenQ, blockQ, noGo]
            refine bodyQ.m ?_
            clear hK15 K15 hK13 K13 hK12 K12 hK11 K11 hK10 K10 hK9 K9 hK8 K8 hK5 K5 hK4 K4 hK3 K3 hK2 K2 hK1 K1
            first | rw [hP3] | rw [hP1] | rw [hP]
            try simp only [GChunk.zero, Er.codeOf, Er.atOf]
            try rw [hw4]
            first | done | exact Hand.go
          ·
            refine ARun.opM ?_
            refine ARun2.endm ?_
            refine AAny.one 4 ?_
            refine ARun.opM ?_
            refine ARun2.endm ?_
            refine AAny.one 7 ?_
            refine ARun.opM ?_
            refine ARun2.endm ?_
            refine AAny.fin (hKD _ ?_); clear hKD KD
            refine AWp.ret ?_
            try simp only [thenQ, blockQ, noGo]
            refine bodyQ.m ?_
            clear hK15 K15 hK13 K13 hK12 K12 hK11 K11 hK10 K10 hK9 K9 hK8 K8 hK5 K5 hK4 K4 hK3 K3 hK2 K2 hK1 K1
            first | rw [hP3] | rw [hP1] | rw [hP]
            try simp only [GChunk.zero, Er.codeOf, Er.atOf]
            try rw [hw4]
            first | done | exact Hand.go
      ·
        refine ARun.opM ?_
        refine ARun2.endm ?_
        refine AAny.one 0 ?_
        refine ARun.opM ?_
        refine ARun2.endm ?_
        refine AAny.one 5 ?_
        refine ARun.opM ?_
        refine ARun2.endm ?_
        refine AAny.one 6 ?_
        refine ARun.opM ?_
        refine ARun2.endm ?_
        refine AAny.one 7 ?_
        refine ARun.opM ?_
        refine ARun2.endm ?_
        refine AAny.fin (hKD _ ?_); clear hKD KD
        refine AWp.ret ?_
        try simp only [thenQ, blockQ, noGo]
        refine bodyQ.m ?_
        clear hK15 K15 hK13 K13 hK12 K12 hK11 K11 hK10 K10 hK9 K9 hK8 K8 hK5 K5 hK4 K4 hK3 K3 hK2 K2 hK1 K1
        first | rw [hP3] | rw [hP1] | rw [hP]
        try simp only [GChunk.zero, Er.codeOf, Er.atOf]
        try rw [hw4]
        first | done | exact Hand.go
    ·
      refine ARun.opM ?_
      refine ARun2.endm ?_
      refine AAny.two 0 2 ?_ ?_
      ·
        refine ARun.opM ?_
        refine ARun2.endm ?_
        refine AAny.two 2 5 ?_ ?_
        ·
          refine ARun.opM ?_
          refine ARun2.endm ?_
          refine AAny.one 5 ?_
          refine ARun.opM ?_
          refine ARun2.endm ?_
          refine AAny.one 6 ?_
          refine ARun.opM ?_
          refine ARun2.endm ?_
          refine AAny.one 7 ?_
          refine ARun.opM ?_
          refine ARun2.endm ?_
          refine AAny.fin (hKD _ ?_); clear hKD KD
          refine AWp.ret ?_
          try simp only [thenQ, blockQ, noGo]
          refine bodyQ.m ?_
          clear hK15 K15 hK13 K13 hK12 K12 hK11 K11 hK10 K10 hK9 K9 hK8 K8 hK5 K5 hK4 K4 hK3 K3 hK2 K2 hK1 K1
          first | rw [hP3] | rw [hP1] | rw [hP]
          try simp only [GChunk.zero, Er.codeOf, Er.atOf]
          try rw [hw4]
          first | done | exact Hand.go
        ·
          refine ARun.opM ?_
          refine ARun2.endm ?_
          refine AAny.one 2 ?_
          refine ARun.opM ?_
          refine ARun2.endm ?_
          refine AAny.one 6 ?_
          refine ARun.opM ?_
          refine ARun2.endm ?_
          refine AAny.one 7 ?_
          refine ARun.opM ?_
          refine ARun2.endm ?_
          refine AAny.fin (hKD _ ?_); clear hKD KD
          refine AWp.ret ?_
          try simp only [thenQ, blockQ, noGo]
          refine bodyQ.m ?_
          clear hK15 K15 hK13 K13 hK12 K12 hK11 K11 hK10 K10 hK9 K9 hK8 K8 hK5 K5 hK4 K4 hK3 K3 hK2 K2 hK1 K1
          first | rw [hP3] | rw [hP1] | rw [hP]
          try simp only [GChunk.zero, Er.codeOf, Er.atOf]
          try rw [hw4]
          first | done | exact Hand.go
      ·
        refine ARun.opM ?_
        refine ARun2.endm ?_
        refine AAny.one 0 ?_
        refine ARun.opM ?_
        refine ARun2.endm ?_
        refine AAny.one 5 ?_
        refine ARun.opM ?_
        refine ARun2.endm ?_
        refine AAny.one 6 ?_
        refine ARun.opM ?_
        refine ARun2.endm ?_
        refine AAny.one 7 ?_
        refine ARun.opM ?_
        refine ARun2.endm ?_
        refine AAny.fin (hKD _ ?_); clear hKD KD
        refine AWp.ret ?_
        try simp only [thenQ, blockQ, noGo]
        refine bodyQ.m ?_
        clear hK15 K15 hK13 K13 hK12 K12 hK11 K11 hK10 K10 hK9 K9 hK8 K8 hK5 K5 hK4 K4 hK3 K3 hK2 K2 hK1 K1
        first | rw [hP3] | rw [hP1] | rw [hP]
        try simp only [GChunk.zero, Er.codeOf, Er.atOf]
        try rw [hw4]
        first | done | exact Hand.go
  have he : O.2 = .ok := by
    rw [← num_ok hnm]
    have h0 : (O.2.shift (4 + D.length)).codeOf.1 = 0 := by simpa using c7
    cases hx : O.2 with
    | ok => rfl
    | code c => rw [hx] at hnm; cases hnm
    | flt c i => rw [hx] at hnm h0; simp [Er.shift, Er.codeOf, Er.num] at hnm h0; exact absurd h0 hnm
  refine AWp.skip ?_
  refine hK15 _ ?_
  refine AWp.regionW ?_
  refine AWp.seqK fun K16 hK16 => ?_
  refine AWp.regionM fun K17 hK17 => ?_
  refine ARun2.callM (kw) ?_
  refine ARun2.endm (hK17 _ ?_)
  refine AWp.condLM (fun c8 => ?_) (fun c8 => ?_)
  · skip
    have hkn : kkidsOk (kindOf ty) O.1 = false := by simpa using c8
    have hP3 : R = (.zero, .flt 7 0) := by rw [hP2]; unfold insC; rw [if_neg (by rw [he]; simp), if_pos hkn]
    refine AWp.regionW ?_
    refine AWp.ret ?_
    try simp only [thenQ, blockQ, noGo]
    refine bodyQ.m ?_
    clear hK17 K17 hK16 K16 hK15 K15 hK13 K13 hK12 K12 hK11 K11 hK10 K10 hK9 K9 hK8 K8 hK5 K5 hK4 K4 hK3 K3 hK2 K2 hK1 K1
    first | rw [hP3] | rw [hP1] | rw [hP]
    try simp only [GChunk.zero, Er.codeOf, Er.atOf]
    try rw [hw4]
    first | done | exact Hand.go
  have hkn : kkidsOk (kindOf ty) O.1 = true := by simpa using c8
  have hP3 : R = (⟨ty, fl, D, O.1⟩, .ok) := by rw [hP2]; unfold insC; rw [if_neg (by rw [he]; simp), if_neg (by rw [hkn]; simp)]
  refine AWp.skip ?_
  refine hK16 _ ?_
  refine AWp.regionW ?_
  refine AWp.ret ?_
  try simp only [thenQ, blockQ, noGo]
  refine bodyQ.m ?_
  clear hK17 K17 hK16 K16 hK15 K15 hK13 K13 hK12 K12 hK11 K11 hK10 K10 hK9 K9 hK8 K8 hK5 K5 hK4 K4 hK3 K3 hK2 K2 hK1 K1
  first | rw [hP3] | rw [hP1] | rw [hP]
  try simp only [GChunk.zero, Er.codeOf, Er.atOf]
  try rw [hw4]
  first | done | exact Hand.go
theorem rparse12_c (b : List UInt8) (hb : b.length ≤ 2 ^ 30) : PC Tryz.prog 50 [.sl false 1 (bys b)] (.tup [chunkA false (parseC b).1, nat (parseC b).2.codeOf.1, nat (parseC b).2.atOf.1]) := by
  rcases Nat.lt_or_ge b.length 4 with h | h
  · have hr : parseC b = (.zero, .flt 4 0) := if_pos (.inl h)
    rw [hr]; exact rparse12_short b hb h
  · exact rparse12_main b hb h
theorem Er.shift_numB {e : Er} (h : e.num = true) (n : Nat) : (e.shift n).num = true := by
  cases e <;> simp [Er.shift, Er.num] at * <;> exact h
theorem dataE4_num (c : GChunk) : (dataE4 c).num = true := by
  rw [dataE4_eq]
  split
  · rfl
  split
  · rfl
  split
  · rfl
  cases h : oddN c with
  | none => rw [(value_ok c h).1]; rfl
  | some i => rw [(value_at c i h).1]; rfl
theorem restC_facts (c : GChunk) (d : List UInt8) : (restC c d).2.num = true ∧ ((restC c d).2 ≠ .ok → (restC c d).1 = .zero) := by
  unfold restC
  split
  · exact ⟨dataE4_num c, fun _ => rfl⟩
  · unfold insC
    split
    · exact ⟨Er.shift_numB (parseF_num _ _ _ _) _, fun _ => rfl⟩
    · split
      · exact ⟨rfl, fun _ => rfl⟩
      · exact ⟨rfl, fun h => absurd rfl h⟩
theorem parseC_facts (b : List UInt8) : (parseC b).2.num = true ∧ ((parseC b).2 ≠ .ok → (parseC b).1 = .zero) := by
  unfold parseC
  split
  · exact ⟨rfl, fun _ => rfl⟩
  · split
    · exact ⟨rfl, fun h => absurd rfl h⟩
    · exact restC_facts _ _
structure GRes.Ok (r : GRes) : Prop where
  len : r.done.length ≤ 2 ^ 30
  done : ∀ c ∈ r.done, Small c
  chunks : szs r.chunks ≤ 2 ^ 40
  params : szs r.params ≤ 2 ^ 40
theorem rsamec_c (l m : List GChunk) (hl : l.length ≤ 2 ^ 30) (h1 : ∀ c ∈ l, Small c) : PC Tryz.prog 21 [.sl false 4 (chunksA false l), .sl false 4 (chunksA false m)] (bool (sameLC l m)) := by
  refine PC.of_bodyW (by simp only [push_cast]) Tryz.func21 rfl (by rw [Tryz.ntmps21]; simp) ?_
  refine AWp.regionW ?_
  refine AWp.seqK fun K1 hK1 => ?_
  refine AWp.regionW ?_
  refine AWp.condLM (fun c0 => ?_) (fun c0 => ?_)
  · skip
    have hne : ¬ l.length = m.length := by simpa using c0
    have hr : sameLC l m = false := by unfold sameLC; rw [decide_eq_false hne, Bool.false_and]
    refine AWp.regionW ?_
    refine AWp.ret ?_
    try simp only [thenQ, blockQ, noGo]
    refine bodyQ.m ?_
    clear hK1 K1
    rw [hr]
    first | done | exact Hand.go
  have he : l.length = m.length := by simpa using c0
  refine AWp.skip ?_
  refine hK1 _ ?_
  refine AWp.seqK fun K2 hK2 => ?_
  refine AWp.regionW ?_
  refine AWp.block ?_
  refine AWp.loopK0 [0, 1] (fun (i : Nat) => [(5, nat i)]) (fun i => i ≤ l.length ∧ ∀ j (hl : j < l.length) (hm : j < m.length), j < i → sameC l[j] m[j] = true) (fun i => l.length - i) (0) ?_ ⟨Nat.zero_le _, fun j _ _ hj => by omega⟩ ?_
  · skip
    refine Le.m 0 ?_ ?_
    · exact Go.Abs.evM
    · exact Go.Abs.evN
  · intro i hi K3 hK3
    refine AWp.seqK fun K4 hK4 => ?_
    refine AWp.regionW ?_
    refine AWp.condLM (fun c1 => ?_) (fun c1 => ?_)
    · skip
      have hil : i < l.length := by simpa using c1
      have him : i < m.length := by omega
      have ks := (h1 l[i] (List.getElem_mem hil)).same (b := m[i])
      refine AWp.skip ?_
      refine hK4 _ ?_
      refine AWp.seqK fun K5 hK5 => ?_
      refine AWp.block ?_
      refine AWp.drS [[(0, none)], [(5, none)], [(17, some 0), (18, some 1)], [(19, some 2)], [(1, none)], [(5, none)], [(21, some 4), (22, some 5)], [(23, some 6)], [(20, some 3), (24, some 7)], [(25, some 8)]] fun G hG => ?_
      refine Dr.sim ?_
      try simp only [lca, lna]
      refine Dr.sim ?_
      try simp only [lca, lna]
      refine Dr.idx (i) (chunkA false l[i]) ?_ ?_
      · exact chunksA_at _ _ _ hil
      try simp only [lca, lna]
      refine Dr.sim ?_
      try simp only [lca, lna]
      refine Dr.sim ?_
      try simp only [lca, lna]
      refine Dr.sim ?_
      try simp only [lca, lna]
      refine Dr.idx (i) (chunkA false m[i]) ?_ ?_
      · exact chunksA_at _ _ _ him
      try simp only [lca, lna]
      refine Dr.sim ?_
      try simp only [lca, lna]
      refine Dr.call (ks) ?_
      try simp only [lca, lna]
      refine Dr.sim ?_
      try simp only [lca, lna]
      refine Dr.finM (n := 10) [(26, 9)] [0, 1, 5] hG Facts.mixed fun KD hKD => ?_
      refine ARun2.endm (hKD _ ?_); clear hKD KD hG G
      refine AWp.condLM (fun c2 => ?_) (fun c2 => ?_)
      · skip
        have hne : sameC l[i] m[i] = false := by simpa using c2
        have hr := sameLC_at hil him hne
        refine AWp.regionW ?_
        refine AWp.ret ?_
        try simp only [thenQ, blockQ, noGo]
        refine bodyQ.m ?_
        clear hK5 K5 hK4 K4 hK3 K3 hK2 K2 hK1 K1
        rw [hr]
        first | done | exact Hand.go
      have heq : sameC l[i] m[i] = true := by simpa using c2
      refine AWp.skip ?_
      refine hK5 _ ?_
      refine AWp.regionV ?_
      refine hK3 _ (i + 1) (⟨hil, fun j hl hm hj => (Nat.lt_or_ge j i).elim (fun h => hi.2 j hl hm h) (fun h => by have e : j = i := (by omega); subst e; exact heq)⟩) (by omega) ?_
      refine Le.m 0 ?_ ?_
      · exact Go.Abs.evM
      · exact Go.Abs.evN
    have hil : i = l.length := by have := hi.1; simp at c1; omega
    have hr := sameLC_all he (fun j hl hm => hi.2 j hl hm (by omega))
    refine AWp.exit ?_
    try simp only [thenQ, blockQ, noGo, reduceIte, Nat.reduceEqDiff]
    refine hK2 _ ?_
    refine AWp.regionW ?_
    refine AWp.ret ?_
    try simp only [thenQ, blockQ, noGo]
    refine bodyQ.m ?_
    clear hK4 K4 hK3 K3 hK2 K2 hK1 K1
    rw [hr]
    first | done | exact Hand.go
theorem szs_map_le {α : Type} (f : α → GNode) (b : Nat) : ∀ l : List α, (∀ x ∈ l, (f x).sz ≤ b) → szs (l.map f) ≤ l.length * b
  | [], _ => by simp [szs]
  | x :: l, h => by
    have h1 := h x (by simp)
    have h2 := szs_map_le f b l (fun y hy => h y (by simp [hy]))
    simp only [List.map_cons, szs, List.length_cons, Nat.add_mul, Nat.one_mul]
    omega
theorem kept_szs (f : GNode → Nat) : ∀ l : List GNode, szs (disF f l).1 ≤ szs l ∧ szs (disF f l).2.1 ≤ szs l
  | [] => ⟨Nat.le_refl _, Nat.le_refl _⟩
  | n :: l => by
    have h := kept_szs f l
    simp only [disF]
    split
    · simp only [szs]; omega
    split
    · simp only [szs]; omega
    split
    · simp only [szs]; omega
    split
    · simp only [szs]; omega
    · simp only [szs]; omega
theorem wrap_szs : ∀ l : List GNode, szs (l.map wrapN) ≤ szs l + 2 * l.length
  | [] => by simp [szs]
  | n :: l => by
    have h := wrap_szs l
    simp only [List.map_cons, szs, wrapN, GNode.sz, List.length_cons, List.length_nil] at h ⊢
    omega
theorem szs_app' : ∀ l m : List GNode, szs (l ++ m) = szs l + szs m
  | [], m => by simp [szs]
  | n :: l, m => by rw [List.cons_append, szs, szs, szs_app' l m]; omega
theorem flat_szs (f : GChunk → List GNode) (b : Nat) : ∀ l : List GChunk, (∀ c ∈ l, szs (f c) ≤ b) → szs (l.flatMap f) ≤ l.length * b
  | [], _ => by simp [szs]
  | c :: l, h => by
    have h1 := h c (by simp)
    have h2 := flat_szs f b l (fun y hy => h y (by simp [hy]))
    rw [List.flatMap_cons, szs_app', List.length_cons, Nat.add_mul, Nat.one_mul]
    omega
def sumD (l : List GChunk) : Nat := (l.map fun c => c.data.length).sum
def few22 (l : List GChunk) : Bool := l.all fewC && (decide (l.length ≤ 20) && decide (sumD l ≤ 100000))
theorem sumD_take (l : List GChunk) (i : Nat) (h : i < l.length) : sumD (l.take (i + 1)) = sumD (l.take i) + l[i].data.length := by
  unfold sumD
  rw [List.take_succ_eq_append_getElem h]
  simp only [List.map_append, List.map_cons, List.map_nil, List.sum_append, List.sum_cons, List.sum_nil, Nat.add_zero]
theorem sumD_le (l : List GChunk) (b : Nat) (h : ∀ c ∈ l, c.data.length ≤ b) : sumD l ≤ l.length * b := by
  induction l with
  | nil => simp [sumD]
  | cons c l ih =>
    have h1 := h c (by simp)
    have h2 := ih (fun x hx => h x (by simp [hx]))
    simp only [sumD, List.map_cons, List.sum_cons, List.length_cons, Nat.add_mul, Nat.one_mul] at h2 ⊢
    omega
theorem few22_c (l : List GChunk) (hl : l.length ≤ 2 ^ 30) (hs : ∀ c ∈ l, Small c) : PC Tryz.prog 52 [.sl false 4 (chunksA false l)] (bool (few22 l)) := by
  refine PC.of_bodyW (by simp only [push_cast]) Tryz.func52 rfl (by rw [Tryz.ntmps52]; simp) ?_
  refine AWp.regionW ?_
  refine AWp.regionW ?_
  refine AWp.seqK fun K1 hK1 => ?_
  refine AWp.regionW ?_
  refine AWp.block ?_
  refine AWp.loopK0 [0] (fun (i : Nat) => [(4, nat i), (3, nat (sumD (l.take i)))]) (fun i => i ≤ l.length ∧ (l.take i).all fewC = true) (fun i => l.length - i) (0) ?_ ⟨Nat.zero_le _, rfl⟩ ?_
  · skip
    refine Le.m 0 ?_ ?_
    · exact Go.Abs.evM
    · exact Go.Abs.evN
  · intro i hi K2 hK2
    refine AWp.seqK fun K3 hK3 => ?_
    refine AWp.regionW ?_
    refine AWp.condLM (fun c0 => ?_) (fun c0 => ?_)
    · skip
      have hil : i < l.length := by simpa using c0
      have hsi := hs l[i] (List.getElem_mem hil)
      have kf := few12_c l[i] hsi
      have hsd := hsi.data
      have hst := sumD_take l i hil
      have hsl := sumD_le (l.take i) (2 ^ 26) (fun c hc => (hs c (List.mem_of_mem_take hc)).data)
      rw [List.length_take] at hsl
      have hsl2 : (min i l.length) * 2 ^ 26 ≤ 2 ^ 30 * 2 ^ 26 := Nat.mul_le_mul_right _ (by omega)
      have hat := chunksA_at false l i hil
      refine AWp.skip ?_
      refine hK3 _ ?_
      refine AWp.seqK fun K4 hK4 => ?_
      refine AWp.block ?_
      refine AWp.seqK fun K5 hK5 => ?_
      refine AWp.regionM fun K6 hK6 => ?_
      refine ARun2.indexM (i) (chunkA false l[i]) ?_ ?_
      · exact hat
      refine ARun2.callM (kf) ?_
      refine ARun2.endm (hK6 _ ?_)
      refine AWp.condLM (fun c1 => ?_) (fun c1 => ?_)
      · skip
        have hr : few22 l = false := by
          have hfi : fewC l[i] = false := by simpa using c1
          have : l.all fewC = false := by
            rw [Bool.eq_false_iff]; intro h
            have := List.all_eq_true.1 h l[i] (List.getElem_mem hil)
            rw [hfi] at this; cases this
          unfold few22; rw [this]; rfl
        refine AWp.regionW ?_
        refine AWp.ret ?_
        try simp only [thenQ, blockQ, noGo]
        refine bodyQ.m ?_
        clear hK6 K6 hK5 K5 hK4 K4 hK3 K3 hK2 K2 hK1 K1
        rw [hr]
        first | done | exact Hand.go
      have hfi : fewC l[i] = true := by simpa using c1
      refine AWp.skip ?_
      refine hK5 _ ?_
      refine AWp.regionN fun K7 hK7 => ?_
      refine ARun2.indexM (i) (chunkA false l[i]) ?_ ?_
      · exact hat
      refine ARun2.endm (hK7 _ ?_)
      refine hK4 _ ?_
      refine AWp.regionV ?_
      refine hK2 _ (i + 1) (⟨hil, by rw [List.take_succ_eq_append_getElem hil, List.all_append, hi.2]; simp [hfi]⟩) (by omega) ?_
      refine Le.m 0 ?_ ?_
      · exact Go.Abs.evM
      · simp only [push_cast, ↓reduceIte, Nat.reduceEqDiff, Nat.reduceLT, Nat.reduceAdd, Nat.reduceSub, Nat.reduceMul, Nat.reduceLeDiff, Nat.reducePow, Int.reduceLT, Int.reduceToNat, reduceCtorEq, Int.reduceNeg, Int.reduceEq, Nat.reduceBEq, Nat.reduceBNe, Int.reduceBEq, Int.reduceBNe, String.reduceEq]
        try simp (disch := omega) only [w_nat, w_add, w_addl, w_addr, w_sub, w_subl, w_mul, w_mull, w_mulr, w_u32, w_u16, w_u8, w_u32a, N_zero]
        rw [hst]
    have hil : i = l.length := by have := hi.1; simp at c0; omega
    subst hil
    have hall := hi.2
    rw [List.take_length] at hall ⊢
    have hr : few22 l = (decide (l.length ≤ 20) && decide (sumD l ≤ 100000)) := by unfold few22; rw [hall]; rfl
    refine AWp.exit ?_
    try simp only [thenQ, blockQ, noGo, reduceIte, Nat.reduceEqDiff]
    refine hK1 _ ?_
    refine AWp.regionA fun K8 hK8 => ?_
    refine ARun.segm 4 fun KS hKS => ?_
    refine ARun2.endm (hKS _ ?_); clear hKS KS
    apply ARun.grpM 2 3 true 30 [28]
    · intro g3 KG hKG
      refine ARun2.gom ?_
      exact ARun2.endm (hKG _ Le.grpM)
    refine ARun2.gom ?_
    refine ARun2.endm (hK8 _ ?_)
    refine AWp.ret ?_
    try simp only [thenQ, blockQ, noGo]
    refine bodyQ.m ?_
    clear hK8 K8 hK3 K3 hK2 K2 hK1 K1
    rw [hr]
    first | done | exact Hand.go
def right24 (l : List GChunk) : Bool := l.all fun c => (checkC c == 0) && decide (c.data.length ≤ 65527)
theorem right24_c (l : List GChunk) (hl : l.length ≤ 2 ^ 30) (hs : ∀ c ∈ l, Small c) : PC Tryz.prog 53 [.sl false 4 (chunksA false l)] (bool (right24 l)) := by
  refine PC.of_bodyW (by simp only [push_cast]) Tryz.func53 rfl (by rw [Tryz.ntmps53]; simp) ?_
  refine AWp.regionW ?_
  refine AWp.seqK fun K1 hK1 => ?_
  refine AWp.regionW ?_
  refine AWp.block ?_
  refine AWp.loopK0 [0] (fun (i : Nat) => [(3, nat i)]) (fun i => i ≤ l.length ∧ right24 (l.take i) = true) (fun i => l.length - i) (0) ?_ ⟨Nat.zero_le _, rfl⟩ ?_
  · skip
    refine Le.m 0 ?_ ?_
    · exact Go.Abs.evM
    · exact Go.Abs.evN
  · intro i hi K2 hK2
    refine AWp.seqK fun K3 hK3 => ?_
    refine AWp.regionW ?_
    refine AWp.condLM (fun c0 => ?_) (fun c0 => ?_)
    · skip
      have hil : i < l.length := by simpa using c0
      have hsi := hs l[i] (List.getElem_mem hil)
      have kc := hsi.check12
      have hsd := hsi.data
      have hat := chunksA_at false l i hil
      refine AWp.skip ?_
      refine hK3 _ ?_
      refine AWp.seqK fun K4 hK4 => ?_
      refine AWp.block ?_
      refine AWp.regionA fun K5 hK5 => ?_
      refine ARun.segm 7 fun KS hKS => ?_
      refine ARun2.indexM (i) (chunkA false l[i]) ?_ ?_
      · exact hat
      refine ARun2.callM (kc) ?_
      refine ARun2.endm (hKS _ ?_); clear hKS KS
      apply ARun.grpM 7 6 false 23 [0, 3, 16]
      · intro g6 KG hKG
        refine ARun2.gom ?_
        refine ARun2.indexM (i) (chunkA false l[i]) ?_ ?_
        · exact hat
        exact ARun2.endm (hKG _ Le.grpM)
      refine ARun2.gom ?_
      refine ARun2.endm (hK5 _ ?_)
      refine AWp.condLM (fun c1 => ?_) (fun c1 => ?_)
      · skip
        have hr : right24 l = false := by
          have hfi : ((checkC l[i] == 0) && decide (l[i].data.length ≤ 65527)) = false := by
            rw [Bool.eq_false_iff]; intro h
            simp only [Bool.and_eq_true, beq_iff_eq, decide_eq_true_eq] at h
            rw [h.1] at c1; simp at c1; omega
          rw [Bool.eq_false_iff]; intro h
          have := List.all_eq_true.1 h l[i] (List.getElem_mem hil)
          rw [hfi] at this; cases this
        refine AWp.regionW ?_
        refine AWp.ret ?_
        try simp only [thenQ, blockQ, noGo]
        refine bodyQ.m ?_
        clear hK5 K5 hK4 K4 hK3 K3 hK2 K2 hK1 K1
        rw [hr]
        first | done | exact Hand.go
      have hfi : ((checkC l[i] == 0) && decide (l[i].data.length ≤ 65527)) = true := by
        simp only [Bool.or_eq_false_iff, bne_eq_false_iff_eq, decide_eq_false_iff_not] at c1
        rw [c1.1]; simp; omega
      refine AWp.skip ?_
      refine hK4 _ ?_
      refine AWp.regionV ?_
      refine hK2 _ (i + 1) (⟨hil, by
        have h2 := hi.2
        unfold right24 at h2 ⊢
        rw [List.take_succ_eq_append_getElem hil, List.all_append, h2]; simp only [List.all_cons, List.all_nil, hfi]; rfl⟩) (by omega) ?_
      refine Le.m 0 ?_ ?_
      · exact Go.Abs.evM
      · exact Go.Abs.evN
    have hil : i = l.length := by have := hi.1; simp at c0; omega
    subst hil
    have hr := hi.2
    rw [List.take_length] at hr
    refine AWp.exit ?_
    try simp only [thenQ, blockQ, noGo, reduceIte, Nat.reduceEqDiff]
    refine hK1 _ ?_
    refine AWp.regionW ?_
    refine AWp.ret ?_
    try simp only [thenQ, blockQ, noGo]
    refine bodyQ.m ?_
    clear hK3 K3 hK2 K2 hK1 K1
    rw [hr]
    first | done | exact Hand.go
def askC (l : List GChunk) : Bool := few22 l && right24 l
theorem ask_chs {l : List GChunk} (h : askC l = true) (hs : ∀ c ∈ l, Small c ∧ tysOk c.kids = true) : Chs l := by
  unfold askC few22 right24 at h
  simp only [Bool.and_eq_true, decide_eq_true_eq, List.all_eq_true, beq_iff_eq] at h
  exact ⟨by omega, hs, fun c hc => h.2 c hc⟩
def chunk25 (n : GNode) : GChunk × Bool := bif n.ty == 6 && checkN 2 1 n == 0 then ((parseC n.data).1, (parseC n.data).2.isOk) else (.zero, false)
def param25 (n : GNode) : GNode × Bool := bif n.ty == 8 && checkN 1 1 n == 0 then (n.kids.headD default, true) else (.zero, false)
def chunks25 (l : List GNode) : List GChunk := l.filterMap fun n => bif (chunk25 n).2 then some (chunk25 n).1 else none
def params25 (l : List GNode) : List GNode := l.filterMap fun n => bif (param25 n).2 then some (param25 n).1 else none
def kids25 (l : List GNode) : List GNode := l.flatMap fun n => bif n.ty == 8 then n.kids else []
def readC (l : List GChunk) : List GChunk := l.flatMap fun c => bif c.ty == 9 then chunks25 c.kids else []
def readP (l : List GChunk) : List GNode := l.flatMap fun c => bif c.ty == 9 then kids25 c.kids else []
def around25 (Q : List GNode) : GNode := .mk 8 [] (params25 Q)
def causes25 (C Q : List GNode) : List GNode := bif (rightN (around25 Q) true).2 then C ++ [around25 Q] else C
def answer25 (C Q : List GNode) : GChunk × Bool := rightC (reportC (causes25 C Q)) true
theorem wrap_ok {n : GNode} (h : checkN 1 1 n = 0) (ht : n.ty = 8) : n.kids.length = 1 ∧ checkL 1 2 n.kids = 0 ∧ nSize n.kids ≤ 65531 := by
  obtain ⟨s1, s2, s3, s4, s5⟩ := sh18
  obtain ⟨h1, h2, h3, h4, h5⟩ := checkN_zero h
  rw [ht] at h2 h4
  rw [s4] at h4
  have hk : kidsOk (shapeOf 1 8) n.kids = true := by
    unfold badN at h2; rw [s1] at h2; simp at h2; exact h2.2
  unfold kidsOk at hk
  rw [s4] at hk
  simp [insideN] at hk
  have := nSize_kids1 n
  rw [size_one, vlen_eq] at h5
  exact ⟨by omega, h4, by omega⟩
structure Wraps (Q : List GNode) : Prop where
  w : ∀ n ∈ Q, (∃ k, n = wrapN k) ∧ (checkN 1 1 n = 0 ∨ checkN 1 1 n = 4)
theorem Wraps.one {Q : List GNode} (h : Wraps Q) : ∀ n ∈ Q, n.kids.length = 1 := by
  intro n hn
  obtain ⟨⟨k, rfl⟩, _⟩ := h.w n hn
  rfl
theorem chunks25_app (a b : List GNode) : chunks25 (a ++ b) = chunks25 a ++ chunks25 b := by unfold chunks25; rw [List.filterMap_append]
theorem kids25_app (a b : List GNode) : kids25 (a ++ b) = kids25 a ++ kids25 b := by unfold kids25; rw [List.flatMap_append]
structure B25 (C Q : List GNode) : Prop where
  c : szs C ≤ 2 ^ 22
  q : szs Q ≤ 2 ^ 23
theorem disO_b25 {l : List GChunk} (h : Chs l) (h20 : l.length ≤ 20) : B25 (disO l).chunks (disO l).params := by
  obtain ⟨hl, hs, hr⟩ := h
  have hn := disF_none (fun c : GChunk => actC c.ty) l
  obtain ⟨m1, m2⟩ := disF_mem (fun c : GChunk => actC c.ty) l
  have q3 := szs_map_le repC (2 ^ 17) (disF (fun c : GChunk => actC c.ty) l).2.1 (fun c hc => by
      have hm := m2 c hc
      obtain ⟨o1, o2⟩ := hr c hm.1
      have hb := rep_bytes o1 o2 (actC_unk hm.2)
      simp only [repC, GNode.sz, szs]; omega)
  have q4 := flat_szs (fun c => (cleanC c).2) (2 ^ 18) (disF (fun c : GChunk => actC c.ty) l).1 (fun c hc => by
      have hm := (m1 c hc).1
      obtain ⟨o1, o2⟩ := hr c hm
      have h1 := (check_size o1).1
      have h2 := szs_nSize c.kids
      obtain ⟨k1, k2⟩ := kept_szs (fun n : GNode => actP n.ty) c.kids
      have k3 := wrap_szs (disF (fun n : GNode => actP n.ty) c.kids).2.1
      have k4 := (disF_none (fun n : GNode => actP n.ty) c.kids).2
      have k5 := szs_len c.kids
      show szs (cleanC c).2 ≤ _
      unfold cleanC
      split
      · show szs ((disF _ _).2.1.map wrapN) ≤ _; omega
      · simp [szs])
  refine ⟨?_, ?_⟩
  · show szs ((disF (fun c : GChunk => actC c.ty) l).2.1.map repC) ≤ _
    have : (disF (fun c : GChunk => actC c.ty) l).2.1.length * 2 ^ 17 ≤ 20 * 2 ^ 17 := Nat.mul_le_mul_right _ (by omega)
    omega
  · show szs ((disF (fun c : GChunk => actC c.ty) l).1.flatMap fun c => (cleanC c).2) ≤ _
    have : (disF (fun c : GChunk => actC c.ty) l).1.length * 2 ^ 18 ≤ 20 * 2 ^ 18 := Nat.mul_le_mul_right _ (by omega)
    omega
theorem head_sz (n : GNode) : (param25 n).2 = true → (param25 n).1.sz ≤ n.sz := by
  unfold param25
  cases hb : n.ty == 8 && checkN 1 1 n == 0 with
  | false => intro h; cases h
  | true =>
    intro _
    simp only [Bool.and_eq_true, beq_iff_eq] at hb
    have h1 := (wrap_ok hb.2 hb.1).1
    obtain ⟨k, hk⟩ := List.length_eq_one_iff.1 h1
    show (n.kids.headD default).sz ≤ _
    rw [hk]
    have : k ∈ n.kids := by rw [hk]; simp
    have := szs_lt this
    show k.sz ≤ _
    omega
theorem params_szs : ∀ Q : List GNode, szs (params25 Q) ≤ szs Q
  | [] => Nat.le_refl _
  | n :: Q => by
    have h := params_szs Q
    have h2 := head_sz n
    unfold params25 at h ⊢
    rw [List.filterMap_cons]
    cases hb : (param25 n).2 with
    | false => simp only [cond_false, szs]; omega
    | true =>
      have := h2 hb
      simp only [cond_true, szs]; omega
theorem causes_szs {C Q : List GNode} (h : B25 C Q) : szs (causes25 C Q) ≤ 2 ^ 24 ∧ szs (params25 Q) ≤ 2 ^ 23 := by
  have h1 := params_szs Q
  have h2 := h.q
  have h3 := h.c
  refine ⟨?_, by omega⟩
  unfold causes25
  cases (rightN (around25 Q) true).2 with
  | false => show szs C ≤ _; omega
  | true =>
    show szs (C ++ [around25 Q]) ≤ _
    rw [szs_app']
    simp only [szs, around25, GNode.sz, List.length_nil]
    omega
theorem readC_take (l : List GChunk) (i : Nat) (h : i < l.length) : readC (l.take (i + 1)) = readC (l.take i) ++ (bif l[i].ty == 9 then chunks25 l[i].kids else []) := by
  unfold readC
  rw [List.take_succ_eq_append_getElem h, List.flatMap_append, List.flatMap_cons, List.flatMap_nil, List.append_nil]
theorem readP_take (l : List GChunk) (i : Nat) (h : i < l.length) : readP (l.take (i + 1)) = readP (l.take i) ++ (bif l[i].ty == 9 then kids25 l[i].kids else []) := by
  unfold readP
  rw [List.take_succ_eq_append_getElem h, List.flatMap_append, List.flatMap_cons, List.flatMap_nil, List.append_nil]
theorem chunks25_take (l : List GNode) (i : Nat) (h : i < l.length) : chunks25 (l.take (i + 1)) = chunks25 (l.take i) ++ (bif (chunk25 l[i]).2 then [(chunk25 l[i]).1] else []) := by
  rw [List.take_succ_eq_append_getElem h, chunks25_app]
  congr 1
  unfold chunks25
  rw [List.filterMap_cons, List.filterMap_nil]
  cases (chunk25 l[i]).2 <;> rfl
theorem kids25_take (l : List GNode) (i : Nat) (h : i < l.length) : kids25 (l.take (i + 1)) = kids25 (l.take i) ++ (bif l[i].ty == 8 then l[i].kids else []) := by
  rw [List.take_succ_eq_append_getElem h, kids25_app]
  congr 1
  unfold kids25
  rw [List.flatMap_cons, List.flatMap_nil, List.append_nil]
theorem params25_take (l : List GNode) (i : Nat) (h : i < l.length) : params25 (l.take (i + 1)) = params25 (l.take i) ++ (bif (param25 l[i]).2 then [(param25 l[i]).1] else []) := by
  rw [List.take_succ_eq_append_getElem h]
  unfold params25
  rw [List.filterMap_append, List.filterMap_cons, List.filterMap_nil]
  cases (param25 l[i]).2 <;> rfl
theorem chunk25_small {n : GNode} (h : (chunk25 n).2 = true) (hn : n.sz ≤ 2 ^ 26) : Small (chunk25 n).1 := by
  unfold chunk25 at h ⊢
  cases hb : n.ty == 6 && checkN 2 1 n == 0 with
  | false => exact small_zero
  | true =>
    rw [hb] at h
    have hp : (parseC n.data).2 = .ok := by
      have h' : (parseC n.data).2.isOk = true := h
      revert h'; cases (parseC n.data).2 <;> simp [Er.isOk]
    obtain ⟨b1, b2, b3, b4, b5, b6⟩ := chunk_back (Prod.ext rfl hp : parseC n.data = ((parseC n.data).1, .ok))
    obtain ⟨s1, s2⟩ := check_size b1
    have hss := szs_nSize (parseC n.data).1.kids
    exact ⟨b4, b5, by show (parseC n.data).1.data.length ≤ _; omega, by show szs (parseC n.data).1.kids ≤ _; omega⟩
theorem chunks25_mem {l : List GNode} {b : Nat} (hb : b ≤ 2 ^ 26) (h : szs l ≤ b) : (∀ c ∈ chunks25 l, Small c) ∧ (chunks25 l).length ≤ b := by
  refine ⟨fun c hc => ?_, ?_⟩
  · unfold chunks25 at hc
    rw [List.mem_filterMap] at hc
    obtain ⟨n, hn, he⟩ := hc
    have := szs_mem hn
    cases h2 : (chunk25 n).2 with
    | false => rw [h2] at he; cases he
    | true =>
      rw [h2] at he
      have he' : (chunk25 n).1 = c := by simpa using he
      rw [← he']; exact chunk25_small h2 (by omega)
  · have h1 : (chunks25 l).length ≤ l.length := List.length_filterMap_le _ _
    have := szs_len l
    omega
theorem kids25_szs : ∀ l : List GNode, szs (kids25 l) ≤ szs l
  | [] => Nat.le_refl _
  | n :: l => by
    have h := kids25_szs l
    have hn := n.sz_eq
    unfold kids25 at h ⊢
    rw [List.flatMap_cons, szs_app', szs]
    cases n.ty == 8 with
    | true => simp only [cond_true]; omega
    | false => simp only [cond_false, szs]; omega
theorem readC_small {l : List GChunk} (h : ∀ c ∈ l, Small c) : ∀ c ∈ readC l, Small c := by
  intro c hc
  unfold readC at hc
  rw [List.mem_flatMap] at hc
  obtain ⟨x, hx, hcx⟩ := hc
  cases h9 : x.ty == 9 with
  | false => rw [h9] at hcx; cases hcx
  | true => rw [h9] at hcx; exact (chunks25_mem (Nat.le_refl _) (h x hx).kids).1 c hcx
theorem readC_len : ∀ {l : List GChunk}, (∀ c ∈ l, Small c) → (readC l).length ≤ l.length * 2 ^ 26
  | [], _ => Nat.le_refl _
  | x :: l, h => by
    have ih := readC_len (l := l) (fun c hc => h c (by simp [hc]))
    have h1 := (chunks25_mem (Nat.le_refl _) (h x (by simp)).kids).2
    unfold readC at ih ⊢
    rw [List.flatMap_cons, List.length_append, List.length_cons, Nat.add_mul, Nat.one_mul]
    cases x.ty == 9 with
    | true => simp only [cond_true]; omega
    | false => simp only [cond_false, List.length_nil]; omega
theorem readP_szs : ∀ {l : List GChunk}, (∀ c ∈ l, Small c) → szs (readP l) ≤ l.length * 2 ^ 26
  | [], _ => Nat.le_refl _
  | x :: l, h => by
    have ih := readP_szs (l := l) (fun c hc => h c (by simp [hc]))
    have h1 := kids25_szs x.kids
    have h2 := (h x (by simp)).kids
    unfold readP at ih ⊢
    rw [List.flatMap_cons, szs_app', List.length_cons, Nat.add_mul, Nat.one_mul]
    cases x.ty == 9 with
    | true => simp only [cond_true]; omega
    | false => simp only [cond_false, szs]; omega
theorem parse_isOk (b : List UInt8) : ((parseC b).2.codeOf.1 == 0) = (parseC b).2.isOk := by
  have hn := (parseC_facts b).1
  have := num_ok hn
  cases h : (parseC b).2.isOk with
  | true =>
    have : (parseC b).2 = .ok := by revert h; cases (parseC b).2 <;> simp [Er.isOk]
    rw [this]; rfl
  | false =>
    rw [beq_eq_false_iff_ne]
    intro he
    have := this.1 he
    rw [this] at h; cases h
end Go.Proofs.YtokbbdodbjiciaaGreatDoor.C
namespace Go.Abs
set_option linter.unusedSectionVars false
section
variable {P : Program} {ops : Array Oper} {E : Env} {s s' : AS} {ρ : List Value} {B : Nat → Prop} {a : Act} {w w' : World} {o : Oper} {rest : List Oper} {Q : AS → Prop} {R : Exit → AS → Prop} {nds : List (List (Nat × Option Nat))} {vals : List AV} {G : Prop}
end
set_option linter.unusedSectionVars false
section
variable {P : Program} {ops : Array Oper} {E : Env} {s s' : AS} {ρ : List Value} {B : Nat → Prop} {a : Act} {w w' : World} {o : Oper} {Q : AS → Prop}
end
end Go.Abs
