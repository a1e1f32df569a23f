/- Plain laws on causes. -/
import Derived.Test.YtmcedkcehcacpaaCref1
set_option linter.unusedVariables false
set_option linter.unusedSimpArgs false
namespace Go.Proofs.Ytmcedkcehcacpaa.C
open Go.Abs

theorem putB2 (x : Nat) : putB 2 x = twoB x := by
  simp [putB, twoB, List.range_succ]
theorem putB4 (x : Nat) (h : x < 65536) : putB 4 x = [0, 0, UInt8.ofNat (x / 256), UInt8.ofNat (x % 256)] := by
  have h1 : x / 256 ^ 3 = 0 := by omega
  have h2 : x / 256 ^ 2 = 0 := by omega
  have h3 : UInt8.ofNat x = UInt8.ofNat (x % 256) := by
    apply UInt8.toNat_inj.1
    rw [UInt8.toNat_ofNat', UInt8.toNat_ofNat']; omega
  have e : putB 4 x = [UInt8.ofNat (x / 256 ^ 3), UInt8.ofNat (x / 256 ^ 2), UInt8.ofNat (x / 256), UInt8.ofNat x] := by
    simp [putB, List.range_succ]
  rw [e, h1, h2, h3]; rfl
theorem missD_eq (ts : List Nat) (h : ts.length ≤ 32763) : missingD ts = refMissD ts := by
  rw [missingD, refMissD, putB4 _ (by omega)]
  congr 1
  clear h
  induction ts with
  | nil => rfl
  | cons a l ih => rw [List.flatMap_cons, List.flatMap_cons, ih, putB2]

theorem beN_two (t : Nat) (h : t < 2 ^ 16) : beN (twoB t) = t := by
  simp only [beN, twoB, List.foldl_cons, List.foldl_nil, UInt8.toNat_ofNat']
  omega
theorem nums_cons (k : Nat) (hk : 0 < k) (a l : List UInt8) (h : a.length = k) : numsOf k (a ++ l) = beN a :: numsOf k l := by
  unfold numsOf
  have e : (a ++ l).length / k = l.length / k + 1 := by
    rw [List.length_append, h, Nat.add_comm, Nat.add_div_right _ hk]
  rw [e, List.range_succ_eq_map, List.map_cons, List.map_map]
  congr 1
  · simp only [Nat.zero_mul, List.drop_zero]
    rw [← h, List.take_left]
  · apply List.map_congr_left
    intro i hi
    simp only [Function.comp_apply]
    congr 2
    rw [Nat.succ_mul, Nat.add_comm, ← h, List.drop_append, ]
    simp
theorem nums_two : ∀ (ts : List Nat), (∀ t ∈ ts, t < 2 ^ 16) → numsOf 2 (ts.flatMap twoB) = ts
  | [], _ => rfl
  | t :: l, h => by
    rw [List.flatMap_cons, nums_cons 2 (by omega) (twoB t) _ rfl, beN_two t (h t (by simp)), nums_two l (fun x hx => h x (by simp [hx]))]
theorem numsA_two (ts : List Nat) (h : ∀ t ∈ ts, t < 2 ^ 16) : numsA 2 (ts.flatMap twoB) = ts := by
  unfold numsA
  rw [if_pos (by rw [twoB_len]; omega), nums_two ts h]

theorem missing_check (ts : List Nat) (h : ts.length ≤ 32763) : checkN 2 1 (.mk 2 (refMissD ts) []) = if ts.length = 0 then 7 else 0 := by
  have hl : (refMissD ts).length = 4 + ts.length * 2 := by rw [← missD_eq ts h, missingD_len]
  have h1 : peekN 4 (refMissD ts) 0 = ts.length := by
    have e : (refMissD ts).take 4 = [0, 0, UInt8.ofNat (ts.length / 256), UInt8.ofNat (ts.length % 256)] := rfl
    unfold peekN
    rw [if_pos (by omega), List.drop_zero, e]
    simp only [beN, List.foldl_cons, List.foldl_nil, UInt8.toNat_ofNat']
    simp
    omega
  have hf : badN 2 2 (4 + ts.length * 2) [] = decide (ts.length = 0) := by
    have e : shapeOf 2 2 = ⟨2, 2, ⟨#[109, 105, 115, 115, 105, 110, 103, 45, 112, 97, 114, 97, 109, 101, 116, 101, 114]⟩, 6, 65531, 2, 0⟩ := rfl
    have e2 : shapeHas 2 2 = true := rfl
    unfold badN
    rw [e2, e]
    have e3 : fitsN ⟨2, 2, ⟨#[109, 105, 115, 115, 105, 110, 103, 45, 112, 97, 114, 97, 109, 101, 116, 101, 114]⟩, 6, 65531, 2, 0⟩ (4 + ts.length * 2) = !decide (ts.length = 0) := by
      unfold fitsN
      clear e2 h1 hl
      generalize ts.length = n at *
      rw [Bool.eq_iff_iff]
      simp
      omega
    have e4 : kidsOk ⟨2, 2, ⟨#[109, 105, 115, 115, 105, 110, 103, 45, 112, 97, 114, 97, 109, 101, 116, 101, 114]⟩, 6, 65531, 2, 0⟩ [] = true := rfl
    rw [e3, e4]
    simp
  have hc : countedN 2 2 (refMissD ts) = false := by
    unfold countedN
    rw [h1, hl]
    simp
  have hs : nSize [GNode.mk 2 (refMissD ts) []] ≤ 65535 := by
    have : nSize [GNode.mk 2 (refMissD ts) []] = 4 + (4 + ts.length * 2) := by simp [nSize, nLens, vlen, tlvSize, sumUp, upN, gapN, hl]
    omega
  rw [checkN_eq]
  simp only [GNode.ty_mk, GNode.data_mk, GNode.kids_mk, hl, hf, hc]
  by_cases h0 : ts.length = 0
  · simp [h0]
  · simp [h0, checkL]; omega

theorem missing_eq (ts : List Nat) : missingN ts = refMissN ts := by
  unfold missingN refMissN rightN
  by_cases h : ts.length ≤ 32763
  · rw [missD_eq ts h, missing_check ts h]
    by_cases h0 : ts.length = 0
    · simp [h0]
    · rw [if_neg h0, if_neg (by omega)]; rfl
  · rw [if_pos (by omega)]
    have hc : checkN 2 1 (.mk 2 (missingD ts) []) ≠ 0 := by
      have hb : badN 2 2 (missingD ts).length [] = true := by
        rw [missingD_len]
        have e : shapeOf 2 2 = ⟨2, 2, ⟨#[109, 105, 115, 115, 105, 110, 103, 45, 112, 97, 114, 97, 109, 101, 116, 101, 114]⟩, 6, 65531, 2, 0⟩ := rfl
        have e2 : shapeHas 2 2 = true := rfl
        unfold badN
        rw [e2, e]
        have e3 : fitsN ⟨2, 2, ⟨#[109, 105, 115, 115, 105, 110, 103, 45, 112, 97, 114, 97, 109, 101, 116, 101, 114]⟩, 6, 65531, 2, 0⟩ (4 + ts.length * 2) = false := by
          unfold fitsN
          simp
          omega
        rw [e3]; rfl
      rw [checkN_eq]
      simp only [GNode.ty_mk, GNode.data_mk, GNode.kids_mk, hb]
      simp
    have : (checkN 2 1 (.mk 2 (missingD ts) []) == 0) = false := by simpa using hc
    rw [this]; rfl

theorem types_missing (ts : List Nat) (ht : ∀ t ∈ ts, t < 2 ^ 16) : typesN (refMissN ts).1 = if (refMissN ts).2 = true then (ts, true) else ([], false) := by
  unfold refMissN
  by_cases h : ts.length = 0 ∨ 32763 < ts.length
  · rw [if_pos h]; rfl
  · rw [if_neg h]
    have hc : rightN (.mk 2 (refMissD ts) []) true = (.mk 2 (refMissD ts) [], true) := by
      unfold rightN
      rw [missing_check ts (by omega), if_neg (by omega)]; rfl
    have hd : (refMissD ts).drop 4 = ts.flatMap twoB := rfl
    have hx : (rightN (.mk 2 (refMissD ts) []) ((GNode.mk 2 (refMissD ts) []).ty == 2)).2 = true := by
      show (rightN (.mk 2 (refMissD ts) []) true).2 = true
      rw [hc]
    show typesN (.mk 2 (refMissD ts) []) = if true = true then (ts, true) else ([], false)
    rw [typesN, if_pos hx, if_pos rfl, GNode.data_mk, hd, numsA_two ts ht]
end Go.Proofs.Ytmcedkcehcacpaa.C
