/- The reference: Types; plain laws on values. -/
import Derived.Test.YtmcedkcehcacpaaCref5
set_option linter.unusedVariables false
set_option linter.unusedSimpArgs false
namespace Go.Proofs.Ytmcedkcehcacpaa.C
open Go.Abs

theorem right_snd (n : GNode) (ok : Bool) : (rightN n ok).2 = (ok && (checkN 2 1 n == 0)) := by
  unfold rightN; cases ok && (checkN 2 1 n == 0) <;> rfl
theorem two_u16 (a b : UInt8) : IntKind.u16.wrap (IntKind.u16.wrap (N a.toNat * 2 ^ min 8 IntKind.u16.bits) + N b.toNat) = N (a.toNat * 256 + b.toNat) := by
  have h2 : IntKind.u16.bits = 16 := rfl
  have h3 : (2 : Int) ^ min 8 16 = 256 := rfl
  have := a.toNat_lt
  have := b.toNat_lt
  rw [h2, h3, wrap_u16, wrap_u16]
  unfold N; omega
theorem types_even {n : GNode} (ht : n.ty = 2) (hc : checkN 2 1 n = 0) : 4 ≤ n.data.length ∧ n.data.length % 2 = 0 := by
  rw [checkN_eq, ht] at hc
  by_cases hb : badN 2 2 n.data.length n.kids = true
  · simp [hb] at hc
  · have e : shapeOf 2 2 = ⟨2, 2, ⟨#[109, 105, 115, 115, 105, 110, 103, 45, 112, 97, 114, 97, 109, 101, 116, 101, 114]⟩, 6, 65531, 2, 0⟩ := rfl
    have e2 : shapeHas 2 2 = true := rfl
    unfold badN at hb
    rw [e2, e] at hb
    have hf : fitsN ⟨2, 2, ⟨#[109, 105, 115, 115, 105, 110, 103, 45, 112, 97, 114, 97, 109, 101, 116, 101, 114]⟩, 6, 65531, 2, 0⟩ n.data.length = true := by
      cases hq : fitsN ⟨2, 2, ⟨#[109, 105, 115, 115, 105, 110, 103, 45, 112, 97, 114, 97, 109, 101, 116, 101, 114]⟩, 6, 65531, 2, 0⟩ n.data.length with
      | true => rfl
      | false => rw [hq] at hb; simp at hb
    unfold fitsN at hf
    simp only [Bool.and_eq_true, decide_eq_true_eq, beq_iff_eq] at hf
    omega

theorem refTypes_c (n : GNode) (hs : n.sz ≤ 2 ^ 26) : PC Try.prog 17 [nodeA false n] (.tup [.sl false 1 (u16s (typesN n).1), bool (typesN n).2]) := by
  have hsz := n.sz_eq
  have hns := nSize_sz n
  refine PC.of_bodyW (by simp only [push_cast]) Try.func17 rfl (by rw [Try.ntmps17]; simp) ?_
  refine AWp.regionW ?_
  refine AWp.seqK fun K1 hK1 => ?_
  refine AWp.regionA fun K2 hK2 => ?_
  refine ARun.segm 4 fun KS hKS => ?_
  refine ARun2.endm (hKS _ ?_); clear hKS KS
  apply ARun.grpM 3 3 false 12 [1, 9]
  · intro g3 KG hKG
    refine ARun2.gom ?_
    refine ARun2.callM (check08_c 2 1 n (by omega) (by omega) (by omega)) ?_
    exact ARun2.endm (hKG _ Le.grpM)
  refine ARun2.gom ?_
  refine ARun2.endm (hK2 _ ?_)
  refine AWp.condLM (fun c0 => ?_) (fun c0 => ?_)
  · skip
    have hr : typesN n = ([], false) := by
      refine if_neg ?_
      rw [right_snd]
      cases h1 : n.ty == 2 <;> cases h2 : checkN 2 1 n == 0 <;> simp_all
    refine AWp.regionW ?_
    refine AWp.ret ?_
    try simp only [thenQ, blockQ]
    refine bodyQ.m ?_
    clear hK2 K2 hK1 K1
    rw [hr]
    first | done | exact Hand.go
  · skip
    have ht : n.ty = 2 := by cases h1 : n.ty == 2 <;> simp_all
    have hc : checkN 2 1 n = 0 := by cases h2 : checkN 2 1 n == 0 <;> simp_all
    have hev := types_even ht hc
    have hr : typesN n = (numsOf 2 (n.data.drop 4), true) := by
      have h1 : (rightN n (n.ty == 2)).2 = true := by rw [right_snd, ht, hc]; rfl
      have h2 : numsA 2 (n.data.drop 4) = numsOf 2 (n.data.drop 4) := if_pos (by rw [List.length_drop]; omega)
      rw [typesN, if_pos h1, h2]
    obtain ⟨ns, hns⟩ : ∃ ns, ns = numsOf 2 (n.data.drop 4) := ⟨_, rfl⟩
    have hnl : ns.length = (n.data.length - 4) / 2 := by rw [hns, nums_len, List.length_drop]
    have hat : ∀ i (h : i < ns.length), ns[i] = (n.data[4 + 2 * i]'(by omega)).toNat * 256 + (n.data[4 + 2 * i + 1]'(by omega)).toNat := by
      intro i h
      have hd : (n.data.drop (4 + 2 * i)).take 2 = [n.data[4 + 2 * i]'(by omega), n.data[4 + 2 * i + 1]'(by omega)] := by
        rw [List.drop_eq_getElem_cons (by omega), List.drop_eq_getElem_cons (by omega)]; rfl
      subst hns
      simp only [numsOf, List.getElem_map, List.getElem_range, List.drop_drop]
      rw [Nat.mul_comm i 2, hd]
      simp [beN]
    rw [← hns] at hr
    refine AWp.skip ?_
    refine hK1 _ ?_
    refine AWp.regionW ?_
    refine AWp.seqK fun K3 hK3 => ?_
    refine AWp.regionW ?_
    refine AWp.block ?_
    -- SLOTS THAT TURN AND ARE NOT TOLD: [4]
    refine AWp.nilOwn 4 22 1 (by simp only [push_cast, reduceIte, Nat.reduceEqDiff, Nat.reduceLT, Nat.reduceAdd, Nat.reduceSub, Nat.reduceMul, Nat.reduceLeDiff, Nat.reducePow, Int.reduceLT, Int.reduceToNat, reduceCtorEq, Int.reduceNeg, Int.reduceEq, Nat.reduceBEq, Nat.reduceBNe, Int.reduceBEq, Int.reduceBNe, String.reduceEq]) ?_
    simp only [push_cast, reduceIte, Nat.reduceEqDiff, Nat.reduceLT, Nat.reduceAdd, Nat.reduceSub, Nat.reduceMul, Nat.reduceLeDiff, Nat.reducePow, Int.reduceLT, Int.reduceToNat, reduceCtorEq, Int.reduceNeg, Int.reduceEq, Nat.reduceBEq, Nat.reduceBNe, Int.reduceBEq, Int.reduceBNe, String.reduceEq]
    refine AWp.loopK [1, 4] (fun (i : Nat) => [(5, nat (4 + 2 * i))]) (fun i => [.box 28 [u16 n.ty, .sl false 1 (bys n.data), .sl false 3 (nodesA false n.kids)], .row 22 1 (u16s (ns.take i))]) (fun i => i ≤ ns.length) (fun i => ns.length - i) (0) ?_ (Nat.zero_le _) ?_
    · skip
      refine Le.m 2 ?_ ?_
      · first | with_reducible rfl | (simp only [push_cast, reduceIte, Nat.reduceEqDiff, Nat.reduceLT, Nat.reduceAdd, Nat.reduceSub, Nat.reduceMul, Nat.reduceLeDiff, Nat.reducePow, Int.reduceLT, Int.reduceToNat, reduceCtorEq, Int.reduceNeg, Int.reduceEq, Nat.reduceBEq, Nat.reduceBNe, Int.reduceBEq, Int.reduceBNe, String.reduceEq]; first | done | rfl | (simp (disch := omega) only [w_nat, w_add, w_addl, w_addr, w_sub, w_subl, w_mul, w_mull, w_mulr, w_u32, w_u16, w_u8, w_u32a, N_zero]; first | done | rfl))
      · first | (simp only [push_cast, reduceIte, Nat.reduceEqDiff, Nat.reduceLT, Nat.reduceAdd, Nat.reduceSub, Nat.reduceMul, Nat.reduceLeDiff, Nat.reducePow, Int.reduceLT, Int.reduceToNat, reduceCtorEq, Int.reduceNeg, Int.reduceEq, Nat.reduceBEq, Nat.reduceBNe, Int.reduceBEq, Int.reduceBNe, String.reduceEq]; first | done | rfl | (simp (disch := omega) only [w_nat, w_add, w_addl, w_addr, w_sub, w_subl, w_mul, w_mull, w_mulr, w_u32, w_u16, w_u8, w_u32a, N_zero]; first | done | rfl))
    · intro i hi K4 hK4
      refine AWp.seqK fun K5 hK5 => ?_
      refine AWp.regionW ?_
      refine AWp.condLM (fun c1 => ?_) (fun c1 => ?_)
      · skip
        have hlt : 4 + 2 * i < n.data.length := by simpa using c1
        have hil : i < ns.length := by omega
        have hai := hat i hil
        refine AWp.skip ?_
        refine hK5 _ ?_
        refine AWp.seqK fun K6 hK6 => ?_
        refine AWp.block ?_
        refine AWp.drE [[(4, none)], [(1, none)], [(22, some 1)], [(5, none)], [(23, some 2), (24, some 3)], [(25, some 4)], [(26, some 5)], [(27, some 6)], [(1, none)], [(29, some 8)], [(5, none)], [(31, some 10)], [(30, some 9), (32, some 11)], [(33, some 12)], [(34, some 13)], [(28, some 7), (35, some 14)], [(36, some 15)]] fun G hG => ?_
        refine Dr.sim ?_
        try simp only [List.cons_append, List.nil_append]
        refine Dr.sim ?_
        try simp only [List.cons_append, List.nil_append]
        refine Dr.sim ?_
        try simp only [List.cons_append, List.nil_append]
        refine Dr.sim ?_
        try simp only [List.cons_append, List.nil_append]
        refine Dr.idx (4 + 2 * i) (.val (.int .u8 (N (n.data[4 + 2 * i]'(by omega)).toNat))) ?_ ?_
        · exact bys_at _ _ (by omega)
        try simp only [List.cons_append, List.nil_append]
        refine Dr.sim ?_
        try simp only [List.cons_append, List.nil_append]
        refine Dr.sim ?_
        try simp only [List.cons_append, List.nil_append]
        refine Dr.sim ?_
        try simp only [List.cons_append, List.nil_append]
        refine Dr.sim ?_
        try simp only [List.cons_append, List.nil_append]
        refine Dr.sim ?_
        try simp only [List.cons_append, List.nil_append]
        refine Dr.sim ?_
        try simp only [List.cons_append, List.nil_append]
        refine Dr.sim ?_
        try simp only [List.cons_append, List.nil_append]
        refine Dr.idx (4 + 2 * i + 1) (.val (.int .u8 (N (n.data[4 + 2 * i + 1]'(by omega)).toNat))) ?_ ?_
        · exact bys_at _ _ (by omega)
        try simp only [List.cons_append, List.nil_append]
        refine Dr.sim ?_
        try simp only [List.cons_append, List.nil_append]
        refine Dr.sim ?_
        try simp only [List.cons_append, List.nil_append]
        refine Dr.sim ?_
        try simp only [List.cons_append, List.nil_append]
        refine Dr.build ?_
        try simp only [List.cons_append, List.nil_append]
        refine Dr.finN (n := 17) [(21, 0), (37, 16)] [1, 5] hG Ytmcedkcehcacpaa.Facts.mixed fun KD hKD => ?_
        refine ARun2.appendM ?_ ?_ ?_
        · rw [Ytmcedkcehcacpaa.Facts.eb37, u16s_len, List.length_take, List.length_cons, List.length_nil]; omega
        · rw [u16s_len, List.length_take, List.length_cons, List.length_nil]; omega
        refine ARun2.endm (hKD _ ?_); clear hKD KD hG G
        refine hK6 _ ?_
        refine AWp.regionV ?_
        refine hK4 _ (i + 1) (by omega) (by omega) ?_
        refine Le.m 2 ?_ ?_
        · try simp only [push_cast, reduceIte, Nat.reduceEqDiff, Nat.reduceLT, Nat.reduceAdd, Nat.reduceSub, Nat.reduceMul, Nat.reduceLeDiff, Nat.reducePow, Int.reduceLT, Int.reduceToNat, reduceCtorEq, Int.reduceNeg, Int.reduceEq, Nat.reduceBEq, Nat.reduceBNe, Int.reduceBEq, Int.reduceBNe, String.reduceEq]
          try simp (disch := omega) only [w_nat, w_add, w_addl, w_addr, w_sub, w_subl, w_mul, w_mull, w_mulr, w_u32, w_u16, w_u8, w_u32a, N_zero]
          first | done | skip
          rw [two_u16, List.take_succ_eq_append_getElem hil, u16s_snoc, hai]
        · first | (simp only [push_cast, reduceIte, Nat.reduceEqDiff, Nat.reduceLT, Nat.reduceAdd, Nat.reduceSub, Nat.reduceMul, Nat.reduceLeDiff, Nat.reducePow, Int.reduceLT, Int.reduceToNat, reduceCtorEq, Int.reduceNeg, Int.reduceEq, Nat.reduceBEq, Nat.reduceBNe, Int.reduceBEq, Int.reduceBNe, String.reduceEq]; first | done | rfl | (simp (disch := omega) only [w_nat, w_add, w_addl, w_addr, w_sub, w_subl, w_mul, w_mull, w_mulr, w_u32, w_u16, w_u8, w_u32a, N_zero]; first | done | rfl))
      · skip
        have hge : n.data.length ≤ 4 + 2 * i := by simpa using c1
        have hil : i = ns.length := by omega
        subst hil
        refine AWp.exit ?_
        simp only [thenQ, blockQ, reduceIte, Nat.reduceEqDiff]
        refine hK3 _ ?_
        refine AWp.pubD 1 ?_
        rw [List.take_length]
        refine AWp.regionW ?_
        refine AWp.ret ?_
        try simp only [thenQ, blockQ]
        refine bodyQ.m ?_
        clear hK5 K5 hK4 K4 hK3 K3 hK2 K2 hK1 K1
        rw [hr]
        first | done | exact Hand.go

theorem check4 (t : Nat) (d : List UInt8) (ht : t = 1 ∨ t = 3 ∨ t = 9) (hd : d.length = 4) : checkN 2 1 (.mk t d []) = 0 := by
  have hb : badN 2 t 4 [] = false := by rcases ht with rfl | rfl | rfl <;> rfl
  have hc : countedN 2 t d = false := by
    unfold countedN
    rcases ht with rfl | rfl | rfl <;> rfl
  have hs : nSize [GNode.mk t d []] = 8 := by simp [nSize, nLens, vlen, tlvSize, sumUp, upN, gapN, hd]
  rw [checkN_eq]
  simp only [GNode.ty_mk, GNode.data_mk, GNode.kids_mk, hd, hb, hc, hs]
  simp [checkL]
theorem putB2_be (a b : UInt8) : putB 2 (beN [a, b]) = [a, b] := by
  have ha := a.toNat_lt
  have hb := b.toNat_lt
  rw [putB2, twoB]
  have e : beN [a, b] = a.toNat * 256 + b.toNat := by simp [beN]
  rw [e]
  congr 1
  · apply UInt8.toNat_inj.1; rw [UInt8.toNat_ofNat']; omega
  · congr 1; apply UInt8.toNat_inj.1; rw [UInt8.toNat_ofNat']; omega
theorem putB4_eq (x : Nat) : putB 4 x = [UInt8.ofNat (x / 256 ^ 3), UInt8.ofNat (x / 256 ^ 2), UInt8.ofNat (x / 256), UInt8.ofNat x] := by
  simp [putB, List.range_succ]
theorem putB4_be (a b c e : UInt8) : putB 4 (beN [a, b, c, e]) = [a, b, c, e] := by
  have ha := a.toNat_lt
  have hb := b.toNat_lt
  have hc := c.toNat_lt
  have hd := e.toNat_lt
  have h : beN [a, b, c, e] = ((a.toNat * 256 + b.toNat) * 256 + c.toNat) * 256 + e.toNat := by simp [beN]
  rw [putB4_eq, h]
  congr 1
  · apply UInt8.toNat_inj.1; rw [UInt8.toNat_ofNat']; omega
  · congr 1
    · apply UInt8.toNat_inj.1; rw [UInt8.toNat_ofNat']; omega
    · congr 1
      · apply UInt8.toNat_inj.1; rw [UInt8.toNat_ofNat']; omega
      · congr 1; apply UInt8.toNat_inj.1; rw [UInt8.toNat_ofNat']; omega

theorem numberN_1 (v : Nat) (hv : v < 65536) : numberN 1 v = (.mk 1 (putB 2 v ++ putB 2 0) [], true) := by
  have h := check4 1 (putB 2 v ++ putB 2 0) (by omega) (by simp [putB_len])
  unfold numberN rightN
  rw [if_pos rfl, h, decide_eq_true (by omega)]; rfl
theorem numberN_3 (t v : Nat) (ht : t = 3 ∨ t = 9) : numberN t v = (.mk t (putB 4 v) [], true) := by
  have h := check4 t (putB 4 v) (by omega) (by simp [putB_len])
  unfold numberN rightN
  rw [if_neg (by omega), if_pos ht, h]; rfl
theorem numsA_first2 (d : List UInt8) : numsA 2 d = [] ∨ ∃ a b r ns, d = a :: b :: r ∧ numsA 2 d = beN [a, b] :: ns := by
  unfold numsA
  split
  · match d with
    | [] => exact .inl rfl
    | [a] => rename_i h; simp at h
    | a :: b :: r => exact .inr ⟨a, b, r, _, rfl, nums_cons 2 (by omega) [a, b] r rfl⟩
  · exact .inl rfl
theorem numsA_first4 (d : List UInt8) : numsA 4 d = [] ∨ ∃ a b c e r ns, d = a :: b :: c :: e :: r ∧ numsA 4 d = beN [a, b, c, e] :: ns := by
  unfold numsA
  split
  · match d with
    | [] => exact .inl rfl
    | [a] => rename_i h; simp at h
    | [a, b] => rename_i h; simp at h
    | [a, b, c] => rename_i h; simp at h
    | a :: b :: c :: e :: r => exact .inr ⟨a, b, c, e, r, _, rfl, nums_cons 4 (by omega) [a, b, c, e] r rfl⟩
  · exact .inl rfl
theorem numsA_len4 (k : Nat) (d : List UInt8) (hk : k = 2 ∨ k = 4) (h : numsA k d = []) : d.length ≠ 4 := by
  intro h4
  unfold numsA at h
  rw [if_pos (by rcases hk with rfl | rfl <;> rw [h4])] at h
  have := congrArg List.length h
  rw [nums_len, h4] at this
  rcases hk with rfl | rfl <;> simp at this
theorem same_mk (t : Nat) (d : List UInt8) (n : GNode) (ht : n.ty = t) : sameN (.mk t d []) n = (decide (n.data = d) && (n.kids.length == 0)) := by
  rw [Bool.eq_iff_iff, sameN_iff]
  cases n with
  | mk t' d' k' =>
    simp only [GNode.ty, GNode.data, GNode.kids] at *
    subst ht
    simp
    intro _
    exact ⟨fun h => decide_eq_true h.symm, fun h => (of_decide_eq_true h).symm⟩

theorem value_eq (n : GNode) : valueN n = (if (refValueN n).2 = true then (refValueN n).1 else 0, (refValueN n).2) := by
  by_cases h1 : n.ty = 1
  · unfold valueN
    rw [if_pos h1]
    rcases numsA_first2 n.data with hq | ⟨a, b, r, ns, hd, hq⟩
    · rw [hq]
      have h4 := numsA_len4 2 n.data (.inl rfl) hq
      have : refValueN n = (0, false) := if_pos (.inl h4)
      rw [this]; rfl
    · rw [hq]
      have hv : beN [a, b] < 65536 := beN_lt2 [a, b] 2 (Nat.le_refl _)
      simp only [h1, numberN_1 _ hv, same_mk 1 _ n h1, putB2_be]
      rw [hd]
      by_cases hr : r = [0, 0] ∧ n.kids.length = 0
      · obtain ⟨rfl, hk⟩ := hr
        have h0 : ¬ (n.data.length ≠ 4 ∨ 0 < n.kids.length ∨ (n.ty ≠ 1 ∧ n.ty ≠ 3 ∧ n.ty ≠ 9)) := by rw [hd, hk, h1]; simp
        have hb : beN n.data = beN [a, b] * 65536 := by rw [hd]; simp [beN]; omega
        have hrv : refValueN n = (beN [a, b], true) := by
          unfold refValueN
          rw [if_neg h0, if_pos h1, hb]
          simp
        have hp : putB 2 0 = [0, 0] := rfl
        rw [hrv, hp]
        simp [hk]
      · have hp : putB 2 0 = [0, 0] := rfl
        have hf : (decide (a :: b :: r = [a, b] ++ putB 2 0) && (n.kids.length == 0)) = false := by
          rw [hp]
          cases hz : (decide (a :: b :: r = [a, b] ++ [0, 0]) && (n.kids.length == 0)) with
          | false => rfl
          | true =>
            exfalso
            simp at hz
            exact hr ⟨hz.1, by simp [hz.2]⟩
        rw [hf]
        have hrv : (refValueN n).2 = false := by
          unfold refValueN
          split
          · rfl
          · rename_i h0
            have hl4 : n.data.length = 4 := by omega
            have hk0 : n.kids.length = 0 := by omega
            rw [hd] at hl4
            match r, hl4 with
            | [c, e], _ =>
              rw [hd]
              have hb : beN [a, b, c, e] = beN [a, b] * 65536 + (c.toNat * 256 + e.toNat) := by simp [beN]; omega
              have hc := c.toNat_lt
              have he := e.toNat_lt
              simp only [hb, beq_eq_false_iff_ne, ne_eq]
              intro hz
              have hc0 : c = 0 := by apply UInt8.toNat_inj.1; show c.toNat = 0; omega
              have he0 : e = 0 := by apply UInt8.toNat_inj.1; show e.toNat = 0; omega
              exact hr ⟨by rw [hc0, he0], hk0⟩
        rw [hrv]
        simp
  · unfold valueN
    rw [if_neg h1]
    by_cases h3 : n.ty = 3 ∨ n.ty = 9
    · rcases numsA_first4 n.data with hq | ⟨a, b, c, e, r, ns, hd, hq⟩
      · rw [hq]
        have h4 := numsA_len4 4 n.data (.inr rfl) hq
        have : refValueN n = (0, false) := if_pos (.inl h4)
        rw [this]; rfl
      · rw [hq]
        simp only [numberN_3 n.ty _ h3, same_mk n.ty _ n rfl, putB4_be]
        by_cases hr : r = [] ∧ n.kids.length = 0
        · obtain ⟨rfl, hk⟩ := hr
          have h0 : ¬ (n.data.length ≠ 4 ∨ 0 < n.kids.length ∨ (n.ty ≠ 1 ∧ n.ty ≠ 3 ∧ n.ty ≠ 9)) := by rw [hd, hk]; simp; omega
          have hrv : refValueN n = (beN [a, b, c, e], true) := by
            unfold refValueN
            rw [if_neg h0, if_neg h1, hd]
          rw [hrv, hd]
          simp [hk]
        · have hf : (decide (n.data = [a, b, c, e]) && (n.kids.length == 0)) = false := by
            cases hz : (decide (n.data = [a, b, c, e]) && (n.kids.length == 0)) with
            | false => rfl
            | true =>
              exfalso
              rw [hd] at hz
              simp at hz
              exact hr ⟨hz.1, by simp [hz.2]⟩
          rw [hf]
          have hrv : (refValueN n) = (0, false) := by
            refine if_pos ?_
            by_cases hl : n.data.length = 4
            · rw [hd] at hl
              have : r = [] := by cases r <;> simp_all
              exact .inr (.inl (Nat.pos_of_ne_zero fun hk => hr ⟨this, hk⟩))
            · exact .inl hl
          rw [hrv]
          simp
    · have hn : ∀ v, numberN n.ty v = (.zero, false) := by
        intro v
        unfold numberN
        rw [if_neg h1, if_neg h3]; rfl
      have hrv : refValueN n = (0, false) := if_pos (.inr (.inr (by omega)))
      rw [hrv]
      cases numsA 4 n.data with
      | nil => rfl
      | cons v l => simp [hn]
end Go.Proofs.Ytmcedkcehcacpaa.C
