/- dispose.Of. -/
import Derived.Test.YtldoehmlpdpiaaaGreatDoorN4
import Derived.WalkKit
import Derived.ProofKit
import Derived.OpenShut
import Derived.JoinedCond
import Derived.Carry
import Derived.ChangeSlices
import Derived.Test.YtldoehmlpdpiaaaGreatDoorRows
import Derived.Deep.Strs
import Derived.LaidLaws
import Derived.LaidHandle
import Derived.Stop.Joined
import Derived.Test.YtldoehmlpdpiaaaGreatDoorCards
import Derived.Test.YtldoehmlpdpiaaaGreatDoorTie
import Derived.Deep.DeepHandedRow
set_option linter.unusedVariables false
set_option linter.unusedSimpArgs false
namespace Go.Proofs.YtldoehmlpdpiaaaGreatDoor.C
open Go.Abs
structure Chs (l : List GChunk) : Prop where
  len : l.length ≤ 2 ^ 10
  sm : ∀ c ∈ l, Small c ∧ tysOk c.kids = true
  ok : rightO l
theorem nodesA_app (b : Bool) : ∀ l m : List GNode, nodesA b (l ++ m) = nodesA b l ++ nodesA b m
  | [], m => by rw [nodesA_nil]; rfl
  | n :: l, m => by rw [List.cons_append, nodesA_cons, nodesA_cons, nodesA_app b l m]; rfl
theorem clean_len2 (c : GChunk) (h : Small c) : (cleanC c).2.length ≤ 2 ^ 26 := by
  unfold cleanC
  split
  · have h1 := (disF_none (fun n : GNode => actP n.ty) c.kids).2
    have h2 := szs_len c.kids
    have h3 := h.kids
    show ((disF _ _).2.1.map wrapN).length ≤ _
    rw [List.length_map]; omega
  · simp
theorem flat_len {α β : Type} (f : α → List β) (b : Nat) : ∀ l : List α, (∀ x ∈ l, (f x).length ≤ b) → (l.flatMap f).length ≤ l.length * b
  | [], _ => by simp
  | x :: l, h => by
    have h1 := h x (by simp)
    have h2 := flat_len f b l (fun y hy => h y (by simp [hy]))
    rw [List.flatMap_cons, List.length_append, List.length_cons, Nat.add_mul, Nat.one_mul]
    omega
set_option maxRecDepth 100000 in
set_option maxHeartbeats 1000000 in
theorem dof24_c (p : GPkt) (h : Chs p.l) : PC Tryz.prog 10 [pktA false p] (resA false (disO p.l)) := by
  obtain ⟨hlen, hsm, hok⟩ := h
  obtain ⟨src, dst, tag, l⟩ := p
  simp only at hlen hsm hok
  obtain ⟨acts, hacts⟩ : ∃ acts, acts = l.map fun c => actC c.ty := ⟨_, rfl⟩
  have hal : acts.length = l.length := by rw [hacts, List.length_map]
  have kpl := play_c acts (by omega)
  obtain ⟨q1, q2⟩ := playF_lt acts 0
  have hpl := playF_len acts 0
  have hpd := pick_dis (fun c : GChunk => actC c.ty) .zero l
  rw [← hacts] at hpd
  obtain ⟨d1, d2, d3⟩ := hpd
  have kp1 := pickC_c l (playF 0 acts).1 (by omega) (by omega) (fun j hj => by have := q1 j hj; omega)
  have kp2 := pickC_c l (playF 0 acts).2.1 (by omega) (by omega) (fun j hj => by have := q2 j hj; omega)
  rw [d1] at kp1
  rw [d2] at kp2
  rw [d3] at kpl
  have hdl := disF_none (fun c : GChunk => actC c.ty) l
  obtain ⟨hm1, hm2⟩ := disF_mem (fun c : GChunk => actC c.ty) l
  have hr : disO l = ⟨(disF (fun c : GChunk => actC c.ty) l).1.map fun c => (cleanC c).1, (disF (fun c : GChunk => actC c.ty) l).2.1.map repC, (disF (fun c : GChunk => actC c.ty) l).1.flatMap fun c => (cleanC c).2, (disF (fun c : GChunk => actC c.ty) l).2.2⟩ := rfl
  generalize (disF (fun c : GChunk => actC c.ty) l).1 = D at hr hdl hm1 kp1
  generalize (disF (fun c : GChunk => actC c.ty) l).2.1 = R at hr hdl hm2 kp2
  generalize (disF (fun c : GChunk => actC c.ty) l).2.2 = st at hr kpl
  generalize (playF 0 acts).1 = P at kpl kp1
  generalize (playF 0 acts).2.1 = S at kpl kp2
  refine PC.of_bodyW (by simp only [push_cast]) Tryz.func10 rfl (by rw [Tryz.ntmps10]; simp) ?_
  refine AWp.regionW ?_
  refine AWp.regionW ?_
  refine AWp.seqK fun K1 hK1 => ?_
  refine AWp.regionW ?_
  refine AWp.block ?_
  -- SLOTS THAT TURN AND ARE NOT TOLD: [3]
  refine AWp.nilOwn 3 3 1 (by simp only [push_cast, ↓reduceIte, Nat.reduceEqDiff, Nat.reduceLT, Nat.reduceAdd, Nat.reduceSub, Nat.reduceMul, Nat.reduceLeDiff, Nat.reducePow, Int.reduceLT, Int.reduceToNat, reduceCtorEq, Int.reduceNeg, Int.reduceEq, Nat.reduceBEq, Nat.reduceBNe, Int.reduceBEq, Int.reduceBNe, String.reduceEq]) ?_
  simp only [push_cast, ↓reduceIte, Nat.reduceEqDiff, Nat.reduceLT, Nat.reduceAdd, Nat.reduceSub, Nat.reduceMul, Nat.reduceLeDiff, Nat.reducePow, Int.reduceLT, Int.reduceToNat, reduceCtorEq, Int.reduceNeg, Int.reduceEq, Nat.reduceBEq, Nat.reduceBNe, Int.reduceBEq, Int.reduceBNe, String.reduceEq]
  refine AWp.loopK [1, 2, 3, 21, 22] (fun (i : Nat) => [(23, nat i)]) (fun i => [.box 28 [u16 src, u16 dst, u32 tag, .sl false 4 (chunksA false l)], .box 33 [.val (.slice none 0 0), .val (.slice none 0 0), .val (.slice none 0 0), bool false], .row 3 1 (nats (acts.take i))]) (fun i => i ≤ l.length) (fun i => l.length - i) (0) ?_ (Nat.zero_le _) ?_
  · skip
    refine Le.m 3 ?_ ?_
    · try simp only [push_cast, ↓reduceIte, Nat.reduceEqDiff, Nat.reduceLT, Nat.reduceAdd, Nat.reduceSub, Nat.reduceMul, Nat.reduceLeDiff, Nat.reducePow, Int.reduceLT, Int.reduceToNat, reduceCtorEq, Int.reduceNeg, Int.reduceEq, Nat.reduceBEq, Nat.reduceBNe, Int.reduceBEq, Int.reduceBNe, String.reduceEq]
      try simp (disch := omega) only [w_nat, w_add, w_addl, w_addr, w_sub, w_subl, w_mul, w_mull, w_mulr, w_u32, w_u16, w_u8, w_u32a, N_zero]
      first | done | skip
      try rfl
    · exact Go.Abs.evN
  · intro i hi K2 hK2
    refine AWp.regionW ?_
    refine AWp.seqK fun K3 hK3 => ?_
    refine AWp.condLM (fun c0 => ?_) (fun c0 => ?_)
    · skip
      have hil : i < l.length := by simpa using c0
      have kac := acc_c l[i].ty (hsm _ (List.getElem_mem hil)).1.ty
      have hai : acts[i]'(by omega) = actC l[i].ty := by simp [hacts]
      refine AWp.skip ?_
      refine hK3 _ ?_
      refine AWp.seqK fun K4 hK4 => ?_
      refine AWp.block ?_
      refine AWp.regionM fun K5 hK5 => ?_
      refine ARun2.indexM (i) (chunkA false l[i]) ?_ ?_
      · exact chunksA_at _ _ _ hil
      refine ARun2.endm (hK5 _ ?_)
      refine AWp.regionN fun K6 hK6 => ?_
      refine ARun2.callM (kac) ?_
      refine ARun2.appendM ?_ ?_ ?_
      · rw [YtldoehmlpdpiaaaGreatDoor.Facts.eb56, nats_len, List.length_take, List.length_cons, List.length_nil]; omega
      · rw [nats_len, List.length_take, List.length_cons, List.length_nil]; omega
      refine ARun2.endm (hK6 _ ?_)
      refine hK4 _ ?_
      refine AWp.regionV ?_
      refine hK2 _ (i + 1) (by omega) (by omega) ?_
      refine Le.m 3 ?_ ?_
      · try simp only [push_cast, ↓reduceIte, Nat.reduceEqDiff, Nat.reduceLT, Nat.reduceAdd, Nat.reduceSub, Nat.reduceMul, Nat.reduceLeDiff, Nat.reducePow, Int.reduceLT, Int.reduceToNat, reduceCtorEq, Int.reduceNeg, Int.reduceEq, Nat.reduceBEq, Nat.reduceBNe, Int.reduceBEq, Int.reduceBNe, String.reduceEq]
        try simp (disch := omega) only [w_nat, w_add, w_addl, w_addr, w_sub, w_subl, w_mul, w_mull, w_mulr, w_u32, w_u16, w_u8, w_u32a, N_zero]
        first | done | skip
        rw [List.take_succ_eq_append_getElem (by omega), natsSnoc, hai]
      · exact Go.Abs.evN
    · skip
      have hil : i = l.length := by simp at c0; omega
      subst hil
      rw [← hal, List.take_length]
      refine AWp.exit ?_
      try simp only [thenQ, blockQ, noGo, reduceIte, Nat.reduceEqDiff]
      refine hK1 _ ?_
      refine AWp.pubD 2 ?_
      refine AWp.regionM fun K7 hK7 => ?_
      refine ARun2.callM (kpl) ?_
      refine ARun2.endm (hK7 _ ?_)
      refine AWp.regionW ?_
      refine AWp.seqK fun K8 hK8 => ?_
      refine AWp.regionM fun K9 hK9 => ?_
      refine ARun2.callM (kp2) ?_
      refine ARun2.endm (hK9 _ ?_)
      refine AWp.block ?_
      refine AWp.nilBox 3 1 49 3 rfl rfl ?_
      simp only [push_cast, ↓reduceIte, Nat.reduceEqDiff, Nat.reduceLT, Nat.reduceAdd, Nat.reduceSub, Nat.reduceMul, Nat.reduceLeDiff, Nat.reducePow, Int.reduceLT, Int.reduceToNat, reduceCtorEq, Int.reduceNeg, Int.reduceEq, Nat.reduceBEq, Nat.reduceBNe, Int.reduceBEq, Int.reduceBNe, String.reduceEq]
      refine AWp.loopK [1, 2, 6, 9, 45, 46] (fun (i : Nat) => [(47, nat i)]) (fun i => [.box 28 [u16 src, u16 dst, u32 tag, .sl false 4 (chunksA false l)], .box 33 [.val (.slice none 0 0), .val (.slice none 0 0), .val (.slice none 0 0), bool false], .gone, .box 33 [.val (.slice none 0 0), .own 4, .val (.slice none 0 0), bool st], .row 49 3 (nodesA true ((R.take i).map repC))]) (fun i => i ≤ R.length) (fun i => R.length - i) (0) ?_ (Nat.zero_le _) ?_
      · skip
        refine Le.m 5 ?_ ?_
        · try simp only [push_cast, ↓reduceIte, Nat.reduceEqDiff, Nat.reduceLT, Nat.reduceAdd, Nat.reduceSub, Nat.reduceMul, Nat.reduceLeDiff, Nat.reducePow, Int.reduceLT, Int.reduceToNat, reduceCtorEq, Int.reduceNeg, Int.reduceEq, Nat.reduceBEq, Nat.reduceBNe, Int.reduceBEq, Int.reduceBNe, String.reduceEq]
          try simp (disch := omega) only [w_nat, w_add, w_addl, w_addr, w_sub, w_subl, w_mul, w_mull, w_mulr, w_u32, w_u16, w_u8, w_u32a, N_zero]
          first | done | skip
          try rfl
        · exact Go.Abs.evN
      · intro i hi K10 hK10
        refine AWp.regionW ?_
        refine AWp.seqK fun K11 hK11 => ?_
        refine AWp.condLM (fun c1 => ?_) (fun c1 => ?_)
        · skip
          have hil : i < R.length := by simpa using c1
          obtain ⟨c, hc⟩ : ∃ c, c = R[i] := ⟨_, rfl⟩
          have hcm := hm2 c (by rw [hc]; exact List.getElem_mem hil)
          obtain ⟨s1, s2⟩ := hsm c hcm.1
          obtain ⟨o1, o2⟩ := hok c hcm.1
          obtain ⟨b1, b2⟩ := rep_bytes o1 o2 (actC_unk hcm.2)
          have ke := cenc_c c s1 s2
          rw [show encC c = bytesC c from if_pos o1, o1] at ke
          have kc := chunk_f (bytesC c) (by omega)
          rw [show chunkN (bytesC c) = (repC c, true) from repC_right o1 o2 (actC_unk hcm.2)] at kc
          have hat : (chunksA false R)[i]? = some (chunkA false c) := by rw [hc]; exact chunksA_at _ _ _ hil
          refine AWp.skip ?_
          refine hK11 _ ?_
          refine AWp.seqK fun K12 hK12 => ?_
          refine AWp.block ?_
          refine AWp.regionM fun K13 hK13 => ?_
          refine ARun2.indexM (i) (chunkA false c) ?_ ?_
          · exact hat
          refine ARun2.endm (hK13 _ ?_)
          refine AWp.regionM fun K14 hK14 => ?_
          refine ARun2.callM (ke) ?_
          refine ARun2.endm (hK14 _ ?_)
          refine AWp.regionM fun K15 hK15 => ?_
          refine ARun2.callM (kc) ?_
          refine ARun2.endm (hK15 _ ?_)
          refine AWp.regionW ?_
          refine AWp.condT ?_
          refine AWp.regionN fun K16 hK16 => ?_
          refine ARun2.appendM ?_ ?_ ?_
          · rw [YtldoehmlpdpiaaaGreatDoor.Facts.eb31, nodesA_len, List.length_map, List.length_take, List.length_cons, List.length_nil]; omega
          · rw [nodesA_len, List.length_map, List.length_take, List.length_cons, List.length_nil]; omega
          refine ARun2.endm (hK16 _ ?_)
          refine hK12 _ ?_
          refine AWp.regionV ?_
          refine hK10 _ (i + 1) (by omega) (by omega) ?_
          refine Le.m 5 ?_ ?_
          · try simp only [push_cast, ↓reduceIte, Nat.reduceEqDiff, Nat.reduceLT, Nat.reduceAdd, Nat.reduceSub, Nat.reduceMul, Nat.reduceLeDiff, Nat.reducePow, Int.reduceLT, Int.reduceToNat, reduceCtorEq, Int.reduceNeg, Int.reduceEq, Nat.reduceBEq, Nat.reduceBNe, Int.reduceBEq, Int.reduceBNe, String.reduceEq]
            try simp (disch := omega) only [w_nat, w_add, w_addl, w_addr, w_sub, w_subl, w_mul, w_mull, w_mulr, w_u32, w_u16, w_u8, w_u32a, N_zero]
            first | done | skip
            rw [List.take_succ_eq_append_getElem hil, List.map_append, ← hc, List.map_cons, List.map_nil, nodesA_snoc, nodeA_eq]
          · exact Go.Abs.evN
        · skip
          have hil : i = R.length := by simp at c1; omega
          subst hil
          rw [List.take_length]
          refine AWp.exit ?_
          try simp only [thenQ, blockQ, noGo, reduceIte, Nat.reduceEqDiff]
          refine hK8 _ ?_
          refine AWp.seqK fun K17 hK17 => ?_
          refine AWp.regionM fun K18 hK18 => ?_
          refine ARun2.callM (kp1) ?_
          refine ARun2.endm (hK18 _ ?_)
          refine AWp.block ?_
          refine AWp.nilBox 3 0 42 4 rfl rfl ?_
          simp only [push_cast, ↓reduceIte, Nat.reduceEqDiff, Nat.reduceLT, Nat.reduceAdd, Nat.reduceSub, Nat.reduceMul, Nat.reduceLeDiff, Nat.reducePow, Int.reduceLT, Int.reduceToNat, reduceCtorEq, Int.reduceNeg, Int.reduceEq, Nat.reduceBEq, Nat.reduceBNe, Int.reduceBEq, Int.reduceBNe, String.reduceEq]
          refine AWp.nilBox 3 2 49 3 rfl rfl ?_
          simp only [push_cast, ↓reduceIte, Nat.reduceEqDiff, Nat.reduceLT, Nat.reduceAdd, Nat.reduceSub, Nat.reduceMul, Nat.reduceLeDiff, Nat.reducePow, Int.reduceLT, Int.reduceToNat, reduceCtorEq, Int.reduceNeg, Int.reduceEq, Nat.reduceBEq, Nat.reduceBNe, Int.reduceBEq, Int.reduceBNe, String.reduceEq]
          refine AWp.loopK [2, 9, 72, 73] (fun (i : Nat) => [(74, nat i)]) (fun i => [.box 28 [u16 src, u16 dst, u32 tag, .sl false 4 (chunksA false l)], .box 33 [.val (.slice none 0 0), .val (.slice none 0 0), .val (.slice none 0 0), bool false], .gone, .box 33 [.own 5, .own 4, .own 6, bool st], .row 49 3 (nodesA true (R.map repC)), .row 42 4 (chunksA false ((D.take i).map fun c => (cleanC c).1)), .row 49 3 (nodesA false ((D.take i).flatMap fun c => (cleanC c).2))]) (fun i => i ≤ D.length) (fun i => D.length - i) (0) ?_ (Nat.zero_le _) ?_
          · skip
            refine Le.m 7 ?_ ?_
            · try simp only [push_cast, ↓reduceIte, Nat.reduceEqDiff, Nat.reduceLT, Nat.reduceAdd, Nat.reduceSub, Nat.reduceMul, Nat.reduceLeDiff, Nat.reducePow, Int.reduceLT, Int.reduceToNat, reduceCtorEq, Int.reduceNeg, Int.reduceEq, Nat.reduceBEq, Nat.reduceBNe, Int.reduceBEq, Int.reduceBNe, String.reduceEq]
              try simp (disch := omega) only [w_nat, w_add, w_addl, w_addr, w_sub, w_subl, w_mul, w_mull, w_mulr, w_u32, w_u16, w_u8, w_u32a, N_zero]
              first | done | skip
              try rfl
            · exact Go.Abs.evN
          · intro i hi K19 hK19
            refine AWp.regionW ?_
            refine AWp.seqK fun K20 hK20 => ?_
            refine AWp.condLM (fun c3 => ?_) (fun c3 => ?_)
            · skip
              have hil : i < D.length := by simpa using c3
              obtain ⟨c, hc⟩ : ∃ c, c = D[i] := ⟨_, rfl⟩
              have hcm := hm1 c (by rw [hc]; exact List.getElem_mem hil)
              obtain ⟨s1, s2⟩ := hsm c hcm.1
              have kcl := dclean_c c s1 s2
              have hat : (chunksA false D)[i]? = some (chunkA false c) := by rw [hc]; exact chunksA_at _ _ _ hil
              have hfl := flat_len (fun c : GChunk => (cleanC c).2) (2 ^ 26) (D.take i) (fun x hx => clean_len2 x (hsm x (hm1 x (List.mem_of_mem_take hx)).1).1)
              rw [List.length_take] at hfl
              have hfl2 : (min i D.length) * 2 ^ 26 ≤ 2 ^ 10 * 2 ^ 26 := Nat.mul_le_mul_right _ (by omega)
              have hcl2 := clean_len2 c s1
              obtain ⟨X, hX⟩ : ∃ X, X = cleanC c := ⟨_, rfl⟩
              rw [← hX] at kcl hcl2
              refine AWp.skip ?_
              refine hK20 _ ?_
              refine AWp.seqK fun K21 hK21 => ?_
              refine AWp.block ?_
              refine AWp.regionM fun K22 hK22 => ?_
              refine ARun2.indexM (i) (chunkA false c) ?_ ?_
              · exact hat
              refine ARun2.endm (hK22 _ ?_)
              refine AWp.regionM fun K23 hK23 => ?_
              refine ARun2.callM (kcl) ?_
              refine ARun2.endm (hK23 _ ?_)
              refine AWp.regionM fun K24 hK24 => ?_
              refine ARun2.appendM ?_ ?_ ?_
              · rw [YtldoehmlpdpiaaaGreatDoor.Facts.eb26, chunksA_len, List.length_map, List.length_take, List.length_cons, List.length_nil]; omega
              · rw [chunksA_len, List.length_map, List.length_take, List.length_cons, List.length_nil]; omega
              refine ARun2.endm (hK24 _ ?_)
              refine AWp.regionN fun K25 hK25 => ?_
              refine ARun2.appendM ?_ ?_ ?_
              · rw [YtldoehmlpdpiaaaGreatDoor.Facts.eb31, nodesA_len, nodesA_len]; omega
              · rw [nodesA_len, nodesA_len]; omega
              refine ARun2.endm (hK25 _ ?_)
              refine hK21 _ ?_
              refine AWp.regionV ?_
              refine hK19 _ (i + 1) (by omega) (by omega) ?_
              refine Le.m 7 ?_ ?_
              · try simp only [push_cast, ↓reduceIte, Nat.reduceEqDiff, Nat.reduceLT, Nat.reduceAdd, Nat.reduceSub, Nat.reduceMul, Nat.reduceLeDiff, Nat.reducePow, Int.reduceLT, Int.reduceToNat, reduceCtorEq, Int.reduceNeg, Int.reduceEq, Nat.reduceBEq, Nat.reduceBNe, Int.reduceBEq, Int.reduceBNe, String.reduceEq]
                try simp (disch := omega) only [w_nat, w_add, w_addl, w_addr, w_sub, w_subl, w_mul, w_mull, w_mulr, w_u32, w_u16, w_u8, w_u32a, N_zero]
                first | done | skip
                rw [List.take_succ_eq_append_getElem hil, List.map_append, List.flatMap_append, ← hc]; simp only [List.map_cons, List.map_nil, List.flatMap_cons, List.flatMap_nil, List.append_nil, ← hX]; rw [chunksA_snoc, nodesA_app]; rfl
              · exact Go.Abs.evN
            · skip
              have hil : i = D.length := by simp at c3; omega
              subst hil
              rw [List.take_length]
              refine AWp.exit ?_
              try simp only [thenQ, blockQ, noGo, reduceIte, Nat.reduceEqDiff]
              refine hK17 _ ?_
              refine AWp.pubD 4 ?_
              refine AWp.pubD 5 ?_
              refine AWp.pubD 6 ?_
              refine AWp.regionW ?_
              refine AWp.ret ?_
              try simp only [thenQ, blockQ, noGo]
              refine bodyQ.m ?_
              clear hK20 K20 hK19 K19 hK18 K18 hK17 K17 hK11 K11 hK10 K10 hK9 K9 hK8 K8 hK7 K7 hK3 K3 hK2 K2 hK1 K1
              rw [hr]
              first | done | exact Hand.go
@[push_cast] def resP (r : List GNode × Er) : AV := .agg [.sl false 3 (nodesA false r.1), nat r.2.codeOf.1, nat r.2.atOf.1]
theorem csame_c (a b : GChunk) (h : Small a) : PC Tryz.prog 49 [chunkA false a, chunkA false b] (bool (sameC a b)) := by
  have hd := h.data
  have hk := h.kids
  have hl := szs_len a.kids
  have k1 := equal_c a.data b.data
  have k2 := equalFunc_c a.kids b.kids (by omega) (fun n hn m hm => same_c n m (by have := szs_mem hn; omega))
  refine PC.of_bodyW (by simp only [push_cast]) Tryz.func49 rfl (by rw [Tryz.ntmps49]; simp) ?_
  refine AWp.regionW ?_
  refine AWp.regionA fun K1 hK1 => ?_
  refine ARun.segm 6 fun KS hKS => ?_
  refine ARun2.endm (hKS _ ?_); clear hKS KS
  apply ARun.grpM 5 5 true 15 [2, 3, 10]
  · intro g5 KG hKG
    refine ARun2.gom ?_
    exact ARun2.endm (hKG _ Le.grpM)
  refine ARun.segm 2 fun KS hKS => ?_
  refine ARun2.endm (hKS _ ?_); clear hKS KS
  apply ARun.grpM 5 12 true 22 [2, 3, 17]
  · intro g12 KG hKG
    refine ARun2.gom ?_
    refine ARun2.callM (k1) ?_
    exact ARun2.endm (hKG _ Le.grpM)
  refine ARun.segm 2 fun KS hKS => ?_
  refine ARun2.endm (hKS _ ?_); clear hKS KS
  apply ARun.grpM 5 19 true 29 [24]
  · intro g19 KG hKG
    refine ARun2.gom ?_
    refine ARun2.callM (k2) ?_
    exact ARun2.endm (hKG _ Le.grpM)
  refine ARun2.gom ?_
  refine ARun2.endm (hK1 _ ?_)
  refine AWp.ret ?_
  try simp only [thenQ, blockQ, noGo]
  refine bodyQ.m ?_
  clear hK1 K1
  simp only [sameC]
  first | done | exact Hand.go
def repV (c : GChunk) : AV := .agg [.val (.int .u16 6), .sl true 1 (bys (bytesC c)), .val (.slice none 0 0)]
def repsV (l : List GChunk) : List AV := l.map repV
@[push_cast] theorem repsV_len (l : List GChunk) : (repsV l).length = l.length := by simp [repsV]
@[push_cast] theorem repsV_nil : repsV [] = [] := rfl
theorem repsV_snoc (l : List GChunk) (n : GChunk) : repsV (l ++ [n]) = repsV l ++ [repV n] := by simp [repsV]
@[push_cast] theorem repsV_ids (p : Nat → Bool) (l : List GChunk) : AV.idsOkL p (repsV l) = true := by
  rw [AV.idsOkL_iff]; intro x hx; simp only [repsV, List.mem_map] at hx; obtain ⟨n, _, rfl⟩ := hx
  simp only [repV, AV.idsOk, AV.idsOkL, bys_ids, Bool.and_self]
theorem repV_handR : ∀ l : List GChunk, HandR [] 3 (repsV l) (nodesA false (l.map repC))
  | [] => trivial
  | n :: l => by
    have ih := repV_handR l
    exact HandR.cons (cs := [.val (.int .u16 6), .sl true 1 (bys (bytesC n)), .val (.slice none 0 0)]) (ds := [u16 6, .sl false 1 (bys (bytesC n)), .sl false 3 (nodesA false [])]) (HandC.cons Hand.go (HandC.cons Hand.go (HandC.cons Hand.nil HandC.nil))) ih rfl rfl rfl
def disL (l : List GChunk) : List GChunk × List GChunk × Bool := disF (fun c : GChunk => actC c.ty) l
theorem disL_step (l : List GChunk) (i : Nat) (hi : i < l.length) (h : (disL (l.take i)).2.2 = false) : disL (l.take (i + 1)) = ((disL (l.take i)).1 ++ (disL [l[i]]).1, (disL (l.take i)).2.1 ++ (disL [l[i]]).2.1, (disL [l[i]]).2.2) := by
  have := disF_app (fun c : GChunk => actC c.ty) [l[i]] (l.take i)
  rw [← List.take_succ_eq_append_getElem hi, if_neg (by show ¬ (disL (l.take i)).2.2 = true; rw [h]; simp)] at this
  exact this
theorem disL_stop (l : List GChunk) (i : Nat) (h : (disL (l.take i)).2.2 = true) : disL l = disL (l.take i) := by
  have := disF_app (fun c : GChunk => actC c.ty) (l.drop i) (l.take i)
  rw [List.take_append_drop, if_pos (show (disF (fun c : GChunk => actC c.ty) (l.take i)).2.2 = true from h)] at this
  exact this
theorem disL_one (c : GChunk) (a : Nat) (h : a = actC c.ty) (hl : a ≤ 4) : (a = 4 → disL [c] = ([c], [], decide (a < 2))) ∧ (a = 1 ∨ a = 3 → disL [c] = ([], [c], decide (a < 2))) ∧ (¬ a = 4 → ¬ (a = 1 ∨ a = 3) → disL [c] = ([], [], decide (a < 2))) := by
  have hone : disL [c] = if actC c.ty = 4 then ([c], [], false) else if actC c.ty = 3 then ([], [c], false) else if actC c.ty = 1 then ([], [c], true) else if actC c.ty = 0 then ([], [], true) else ([], [], false) := rfl
  rw [← h] at hone
  refine ⟨fun e => ?_, fun e => ?_, fun e1 e2 => ?_⟩
  · rw [hone, if_pos e, e]; rfl
  · rcases e with e | e
    · rw [hone, if_neg (by omega), if_neg (by omega), if_pos e, e]; rfl
    · rw [hone, if_neg (by omega), if_pos e, e]; rfl
  · rw [hone, if_neg e1, if_neg (by omega), if_neg (by omega)]
    by_cases h0 : a = 0
    · rw [if_pos h0, h0]; rfl
    · rw [if_neg h0, decide_eq_false (by omega)]
set_option maxRecDepth 100000 in
set_option maxHeartbeats 1000000 in
theorem rof24_c (p : GPkt) (h : Chs p.l) : PC Tryz.prog 11 [pktA false p] (resA false (disO p.l)) := by
  obtain ⟨hlen, hsm, hok⟩ := h
  obtain ⟨src, dst, tag, l⟩ := p
  simp only at hlen hsm hok
  have hr : disO l = ⟨(disL l).1.map fun c => (cleanC c).1, (disL l).2.1.map repC, (disL l).1.flatMap fun c => (cleanC c).2, (disL l).2.2⟩ := rfl
  refine PC.of_bodyW (by simp only [push_cast]) Tryz.func11 rfl (by rw [Tryz.ntmps11]; simp) ?_
  refine AWp.regionW ?_
  refine AWp.regionW ?_
  refine AWp.seqK fun K1 hK1 => ?_
  refine AWp.regionW ?_
  refine AWp.block ?_
  refine AWp.nilBox 2 0 42 4 rfl rfl ?_
  simp only [push_cast, ↓reduceIte, Nat.reduceEqDiff, Nat.reduceLT, Nat.reduceAdd, Nat.reduceSub, Nat.reduceMul, Nat.reduceLeDiff, Nat.reducePow, Int.reduceLT, Int.reduceToNat, reduceCtorEq, Int.reduceNeg, Int.reduceEq, Nat.reduceBEq, Nat.reduceBNe, Int.reduceBEq, Int.reduceBNe, String.reduceEq]
  refine AWp.nilBox 2 1 49 3 rfl rfl ?_
  simp only [push_cast, ↓reduceIte, Nat.reduceEqDiff, Nat.reduceLT, Nat.reduceAdd, Nat.reduceSub, Nat.reduceMul, Nat.reduceLeDiff, Nat.reducePow, Int.reduceLT, Int.reduceToNat, reduceCtorEq, Int.reduceNeg, Int.reduceEq, Nat.reduceBEq, Nat.reduceBNe, Int.reduceBEq, Int.reduceBNe, String.reduceEq]
  refine AWp.nilBox 2 2 49 3 rfl rfl ?_
  simp only [push_cast, ↓reduceIte, Nat.reduceEqDiff, Nat.reduceLT, Nat.reduceAdd, Nat.reduceSub, Nat.reduceMul, Nat.reduceLeDiff, Nat.reducePow, Int.reduceLT, Int.reduceToNat, reduceCtorEq, Int.reduceNeg, Int.reduceEq, Nat.reduceBEq, Nat.reduceBNe, Int.reduceBEq, Int.reduceBNe, String.reduceEq]
  refine AWp.loopK [1, 2, 3] (fun (i : Nat) => [(4, nat i)]) (fun i => [.box 28 [u16 src, u16 dst, u32 tag, .sl false 4 (chunksA false l)], .box 35 [.val (.slice none 0 0), .val (.slice none 0 0), .val (.slice none 0 0), bool false], .box 35 [.own 3, .own 4, .own 5, bool (disL (l.take i)).2.2], .row 42 4 (chunksA false ((disL (l.take i)).1.map fun c => (cleanC c).1)), .row 49 3 (repsV (disL (l.take i)).2.1), .row 49 3 (nodesA false ((disL (l.take i)).1.flatMap fun c => (cleanC c).2))]) (fun i => i ≤ l.length) (fun i => l.length - i) (0) ?_ (Nat.zero_le _) ?_
  · skip
    refine Le.m 6 ?_ ?_
    · try simp only [push_cast, ↓reduceIte, Nat.reduceEqDiff, Nat.reduceLT, Nat.reduceAdd, Nat.reduceSub, Nat.reduceMul, Nat.reduceLeDiff, Nat.reducePow, Int.reduceLT, Int.reduceToNat, reduceCtorEq, Int.reduceNeg, Int.reduceEq, Nat.reduceBEq, Nat.reduceBNe, Int.reduceBEq, Int.reduceBNe, String.reduceEq]
      try simp (disch := omega) only [w_nat, w_add, w_addl, w_addr, w_sub, w_subl, w_mul, w_mull, w_mulr, w_u32, w_u16, w_u8, w_u32a, N_zero]
      first | done | skip
      try rfl
    · exact Go.Abs.evN
  · intro i hi K2 hK2
    refine AWp.seqK fun K3 hK3 => ?_
    refine AWp.regionA fun K4 hK4 => ?_
    refine ARun.segm 6 fun KS hKS => ?_
    refine ARun2.endm (hKS _ ?_); clear hKS KS
    apply ARun.grpM 3 5 true 18 [1, 2, 3, 4, 15]
    · intro g5 KG hKG
      refine ARun2.gom ?_
      exact ARun2.endm (hKG _ Le.grpM)
    refine ARun2.gom ?_
    refine ARun2.endm (hK4 _ ?_)
    refine AWp.condLM (fun c0 => ?_) (fun c0 => ?_)
    · skip
      have hc0 : i < l.length ∧ (disL (l.take i)).2.2 = false := by simpa using c0
      obtain ⟨hil, hns⟩ := hc0
      have hst := disL_step l i hil hns
      have hln := disF_none (fun c : GChunk => actC c.ty) (l.take i)
      rw [List.length_take] at hln
      obtain ⟨hm1, hm2⟩ := disF_mem (fun c : GChunk => actC c.ty) (l.take i)
      obtain ⟨c, hc⟩ : ∃ c, c = l[i] := ⟨_, rfl⟩
      have hcm : c ∈ l := by rw [hc]; exact List.getElem_mem hil
      obtain ⟨s1, s2⟩ := hsm c hcm
      obtain ⟨o1, o2⟩ := hok c hcm
      have hat : (chunksA false l)[i]? = some (chunkA false c) := by rw [hc]; exact chunksA_at _ _ _ hil
      rw [← hc] at hst
      have kac := racc_c c.ty s1.ty
      have hle := actC_le c.ty s1.ty
      obtain ⟨a, ha⟩ : ∃ a, a = actC c.ty := ⟨_, rfl⟩
      obtain ⟨E1, E2, E3⟩ := disL_one c a ha (by omega)
      rw [← ha] at kac
      have kcl := rclean24_c c s1 s2
      have kby := rbytes12_c c s1 s2 (check_size o1).1
      obtain ⟨A, hA⟩ : ∃ A, A = (disL (l.take i)).1 := ⟨_, rfl⟩
      obtain ⟨B, hB⟩ : ∃ B, B = (disL (l.take i)).2.1 := ⟨_, rfl⟩
      have hfl := flat_len (fun c : GChunk => (cleanC c).2) (2 ^ 26) A (fun x hx => clean_len2 x (hsm x (List.mem_of_mem_take (hm1 x (by rw [hA] at hx; exact hx)).1)).1)
      have hln1 : A.length ≤ 2 ^ 10 := by rw [hA]; have := hln.1; show (disF (fun c : GChunk => actC c.ty) (l.take i)).1.length ≤ _; omega
      have hln2 : B.length ≤ 2 ^ 10 := by rw [hB]; have := hln.2; show (disF (fun c : GChunk => actC c.ty) (l.take i)).2.1.length ≤ _; omega
      have hfl2 : A.length * 2 ^ 26 ≤ 2 ^ 10 * 2 ^ 26 := Nat.mul_le_mul_right _ hln1
      have hcl2 := clean_len2 c s1
      rw [← hA, ← hB] at hst
      rw [hns, ← hA, ← hB]
      obtain ⟨X, hX⟩ : ∃ X, X = cleanC c := ⟨_, rfl⟩
      rw [← hX] at kcl hcl2
      clear hm1 hm2 hln
      refine AWp.skip ?_
      refine hK3 _ ?_
      refine AWp.seqK fun K5 hK5 => ?_
      refine AWp.block ?_
      refine AWp.regionM fun K6 hK6 => ?_
      refine ARun2.indexM (i) (chunkA false c) ?_ ?_
      · exact hat
      refine ARun2.endm (hK6 _ ?_)
      refine AWp.regionM fun K7 hK7 => ?_
      refine ARun2.callM (kac) ?_
      refine ARun2.endm (hK7 _ ?_)
      refine AWp.seqK fun K8 hK8 => ?_
      refine AWp.regionW ?_
      refine AWp.condLM (fun c1 => ?_) (fun c1 => ?_)
      · skip
        have h4 : a = 4 := by simpa using c1
        have E := E1 h4
        refine AWp.regionM fun K9 hK9 => ?_
        refine ARun2.callM (kcl) ?_
        refine ARun2.endm (hK9 _ ?_)
        refine AWp.regionM fun K10 hK10 => ?_
        refine ARun2.appendM ?_ ?_ ?_
        · rw [YtldoehmlpdpiaaaGreatDoor.Facts.eb26, chunksA_len, List.length_map, List.length_cons, List.length_nil]; omega
        · rw [chunksA_len, List.length_map, List.length_cons, List.length_nil]; omega
        refine ARun2.endm (hK10 _ ?_)
        refine AWp.regionN fun K11 hK11 => ?_
        refine ARun2.appendM ?_ ?_ ?_
        · rw [YtldoehmlpdpiaaaGreatDoor.Facts.eb31, nodesA_len, nodesA_len]; omega
        · rw [nodesA_len, nodesA_len]; omega
        refine ARun2.endm (hK11 _ ?_)
        refine hK8 _ ?_
        refine AWp.seqK fun K12 hK12 => ?_
        refine AWp.regionA fun K13 hK13 => ?_
        refine ARun.segm 3 fun KS hKS => ?_
        refine ARun2.endm (hKS _ ?_); clear hKS KS
        apply ARun.grpM 2 2 false 52 [1, 2, 3, 4, 5, 6, 50]
        · intro g2 KG hKG
          refine ARun2.gom ?_
          exact ARun2.endm (hKG _ Le.grpM)
        refine ARun2.gom ?_
        refine ARun2.endm (hK13 _ ?_)
        refine AWp.condLM (fun c2 => ?_) (fun c2 => ?_)
        · skip
          exfalso; rw [h4] at c2; simp at c2
        · skip
          refine AWp.skip ?_
          refine hK12 _ ?_
          refine AWp.regionV ?_
          refine hK5 _ ?_
          refine AWp.regionV ?_
          refine hK2 _ (i + 1) (hil) (by omega) ?_
          refine Le.m 6 ?_ ?_
          · try simp only [push_cast, ↓reduceIte, Nat.reduceEqDiff, Nat.reduceLT, Nat.reduceAdd, Nat.reduceSub, Nat.reduceMul, Nat.reduceLeDiff, Nat.reducePow, Int.reduceLT, Int.reduceToNat, reduceCtorEq, Int.reduceNeg, Int.reduceEq, Nat.reduceBEq, Nat.reduceBNe, Int.reduceBEq, Int.reduceBNe, String.reduceEq]
            try simp (disch := omega) only [w_nat, w_add, w_addl, w_addr, w_sub, w_subl, w_mul, w_mull, w_mulr, w_u32, w_u16, w_u8, w_u32a, N_zero]
            first | done | skip
            rw [hst, E]
            simp only [List.map_append, List.flatMap_append, List.map_cons, List.map_nil, List.flatMap_cons, List.flatMap_nil, List.append_nil, ← hX, chunksA_snoc, nodesA_app, repsV_snoc]
            try rfl
          · exact Go.Abs.evN
      · skip
        have h4 : ¬ a = 4 := by simpa using c1
        refine AWp.skip ?_
        refine hK8 _ ?_
        refine AWp.seqK fun K14 hK14 => ?_
        refine AWp.regionA fun K15 hK15 => ?_
        refine ARun.segm 3 fun KS hKS => ?_
        refine ARun2.endm (hKS _ ?_); clear hKS KS
        apply ARun.grpM 2 2 false 52 [1, 2, 3, 4, 5, 6, 50]
        · intro g2 KG hKG
          refine ARun2.gom ?_
          exact ARun2.endm (hKG _ Le.grpM)
        refine ARun2.gom ?_
        refine ARun2.endm (hK15 _ ?_)
        refine AWp.condLM (fun c2 => ?_) (fun c2 => ?_)
        · skip
          have E := E2 (by simpa using c2)
          refine AWp.drE [[(3, none)], [(54, some 0)], [(5, none)], [(56, some 2)], [(57, some 3)], [(58, some 4)]] fun G hG => ?_
          refine Dr.sim ?_
          try simp only [List.cons_append, List.nil_append]
          refine Dr.sim ?_
          try simp only [List.cons_append, List.nil_append]
          refine Dr.sim ?_
          try simp only [List.cons_append, List.nil_append]
          refine Dr.call (kby) ?_
          try simp only [List.cons_append, List.nil_append]
          refine Dr.sim ?_
          try simp only [List.cons_append, List.nil_append]
          refine Dr.build ?_
          try simp only [List.cons_append, List.nil_append]
          refine Dr.finN (n := 6) [(55, 1), (59, 5)] [1, 2, 3, 4, 6] hG YtldoehmlpdpiaaaGreatDoor.Facts.mixed fun KD hKD => ?_
          refine ARun2.appendM ?_ ?_ ?_
          · rw [YtldoehmlpdpiaaaGreatDoor.Facts.eb31, repsV_len, List.length_cons, List.length_nil]; omega
          · rw [repsV_len, List.length_cons, List.length_nil]; omega
          refine ARun2.endm (hKD _ ?_); clear hKD KD hG G
          refine hK14 _ ?_
          refine AWp.regionV ?_
          refine hK5 _ ?_
          refine AWp.regionV ?_
          refine hK2 _ (i + 1) (hil) (by omega) ?_
          refine Le.m 6 ?_ ?_
          · try simp only [push_cast, ↓reduceIte, Nat.reduceEqDiff, Nat.reduceLT, Nat.reduceAdd, Nat.reduceSub, Nat.reduceMul, Nat.reduceLeDiff, Nat.reducePow, Int.reduceLT, Int.reduceToNat, reduceCtorEq, Int.reduceNeg, Int.reduceEq, Nat.reduceBEq, Nat.reduceBNe, Int.reduceBEq, Int.reduceBNe, String.reduceEq]
            try simp (disch := omega) only [w_nat, w_add, w_addl, w_addr, w_sub, w_subl, w_mul, w_mull, w_mulr, w_u32, w_u16, w_u8, w_u32a, N_zero]
            first | done | skip
            rw [hst, E]
            simp only [List.map_append, List.flatMap_append, List.map_cons, List.map_nil, List.flatMap_cons, List.flatMap_nil, List.append_nil, ← hX, chunksA_snoc, nodesA_app, repsV_snoc]
            try rfl
          · exact Go.Abs.evN
        · skip
          have E := E3 h4 (by simpa using c2)
          refine AWp.skip ?_
          refine hK14 _ ?_
          refine AWp.regionV ?_
          refine hK5 _ ?_
          refine AWp.regionV ?_
          refine hK2 _ (i + 1) (hil) (by omega) ?_
          refine Le.m 6 ?_ ?_
          · try simp only [push_cast, ↓reduceIte, Nat.reduceEqDiff, Nat.reduceLT, Nat.reduceAdd, Nat.reduceSub, Nat.reduceMul, Nat.reduceLeDiff, Nat.reducePow, Int.reduceLT, Int.reduceToNat, reduceCtorEq, Int.reduceNeg, Int.reduceEq, Nat.reduceBEq, Nat.reduceBNe, Int.reduceBEq, Int.reduceBNe, String.reduceEq]
            try simp (disch := omega) only [w_nat, w_add, w_addl, w_addr, w_sub, w_subl, w_mul, w_mull, w_mulr, w_u32, w_u16, w_u8, w_u32a, N_zero]
            first | done | skip
            rw [hst, E]
            simp only [List.map_append, List.flatMap_append, List.map_cons, List.map_nil, List.flatMap_cons, List.flatMap_nil, List.append_nil, ← hX, chunksA_snoc, nodesA_app, repsV_snoc]
            try rfl
          · exact Go.Abs.evN
    · skip
      have hfin : disL l = disL (l.take i) := by
        cases hs : (disL (l.take i)).2.2 with
        | true => exact disL_stop l i hs
        | false =>
          have hil : i = l.length := by rw [hs] at c0; simp at c0; omega
          rw [hil, List.take_length]
      rw [← hfin]
      have hw := repV_handR (disL l).2.1
      refine AWp.exit ?_
      try simp only [thenQ, blockQ, noGo, reduceIte, Nat.reduceEqDiff]
      refine hK1 _ ?_
      refine AWp.pubD 3 ?_
      refine AWp.pubD 4 ?_
      refine AWp.pubD 5 ?_
      refine AWp.regionW ?_
      refine AWp.ret ?_
      try simp only [thenQ, blockQ, noGo]
      refine bodyQ.m ?_
      clear hK4 K4 hK3 K3 hK2 K2 hK1 K1
      rw [hr]
      first | done | exact Hand.go
def sameR (a b : GRes) : Bool := (a.stopped == b.stopped) && sameLC a.done b.done && sameL a.chunks b.chunks && sameL a.params b.params
theorem sameR_self (a : GRes) : sameR a a = true := by
  unfold sameR
  rw [(sameLC_iff _ _).2 rfl, (sameL_iff _ _).2 rfl, (sameL_iff _ _).2 rfl]
  cases a.stopped <;> rfl
structure GRes.Ok (r : GRes) : Prop where
  len : r.done.length ≤ 2 ^ 30
  done : ∀ c ∈ r.done, Small c
  chunks : szs r.chunks ≤ 2 ^ 40
  params : szs r.params ≤ 2 ^ 40
theorem rsamec_c (l m : List GChunk) (hl : l.length ≤ 2 ^ 30) (h1 : ∀ c ∈ l, Small c) : PC Tryz.prog 12 [.sl false 4 (chunksA false l), .sl false 4 (chunksA false m)] (bool (sameLC l m)) := by
  refine PC.of_bodyW (by simp only [push_cast]) Tryz.func12 rfl (by rw [Tryz.ntmps12]; simp) ?_
  refine AWp.regionW ?_
  refine AWp.seqK fun K1 hK1 => ?_
  refine AWp.regionW ?_
  refine AWp.condLM (fun c0 => ?_) (fun c0 => ?_)
  · skip
    have hne : ¬ l.length = m.length := by simpa using c0
    have hr : sameLC l m = false := by unfold sameLC; rw [decide_eq_false hne, Bool.false_and]
    refine AWp.regionW ?_
    refine AWp.ret ?_
    try simp only [thenQ, blockQ, noGo]
    refine bodyQ.m ?_
    clear hK1 K1
    rw [hr]
    first | done | exact Hand.go
  · skip
    have he : l.length = m.length := by simpa using c0
    refine AWp.skip ?_
    refine hK1 _ ?_
    refine AWp.seqK fun K2 hK2 => ?_
    refine AWp.regionW ?_
    refine AWp.block ?_
    refine AWp.loopK0 [0, 1] (fun (i : Nat) => [(5, nat i)]) (fun i => i ≤ l.length ∧ ∀ j (hl : j < l.length) (hm : j < m.length), j < i → sameC l[j] m[j] = true) (fun i => l.length - i) (0) ?_ ⟨Nat.zero_le _, fun j _ _ hj => by omega⟩ ?_
    · skip
      refine Le.m 0 ?_ ?_
      · exact Go.Abs.evM
      · exact Go.Abs.evN
    · intro i hi K3 hK3
      refine AWp.seqK fun K4 hK4 => ?_
      refine AWp.regionW ?_
      refine AWp.condLM (fun c1 => ?_) (fun c1 => ?_)
      · skip
        have hil : i < l.length := by simpa using c1
        have him : i < m.length := by omega
        have ks := (h1 l[i] (List.getElem_mem hil)).same (b := m[i])
        refine AWp.skip ?_
        refine hK4 _ ?_
        refine AWp.seqK fun K5 hK5 => ?_
        refine AWp.block ?_
        refine AWp.drS [[(0, none)], [(5, none)], [(17, some 0), (18, some 1)], [(19, some 2)], [(1, none)], [(5, none)], [(21, some 4), (22, some 5)], [(23, some 6)], [(20, some 3), (24, some 7)], [(25, some 8)]] fun G hG => ?_
        refine Dr.sim ?_
        try simp only [List.cons_append, List.nil_append]
        refine Dr.sim ?_
        try simp only [List.cons_append, List.nil_append]
        refine Dr.idx (i) (chunkA false l[i]) ?_ ?_
        · exact chunksA_at _ _ _ hil
        try simp only [List.cons_append, List.nil_append]
        refine Dr.sim ?_
        try simp only [List.cons_append, List.nil_append]
        refine Dr.sim ?_
        try simp only [List.cons_append, List.nil_append]
        refine Dr.sim ?_
        try simp only [List.cons_append, List.nil_append]
        refine Dr.idx (i) (chunkA false m[i]) ?_ ?_
        · exact chunksA_at _ _ _ him
        try simp only [List.cons_append, List.nil_append]
        refine Dr.sim ?_
        try simp only [List.cons_append, List.nil_append]
        refine Dr.call (ks) ?_
        try simp only [List.cons_append, List.nil_append]
        refine Dr.sim ?_
        try simp only [List.cons_append, List.nil_append]
        refine Dr.finM (n := 10) [(26, 9)] [0, 1, 5] hG YtldoehmlpdpiaaaGreatDoor.Facts.mixed fun KD hKD => ?_
        refine ARun2.endm (hKD _ ?_); clear hKD KD hG G
        refine AWp.condLM (fun c2 => ?_) (fun c2 => ?_)
        · skip
          have hne : sameC l[i] m[i] = false := by simpa using c2
          have hr := sameLC_at hil him hne
          refine AWp.regionW ?_
          refine AWp.ret ?_
          try simp only [thenQ, blockQ, noGo]
          refine bodyQ.m ?_
          clear hK5 K5 hK4 K4 hK3 K3 hK2 K2 hK1 K1
          rw [hr]
          first | done | exact Hand.go
        · skip
          have heq : sameC l[i] m[i] = true := by simpa using c2
          refine AWp.skip ?_
          refine hK5 _ ?_
          refine AWp.regionV ?_
          refine hK3 _ (i + 1) (⟨hil, fun j hl hm hj => (Nat.lt_or_ge j i).elim (fun h => hi.2 j hl hm h) (fun h => by have e : j = i := (by omega); subst e; exact heq)⟩) (by omega) ?_
          refine Le.m 0 ?_ ?_
          · exact Go.Abs.evM
          · exact Go.Abs.evN
      · skip
        have hil : i = l.length := by have := hi.1; simp at c1; omega
        have hr := sameLC_all he (fun j hl hm => hi.2 j hl hm (by omega))
        refine AWp.exit ?_
        try simp only [thenQ, blockQ, noGo, reduceIte, Nat.reduceEqDiff]
        refine hK2 _ ?_
        refine AWp.regionW ?_
        refine AWp.ret ?_
        try simp only [thenQ, blockQ, noGo]
        refine bodyQ.m ?_
        clear hK4 K4 hK3 K3 hK2 K2 hK1 K1
        rw [hr]
        first | done | exact Hand.go
theorem rsame24_c (a b : GRes) (h : a.Ok) : PC Tryz.prog 13 [resA false a, resA false b] (bool (sameR a b)) := by
  obtain ⟨h1, h2, h3, h4⟩ := h
  have k1 := rsamec_c a.done b.done h1 h2
  have k2 := same08_c a.chunks b.chunks h3
  have k3 := same08_c a.params b.params h4
  refine PC.of_bodyW (by simp only [push_cast]) Tryz.func13 rfl (by rw [Tryz.ntmps13]; simp) ?_
  refine AWp.regionW ?_
  refine AWp.regionA fun K1 hK1 => ?_
  refine ARun.segm 6 fun KS hKS => ?_
  refine ARun2.boolEqM ?_
  refine ARun2.endm (hKS _ ?_); clear hKS KS
  apply ARun.grpM 5 5 true 15 [2, 3, 10]
  · intro g5 KG hKG
    refine ARun2.gom ?_
    refine ARun2.callM (k1) ?_
    exact ARun2.endm (hKG _ Le.grpM)
  refine ARun.segm 2 fun KS hKS => ?_
  refine ARun2.endm (hKS _ ?_); clear hKS KS
  apply ARun.grpM 5 12 true 22 [2, 3, 17]
  · intro g12 KG hKG
    refine ARun2.gom ?_
    refine ARun2.callM (k2) ?_
    exact ARun2.endm (hKG _ Le.grpM)
  refine ARun.segm 2 fun KS hKS => ?_
  refine ARun2.endm (hKS _ ?_); clear hKS KS
  apply ARun.grpM 5 19 true 29 [24]
  · intro g19 KG hKG
    refine ARun2.gom ?_
    refine ARun2.callM (k3) ?_
    exact ARun2.endm (hKG _ Le.grpM)
  refine ARun2.gom ?_
  refine ARun2.endm (hK1 _ ?_)
  refine AWp.ret ?_
  try simp only [thenQ, blockQ, noGo]
  refine bodyQ.m ?_
  clear hK1 K1
  simp only [sameR]
  first | done | exact Hand.go
theorem eqfC_c (l m : List GChunk) (hl : l.length ≤ 2 ^ 30) (h1 : ∀ c ∈ l, Small c) :
    PC Tryz.prog 48 [.sl false 4 (chunksA false l), .sl false 4 (chunksA false m), .fn (.func 49) [] []] (bool (sameLC l m)) := by
  refine PC.of_bodyW (by simp only [push_cast]) Tryz.func48 rfl (by rw [Tryz.ntmps48]; simp) ?_
  refine AWp.regionW ?_
  refine AWp.seqK fun K1 hK1 => ?_
  refine AWp.regionW ?_
  refine AWp.condLM (fun c0 => ?_) (fun c0 => ?_)
  · skip
    have hne : ¬ l.length = m.length := by simpa using c0
    have hr : sameLC l m = false := by unfold sameLC; rw [decide_eq_false hne, Bool.false_and]
    refine AWp.regionW ?_
    refine AWp.ret ?_
    try simp only [thenQ, blockQ, noGo]
    refine bodyQ.m ?_
    clear hK1 K1
    rw [hr]
    first | done | exact Hand.go
  · skip
    have he : l.length = m.length := by simpa using c0
    refine AWp.skip ?_
    refine hK1 _ ?_
    refine AWp.seqK fun K2 hK2 => ?_
    refine AWp.regionW ?_
    refine AWp.block ?_
    refine AWp.loopK0 [1, 2, 15, 16] (fun (i : Nat) => [(17, nat i)]) (fun i => i ≤ l.length ∧ ∀ j (hl : j < l.length) (hm : j < m.length), j < i → sameC l[j] m[j] = true) (fun i => l.length - i) (0) ?_ ⟨Nat.zero_le _, fun j _ _ hj => by omega⟩ ?_
    · skip
      refine Le.m 0 ?_ ?_
      · exact Go.Abs.evM
      · exact Go.Abs.evN
    · intro i hi K3 hK3
      refine AWp.regionW ?_
      refine AWp.seqK fun K4 hK4 => ?_
      refine AWp.condLM (fun c1 => ?_) (fun c1 => ?_)
      · skip
        have hil : i < l.length := by simpa using c1
        have him : i < m.length := by omega
        have ks := csame_c l[i] m[i] (h1 l[i] (List.getElem_mem hil))
        refine AWp.skip ?_
        refine hK4 _ ?_
        refine AWp.seqK fun K5 hK5 => ?_
        refine AWp.block ?_
        refine AWp.regionM fun K6 hK6 => ?_
        refine ARun2.indexM (i) (chunkA false l[i]) ?_ ?_
        · exact chunksA_at _ _ _ hil
        refine ARun2.endm (hK6 _ ?_)
        refine AWp.regionM fun K7 hK7 => ?_
        refine ARun2.indexM (i) (chunkA false m[i]) ?_ ?_
        · exact chunksA_at _ _ _ him
        refine ARun2.endm (hK7 _ ?_)
        refine AWp.regionM fun K8 hK8 => ?_
        refine ARun2.callVM (ks) ?_
        refine ARun2.endm (hK8 _ ?_)
        refine AWp.condLM (fun c2 => ?_) (fun c2 => ?_)
        · skip
          have hne : sameC l[i] m[i] = false := by simpa using c2
          have hr := sameLC_at hil him hne
          refine AWp.regionW ?_
          refine AWp.ret ?_
          try simp only [thenQ, blockQ, noGo]
          refine bodyQ.m ?_
          clear hK8 K8 hK7 K7 hK6 K6 hK5 K5 hK4 K4 hK3 K3 hK2 K2 hK1 K1
          rw [hr]
          first | done | exact Hand.go
        · skip
          have heq : sameC l[i] m[i] = true := by simpa using c2
          refine AWp.skip ?_
          refine hK5 _ ?_
          refine AWp.regionV ?_
          refine hK3 _ (i + 1) (⟨hil, fun j hl hm hj => (Nat.lt_or_ge j i).elim (fun h => hi.2 j hl hm h) (fun h => by have e : j = i := (by omega); subst e; exact heq)⟩) (by omega) ?_
          refine Le.m 0 ?_ ?_
          · exact Go.Abs.evM
          · exact Go.Abs.evN
      · skip
        have hil : i = l.length := by have := hi.1; simp at c1; omega
        have hr := sameLC_all he (fun j hl hm => hi.2 j hl hm (by omega))
        refine AWp.exit ?_
        try simp only [thenQ, blockQ, noGo, reduceIte, Nat.reduceEqDiff]
        refine hK2 _ ?_
        refine AWp.regionW ?_
        refine AWp.ret ?_
        try simp only [thenQ, blockQ, noGo]
        refine bodyQ.m ?_
        clear hK4 K4 hK3 K3 hK2 K2 hK1 K1
        rw [hr]
        first | done | exact Hand.go
theorem dsame24_c (a b : GRes) (h : a.Ok) : PC Tryz.prog 23 [resA false a, resA false b] (bool (sameR a b)) := by
  obtain ⟨h1, h2, h3, h4⟩ := h
  have hl2 := szs_len a.chunks
  have hl3 := szs_len a.params
  have k1 := eqfC_c a.done b.done h1 h2
  have k2 := equalFunc_c a.chunks b.chunks (by omega) (fun n hn m hm => same_c n m (by have := szs_mem hn; omega))
  have k3 := equalFunc_c a.params b.params (by omega) (fun n hn m hm => same_c n m (by have := szs_mem hn; omega))
  refine PC.of_bodyW (by simp only [push_cast]) Tryz.func23 rfl (by rw [Tryz.ntmps23]; simp) ?_
  refine AWp.regionW ?_
  refine AWp.regionA fun K1 hK1 => ?_
  refine ARun.segm 6 fun KS hKS => ?_
  refine ARun2.boolEqM ?_
  refine ARun2.endm (hKS _ ?_); clear hKS KS
  apply ARun.grpM 5 5 true 15 [2, 3, 10]
  · intro g5 KG hKG
    refine ARun2.gom ?_
    refine ARun2.callM (k1) ?_
    exact ARun2.endm (hKG _ Le.grpM)
  refine ARun.segm 2 fun KS hKS => ?_
  refine ARun2.endm (hKS _ ?_); clear hKS KS
  apply ARun.grpM 5 12 true 22 [2, 3, 17]
  · intro g12 KG hKG
    refine ARun2.gom ?_
    refine ARun2.callM (k2) ?_
    exact ARun2.endm (hKG _ Le.grpM)
  refine ARun.segm 2 fun KS hKS => ?_
  refine ARun2.endm (hKS _ ?_); clear hKS KS
  apply ARun.grpM 5 19 true 29 [24]
  · intro g19 KG hKG
    refine ARun2.gom ?_
    refine ARun2.callM (k3) ?_
    exact ARun2.endm (hKG _ Le.grpM)
  refine ARun2.gom ?_
  refine ARun2.endm (hK1 _ ?_)
  refine AWp.ret ?_
  try simp only [thenQ, blockQ, noGo]
  refine bodyQ.m ?_
  clear hK1 K1
  simp only [sameR]
  first | done | exact Hand.go
def quietR (l : List GChunk) : Bool := sameR (disO l) ⟨l, [], [], false⟩
theorem sameL_nil (l : List GNode) : sameL l [] = decide (l.length = 0) := by
  rw [Bool.eq_iff_iff, sameL_iff, decide_eq_true_eq, List.length_eq_zero_iff]
theorem quietR_eq (l : List GChunk) : quietR l = quietB l := by
  unfold quietR sameR quietB
  rw [sameL_nil, sameL_nil]
  cases (disO l).stopped <;> rfl
theorem szs_map_le {α : Type} (f : α → GNode) (b : Nat) : ∀ l : List α, (∀ x ∈ l, (f x).sz ≤ b) → szs (l.map f) ≤ l.length * b
  | [], _ => by simp [szs]
  | x :: l, h => by
    have h1 := h x (by simp)
    have h2 := szs_map_le f b l (fun y hy => h y (by simp [hy]))
    simp only [List.map_cons, szs, List.length_cons, Nat.add_mul, Nat.one_mul]
    omega
theorem kept_szs (f : GNode → Nat) : ∀ l : List GNode, szs (disF f l).1 ≤ szs l ∧ szs (disF f l).2.1 ≤ szs l
  | [] => ⟨Nat.le_refl _, Nat.le_refl _⟩
  | n :: l => by
    have h := kept_szs f l
    simp only [disF]
    split
    · simp only [szs]; omega
    split
    · simp only [szs]; omega
    split
    · simp only [szs]; omega
    split
    · simp only [szs]; omega
    · simp only [szs]; omega
theorem wrap_szs : ∀ l : List GNode, szs (l.map wrapN) ≤ szs l + 2 * l.length
  | [] => by simp [szs]
  | n :: l => by
    have h := wrap_szs l
    simp only [List.map_cons, szs, wrapN, GNode.sz, List.length_cons, List.length_nil] at h ⊢
    omega
theorem clean_small {c : GChunk} (h : Small c) : Small (cleanC c).1 ∧ szs (cleanC c).2 ≤ 2 ^ 28 := by
  obtain ⟨h1, h2, h3, h4⟩ := h
  obtain ⟨k1, k2⟩ := kept_szs (fun n : GNode => actP n.ty) c.kids
  have k3 := wrap_szs (disF (fun n : GNode => actP n.ty) c.kids).2.1
  have k4 := (disF_none (fun n : GNode => actP n.ty) c.kids).2
  have k5 := szs_len c.kids
  unfold cleanC
  split
  · exact ⟨⟨h1, h2, h3, Nat.le_trans k1 h4⟩, by show szs ((disF _ _).2.1.map wrapN) ≤ _; omega⟩
  · exact ⟨⟨h1, h2, h3, h4⟩, by simp [szs]⟩
theorem szs_app' : ∀ l m : List GNode, szs (l ++ m) = szs l + szs m
  | [], m => by simp [szs]
  | n :: l, m => by rw [List.cons_append, szs, szs, szs_app' l m]; omega
theorem flat_szs (f : GChunk → List GNode) (b : Nat) : ∀ l : List GChunk, (∀ c ∈ l, szs (f c) ≤ b) → szs (l.flatMap f) ≤ l.length * b
  | [], _ => by simp [szs]
  | c :: l, h => by
    have h1 := h c (by simp)
    have h2 := flat_szs f b l (fun y hy => h y (by simp [hy]))
    rw [List.flatMap_cons, szs_app', List.length_cons, Nat.add_mul, Nat.one_mul]
    omega
theorem disO_ok {l : List GChunk} (h : Chs l) : (disO l).Ok := by
  obtain ⟨hl, hs, hr⟩ := h
  have hn := disF_none (fun c : GChunk => actC c.ty) l
  obtain ⟨m1, m2⟩ := disF_mem (fun c : GChunk => actC c.ty) l
  have hd : disO l = ⟨(disF (fun c : GChunk => actC c.ty) l).1.map fun c => (cleanC c).1, (disF (fun c : GChunk => actC c.ty) l).2.1.map repC, (disF (fun c : GChunk => actC c.ty) l).1.flatMap fun c => (cleanC c).2, (disF (fun c : GChunk => actC c.ty) l).2.2⟩ := rfl
  rw [hd]
  generalize (disF (fun c : GChunk => actC c.ty) l).1 = A at hn m1
  generalize (disF (fun c : GChunk => actC c.ty) l).2.1 = B at hn m2
  have a1 : A.length * 2 ^ 28 ≤ 2 ^ 10 * 2 ^ 28 := Nat.mul_le_mul_right _ (by omega)
  have a3 : B.length * 2 ^ 29 ≤ 2 ^ 10 * 2 ^ 29 := Nat.mul_le_mul_right _ (by omega)
  have q3 := szs_map_le repC (2 ^ 29) B (fun c hc => by
      have hm := m2 c hc
      obtain ⟨o1, o2⟩ := hr c hm.1
      have hb := rep_bytes o1 o2 (actC_unk hm.2)
      simp only [repC, GNode.sz, szs]; omega)
  have q4 := flat_szs (fun c => (cleanC c).2) (2 ^ 28) A (fun c hc => (clean_small (hs c (m1 c hc).1).1).2)
  refine ⟨?_, ?_, ?_, ?_⟩
  · simp only [List.length_map]; omega
  · intro c hc
    simp only [List.mem_map] at hc
    obtain ⟨x, hx, rfl⟩ := hc
    exact (clean_small (hs x (m1 x hx).1).1).1
  · simp only; omega
  · simp only; omega
theorem quiet24_c (p : GPkt) (h : Chs p.l) : PC Tryz.prog 14 [pktA false p] (bool (quietB p.l)) := by
  have k1 := dof24_c p h
  have k2 := dsame24_c (disO p.l) ⟨p.l, [], [], false⟩ (disO_ok h)
  rw [show sameR (disO p.l) ⟨p.l, [], [], false⟩ = quietB p.l from quietR_eq p.l] at k2
  generalize disO p.l = r at k1 k2
  refine PC.of_bodyW (by simp only [push_cast]) Tryz.func14 rfl (by rw [Tryz.ntmps14]; simp) ?_
  refine AWp.regionW ?_
  refine AWp.drS [[(1, none)], [(3, some 0)], [(1, none)], [(5, some 2)], [(6, some 3)], [(4, some 1), (7, some 4)], [(8, some 5)]] fun G hG => ?_
  refine Dr.sim ?_
  try simp only [List.cons_append, List.nil_append]
  refine Dr.call (k1) ?_
  try simp only [List.cons_append, List.nil_append]
  refine Dr.sim ?_
  try simp only [List.cons_append, List.nil_append]
  refine Dr.sim ?_
  try simp only [List.cons_append, List.nil_append]
  refine Dr.sim ?_
  try simp only [List.cons_append, List.nil_append]
  refine Dr.call (k2) ?_
  try simp only [List.cons_append, List.nil_append]
  refine Dr.sim ?_
  try simp only [List.cons_append, List.nil_append]
  refine Dr.finM (n := 7) [(2, 6)] [] hG YtldoehmlpdpiaaaGreatDoor.Facts.mixed fun KD hKD => ?_
  refine ARun2.endm (hKD _ ?_); clear hKD KD hG G
  refine AWp.ret ?_
  try simp only [thenQ, blockQ, noGo]
  refine bodyQ.m ?_
  first | done | exact Hand.go
def sumD (l : List GChunk) : Nat := (l.map fun c => c.data.length).sum
def few22 (l : List GChunk) : Bool := l.all fewC && (decide (l.length ≤ 20) && decide (sumD l ≤ 100000))
theorem sumD_take (l : List GChunk) (i : Nat) (h : i < l.length) : sumD (l.take (i + 1)) = sumD (l.take i) + l[i].data.length := by
  unfold sumD
  rw [List.take_succ_eq_append_getElem h]
  simp only [List.map_append, List.map_cons, List.map_nil, List.sum_append, List.sum_cons, List.sum_nil, Nat.add_zero]
theorem sumD_le (l : List GChunk) (b : Nat) (h : ∀ c ∈ l, c.data.length ≤ b) : sumD l ≤ l.length * b := by
  induction l with
  | nil => simp [sumD]
  | cons c l ih =>
    have h1 := h c (by simp)
    have h2 := ih (fun x hx => h x (by simp [hx]))
    simp only [sumD, List.map_cons, List.sum_cons, List.length_cons, Nat.add_mul, Nat.one_mul] at h2 ⊢
    omega
theorem few22_c (l : List GChunk) (hl : l.length ≤ 2 ^ 30) (hs : ∀ c ∈ l, Small c) : PC Tryz.prog 24 [.sl false 4 (chunksA false l)] (bool (few22 l)) := by
  refine PC.of_bodyW (by simp only [push_cast]) Tryz.func24 rfl (by rw [Tryz.ntmps24]; simp) ?_
  refine AWp.regionW ?_
  refine AWp.regionW ?_
  refine AWp.seqK fun K1 hK1 => ?_
  refine AWp.regionW ?_
  refine AWp.block ?_
  refine AWp.loopK0 [0] (fun (i : Nat) => [(4, nat i), (3, nat (sumD (l.take i)))]) (fun i => i ≤ l.length ∧ (l.take i).all fewC = true) (fun i => l.length - i) (0) ?_ ⟨Nat.zero_le _, rfl⟩ ?_
  · skip
    refine Le.m 0 ?_ ?_
    · exact Go.Abs.evM
    · exact Go.Abs.evN
  · intro i hi K2 hK2
    refine AWp.seqK fun K3 hK3 => ?_
    refine AWp.regionW ?_
    refine AWp.condLM (fun c0 => ?_) (fun c0 => ?_)
    · skip
      have hil : i < l.length := by simpa using c0
      have hsi := hs l[i] (List.getElem_mem hil)
      have kf := few12_c l[i] hsi
      have hsd := hsi.data
      have hst := sumD_take l i hil
      have hsl := sumD_le (l.take i) (2 ^ 26) (fun c hc => (hs c (List.mem_of_mem_take hc)).data)
      rw [List.length_take] at hsl
      have hsl2 : (min i l.length) * 2 ^ 26 ≤ 2 ^ 30 * 2 ^ 26 := Nat.mul_le_mul_right _ (by omega)
      have hat := chunksA_at false l i hil
      refine AWp.skip ?_
      refine hK3 _ ?_
      refine AWp.seqK fun K4 hK4 => ?_
      refine AWp.block ?_
      refine AWp.seqK fun K5 hK5 => ?_
      refine AWp.regionM fun K6 hK6 => ?_
      refine ARun2.indexM (i) (chunkA false l[i]) ?_ ?_
      · exact hat
      refine ARun2.callM (kf) ?_
      refine ARun2.endm (hK6 _ ?_)
      refine AWp.condLM (fun c1 => ?_) (fun c1 => ?_)
      · skip
        have hr : few22 l = false := by
          have hfi : fewC l[i] = false := by simpa using c1
          have : l.all fewC = false := by
            rw [Bool.eq_false_iff]; intro h
            have := List.all_eq_true.1 h l[i] (List.getElem_mem hil)
            rw [hfi] at this; cases this
          unfold few22; rw [this]; rfl
        refine AWp.regionW ?_
        refine AWp.ret ?_
        try simp only [thenQ, blockQ, noGo]
        refine bodyQ.m ?_
        clear hK6 K6 hK5 K5 hK4 K4 hK3 K3 hK2 K2 hK1 K1
        rw [hr]
        first | done | exact Hand.go
      · skip
        have hfi : fewC l[i] = true := by simpa using c1
        refine AWp.skip ?_
        refine hK5 _ ?_
        refine AWp.regionN fun K7 hK7 => ?_
        refine ARun2.indexM (i) (chunkA false l[i]) ?_ ?_
        · exact hat
        refine ARun2.endm (hK7 _ ?_)
        refine hK4 _ ?_
        refine AWp.regionV ?_
        refine hK2 _ (i + 1) (⟨hil, by rw [List.take_succ_eq_append_getElem hil, List.all_append, hi.2]; simp [hfi]⟩) (by omega) ?_
        refine Le.m 0 ?_ ?_
        · exact Go.Abs.evM
        · simp only [push_cast, ↓reduceIte, Nat.reduceEqDiff, Nat.reduceLT, Nat.reduceAdd, Nat.reduceSub, Nat.reduceMul, Nat.reduceLeDiff, Nat.reducePow, Int.reduceLT, Int.reduceToNat, reduceCtorEq, Int.reduceNeg, Int.reduceEq, Nat.reduceBEq, Nat.reduceBNe, Int.reduceBEq, Int.reduceBNe, String.reduceEq]
          try simp (disch := omega) only [w_nat, w_add, w_addl, w_addr, w_sub, w_subl, w_mul, w_mull, w_mulr, w_u32, w_u16, w_u8, w_u32a, N_zero]
          rw [hst]
    · skip
      have hil : i = l.length := by have := hi.1; simp at c0; omega
      subst hil
      have hall := hi.2
      rw [List.take_length] at hall ⊢
      have hr : few22 l = (decide (l.length ≤ 20) && decide (sumD l ≤ 100000)) := by unfold few22; rw [hall]; rfl
      refine AWp.exit ?_
      try simp only [thenQ, blockQ, noGo, reduceIte, Nat.reduceEqDiff]
      refine hK1 _ ?_
      refine AWp.regionA fun K8 hK8 => ?_
      refine ARun.segm 4 fun KS hKS => ?_
      refine ARun2.endm (hKS _ ?_); clear hKS KS
      apply ARun.grpM 2 3 true 30 [28]
      · intro g3 KG hKG
        refine ARun2.gom ?_
        exact ARun2.endm (hKG _ Le.grpM)
      refine ARun2.gom ?_
      refine ARun2.endm (hK8 _ ?_)
      refine AWp.ret ?_
      try simp only [thenQ, blockQ, noGo]
      refine bodyQ.m ?_
      clear hK8 K8 hK3 K3 hK2 K2 hK1 K1
      rw [hr]
      first | done | exact Hand.go
def right24 (l : List GChunk) : Bool := l.all fun c => (checkC c == 0) && decide (c.data.length ≤ 65527)
theorem right24_c (l : List GChunk) (hl : l.length ≤ 2 ^ 30) (hs : ∀ c ∈ l, Small c) : PC Tryz.prog 25 [.sl false 4 (chunksA false l)] (bool (right24 l)) := by
  refine PC.of_bodyW (by simp only [push_cast]) Tryz.func25 rfl (by rw [Tryz.ntmps25]; simp) ?_
  refine AWp.regionW ?_
  refine AWp.seqK fun K1 hK1 => ?_
  refine AWp.regionW ?_
  refine AWp.block ?_
  refine AWp.loopK0 [0] (fun (i : Nat) => [(3, nat i)]) (fun i => i ≤ l.length ∧ right24 (l.take i) = true) (fun i => l.length - i) (0) ?_ ⟨Nat.zero_le _, rfl⟩ ?_
  · skip
    refine Le.m 0 ?_ ?_
    · exact Go.Abs.evM
    · exact Go.Abs.evN
  · intro i hi K2 hK2
    refine AWp.seqK fun K3 hK3 => ?_
    refine AWp.regionW ?_
    refine AWp.condLM (fun c0 => ?_) (fun c0 => ?_)
    · skip
      have hil : i < l.length := by simpa using c0
      have hsi := hs l[i] (List.getElem_mem hil)
      have kc := hsi.check12
      have hsd := hsi.data
      have hat := chunksA_at false l i hil
      refine AWp.skip ?_
      refine hK3 _ ?_
      refine AWp.seqK fun K4 hK4 => ?_
      refine AWp.block ?_
      refine AWp.regionA fun K5 hK5 => ?_
      refine ARun.segm 7 fun KS hKS => ?_
      refine ARun2.indexM (i) (chunkA false l[i]) ?_ ?_
      · exact hat
      refine ARun2.callM (kc) ?_
      refine ARun2.endm (hKS _ ?_); clear hKS KS
      apply ARun.grpM 7 6 false 23 [0, 3, 16]
      · intro g6 KG hKG
        refine ARun2.gom ?_
        refine ARun2.indexM (i) (chunkA false l[i]) ?_ ?_
        · exact hat
        exact ARun2.endm (hKG _ Le.grpM)
      refine ARun2.gom ?_
      refine ARun2.endm (hK5 _ ?_)
      refine AWp.condLM (fun c1 => ?_) (fun c1 => ?_)
      · skip
        have hr : right24 l = false := by
          have hfi : ((checkC l[i] == 0) && decide (l[i].data.length ≤ 65527)) = false := by
            rw [Bool.eq_false_iff]; intro h
            simp only [Bool.and_eq_true, beq_iff_eq, decide_eq_true_eq] at h
            rw [h.1] at c1; simp at c1; omega
          rw [Bool.eq_false_iff]; intro h
          have := List.all_eq_true.1 h l[i] (List.getElem_mem hil)
          rw [hfi] at this; cases this
        refine AWp.regionW ?_
        refine AWp.ret ?_
        try simp only [thenQ, blockQ, noGo]
        refine bodyQ.m ?_
        clear hK5 K5 hK4 K4 hK3 K3 hK2 K2 hK1 K1
        rw [hr]
        first | done | exact Hand.go
      · skip
        have hfi : ((checkC l[i] == 0) && decide (l[i].data.length ≤ 65527)) = true := by
          simp only [Bool.or_eq_false_iff, bne_eq_false_iff_eq, decide_eq_false_iff_not] at c1
          rw [c1.1]; simp; omega
        refine AWp.skip ?_
        refine hK4 _ ?_
        refine AWp.regionV ?_
        refine hK2 _ (i + 1) (⟨hil, by
          have h2 := hi.2
          unfold right24 at h2 ⊢
          rw [List.take_succ_eq_append_getElem hil, List.all_append, h2]; simp only [List.all_cons, List.all_nil, hfi]; rfl⟩) (by omega) ?_
        refine Le.m 0 ?_ ?_
        · exact Go.Abs.evM
        · exact Go.Abs.evN
    · skip
      have hil : i = l.length := by have := hi.1; simp at c0; omega
      subst hil
      have hr := hi.2
      rw [List.take_length] at hr
      refine AWp.exit ?_
      try simp only [thenQ, blockQ, noGo, reduceIte, Nat.reduceEqDiff]
      refine hK1 _ ?_
      refine AWp.regionW ?_
      refine AWp.ret ?_
      try simp only [thenQ, blockQ, noGo]
      refine bodyQ.m ?_
      clear hK3 K3 hK2 K2 hK1 K1
      rw [hr]
      first | done | exact Hand.go
def askC (l : List GChunk) : Bool := few22 l && right24 l
theorem ask_c (l : List GChunk) (hl : l.length ≤ 2 ^ 30) (hs : ∀ c ∈ l, Small c) : PC Tryz.prog 9 [.sl false 4 (chunksA false l)] (bool (askC l)) := by
  have k1 := few22_c l hl hs
  have k2 := right24_c l hl hs
  refine PC.of_bodyW (by simp only [push_cast]) Tryz.func9 rfl (by rw [Tryz.ntmps9]; simp) ?_
  refine AWp.regionW ?_
  refine AWp.regionA fun K1 hK1 => ?_
  refine ARun.segm 3 fun KS hKS => ?_
  refine ARun2.callM (k1) ?_
  refine ARun2.endm (hKS _ ?_); clear hKS KS
  apply ARun.grpM 2 2 true 7 [5]
  · intro g2 KG hKG
    refine ARun2.gom ?_
    refine ARun2.callM (k2) ?_
    exact ARun2.endm (hKG _ Le.grpM)
  refine ARun2.gom ?_
  refine ARun2.endm (hK1 _ ?_)
  refine AWp.ret ?_
  try simp only [thenQ, blockQ, noGo]
  refine bodyQ.m ?_
  clear hK1 K1
  simp only [askC]
  first | done | exact Hand.go
theorem ask_chs {l : List GChunk} (h : askC l = true) (hs : ∀ c ∈ l, Small c ∧ tysOk c.kids = true) : Chs l := by
  unfold askC few22 right24 at h
  simp only [Bool.and_eq_true, decide_eq_true_eq, List.all_eq_true, beq_iff_eq] at h
  exact ⟨by omega, hs, fun c hc => h.2 c hc⟩
def exC (t : Nat) : GChunk := ⟨t, 0, [], []⟩
theorem exC_small (t : Nat) (h : t < 256) : Small (exC t) := ⟨h, by show 0 < 256; decide, Nat.zero_le _, by show szs [] ≤ _; simp [szs]⟩
def ex24 : List GChunk := [exC 11, exC 99]
theorem ex24_chs : Chs ex24 := ⟨by decide, by
  intro c hc
  simp only [ex24, List.mem_cons, List.not_mem_nil, or_false] at hc
  rcases hc with rfl | rfl <;> exact ⟨exC_small _ (by decide), rfl⟩, by
  intro c hc
  simp only [ex24, List.mem_cons, List.not_mem_nil, or_false] at hc
  rcases hc with rfl | rfl <;> exact ⟨by kernel_rfl, by decide⟩⟩
theorem ex11_chs : Chs [exC 11] := ⟨by decide, by
  intro c hc
  simp only [List.mem_cons, List.not_mem_nil, or_false] at hc
  rcases hc with rfl; exact ⟨exC_small _ (by decide), rfl⟩, by
  intro c hc
  simp only [List.mem_cons, List.not_mem_nil, or_false] at hc
  rcases hc with rfl; exact ⟨by kernel_rfl, by decide⟩⟩
def ex24R : GRes := ⟨[exC 11], [.mk 6 [99, 0, 0, 4] []], [], true⟩
set_option maxRecDepth 100000 in
theorem awake24_c : PC Tryz.prog 8 [] (bool true) := by
  have w1 : disO ex24 = ex24R := by
    have e1 : (disO ex24).done = [exC 11] := by kernel_rfl
    have e2 : (disO ex24).chunks = [.mk 6 [99, 0, 0, 4] []] := by kernel_rfl
    have e3 : (disO ex24).params = [] := by kernel_rfl
    have e4 : (disO ex24).stopped = true := by kernel_rfl
    generalize disO ex24 = r at e1 e2 e3 e4
    obtain ⟨a, b, c, d⟩ := r
    simp only at e1 e2 e3 e4
    subst e1; subst e2; subst e3; subst e4; rfl
  have k1 := dof24_c ⟨0, 0, 0, ex24⟩ ex24_chs
  rw [show disO (GPkt.l ⟨0, 0, 0, ex24⟩) = ex24R from w1] at k1
  have k2 := quiet24_c ⟨0, 0, 0, [exC 11]⟩ ex11_chs
  have w2 : quietB (GPkt.l ⟨0, 0, 0, [exC 11]⟩) = true := by rw [quiet_known]; kernel_rfl
  rw [w2] at k2
  have k3 := quiet24_c ⟨0, 0, 0, ex24⟩ ex24_chs
  have w3 : quietB (GPkt.l ⟨0, 0, 0, ex24⟩) = false := by rw [quiet_known]; kernel_rfl
  rw [w3] at k3
  have k4 := dsame24_c ex24R ex24R (by rw [← w1]; exact disO_ok ex24_chs)
  rw [sameR_self] at k4
  unfold ex24R at k1 k4
  unfold ex24 at k1 k3
  unfold exC at k1 k2 k3 k4
  refine PC.of_bodyW (by simp only [push_cast]) Tryz.func8 rfl (by rw [Tryz.ntmps8]; simp) ?_
  refine AWp.regionW ?_
  refine AWp.regionW ?_
  refine AWp.regionM fun K1 hK1 => ?_
  refine ARun2.callM (k1) ?_
  refine ARun2.endm (hK1 _ ?_)
  refine AWp.regionM fun K2 hK2 => ?_
  refine ARun2.sliceHiM (1) ?_ ?_
  · simp
  refine ARun2.endm (hK2 _ ?_)
  refine AWp.regionM fun K3 hK3 => ?_
  refine ARun2.indexM (0) (nodeA false (.mk 6 [99, 0, 0, 4] [])) ?_ ?_
  · exact rfl
  refine ARun2.callM (k2) ?_
  refine ARun2.callM (k3) ?_
  refine ARun2.callM (k4) ?_
  refine ARun2.endm (hK3 _ ?_)
  refine AWp.ret ?_
  try simp only [thenQ, blockQ, noGo]
  refine bodyQ.m ?_
  clear hK3 K3 hK2 K2 hK1 K1
  first | done | exact Hand.go
end Go.Proofs.YtldoehmlpdpiaaaGreatDoor.C
namespace Go.Abs
set_option linter.unusedSectionVars false
section
variable {P : Program} {ops : Array Oper} {E : Env} {s s' : AS} {ρ : List Value} {B : Nat → Prop} {a : Act} {w w' : World} {o : Oper} {rest : List Oper} {Q : AS → Prop} {R : Exit → AS → Prop} {nds : List (List (Nat × Option Nat))} {vals : List AV} {G : Prop}
theorem slc_sl {bs sz : Nat} {xs : List AV} {v : Value} (h : Rel w B bs ρ (.slc sz xs) v) : ∃ A, v = .slice A xs.length xs.length ∧ Rel w B bs ρ (.sl false sz xs) v := by
  cases h with
  | slc h =>
    rename_i n A
    have : n = xs.length := by
      cases h with
      | slE => rfl
      | sl _ _ => simp
    subst this; exact ⟨A, rfl, h⟩
theorem slice3c_run (hs : RS E s ρ B a w) {T : TypeId} {x hi mx : Operand} {nw : Bool} {sz : Nat} {xs : List AV} {k2 k3 : IntKind} (ho : o.op = .slice T x none (some hi) (some mx)) (hx : s.ev x = .sl nw sz xs)
    (hh : s.ev hi = .val (.int k2 (N xs.length))) (hm : s.ev mx = .val (.int k3 (N xs.length))) (hz : elSz P T = some sz) : ∃ v, (execOp a.eval o).run P w = .ok (.value v) w ∧ Rel w B E.bs ρ (.slc sz xs) v := by
  obtain ⟨e, ti, zv, hu, hti, hsz, _⟩ := elSz_spec hz
  have hxr := hs.ev x
  rw [hx] at hxr
  have hcap : ∃ A c, a.eval x = .slice A xs.length c ∧ xs.length ≤ c := by
    generalize a.eval x = u at hxr
    cases hxr with
    | slE => exact ⟨_, _, rfl, Nat.zero_le _⟩
    | sl hr hc => exact ⟨_, _, rfl, hc⟩
  obtain ⟨A, c, hv, hc⟩ := hcap
  rw [hv] at hxr
  have vh := hs.ev hi; rw [hh] at vh; replace vh := vh.val_eq
  have vm := hs.ev mx; rw [hm] at vm; replace vm := vm.val_eq
  have e1 : (0 : Int) ≤ N xs.length := Int.natCast_nonneg _
  have e3 : N xs.length ≤ (c : Int) := Int.ofNat_le.2 hc
  have hr := hxr.slice (l := 0) (h := xs.length) (Nat.zero_le _) (Nat.le_refl _) xs.length (Nat.le_refl _) hc
  have e9 : (xs.take xs.length).drop 0 = xs := by simp
  rw [e9] at hr
  refine ⟨_, ?_, .slc hr.old_sl⟩
  simp only [execOp, ho]
  refine val_run ?_
  have e4 : N xs.length ≤ max (N xs.length) 0 := by omega
  have e5 : (N xs.length).toNat = xs.length := N_toNat _
  simp [Instr.sliceAt, run_underlying hu, Instr.slice, hv, Instr.sliceBounds, Instr.sliceBound, asIntOf, vh, vm, e1, e3, e4, e5, run_sizeOf hti, hsz]
  intro h
  have : N xs.length = (xs.length : Int) := rfl
  omega
theorem NSpec.slice3c {T : TypeId} {x hi mx : Operand} {nw : Bool} {sz : Nat} {xs : List AV} {k2 k3 : IntKind} (hg : gd ops s o = some true) (ho : o.op = .slice T x none (some hi) (some mx)) (hx : s.ev x = .sl nw sz xs)
    (hh : s.ev hi = .val (.int k2 (N xs.length))) (hm : s.ev mx = .val (.int k3 (N xs.length))) (hz : elSz P T = some sz) : NSpec P ops o s (.slc sz xs) :=
  NSpec.pure1 hg fun E ρ B a w ob hs => slice3c_run (s := { s with ob := s.ob ++ ob }) hs ho (by rw [ev_ob]; exact hx) (by rw [ev_ob]; exact hh) (by rw [ev_ob]; exact hm) hz
theorem Dr.slice3c {T : TypeId} {x hi mx : Operand} {nw : Bool} {sz : Nat} {xs : List AV} {k2 k3 : IntKind} (k : Dr P ops s nds (vals ++ [.slc sz xs]) G) (hn : ndsB nds = true := by first | rfl | decide) (hol : ops[vals.length]? = some o := by exact Go.Abs.evT)
    (ho : o.op = .slice T x none (some hi) (some mx) := by rfl) (hg : gd ops { s with fr := needFr s.fr vals (nds.getD vals.length []) } o = some true := by exact Go.Abs.evT) (hx : AS.ev { s with fr := needFr s.fr vals (nds.getD vals.length []) } x = .sl nw sz xs := by exact Go.Abs.evT)
    (hh : AS.ev { s with fr := needFr s.fr vals (nds.getD vals.length []) } hi = .val (.int k2 (N xs.length)) := by exact Go.Abs.evT) (hm : AS.ev { s with fr := needFr s.fr vals (nds.getD vals.length []) } mx = .val (.int k3 (N xs.length)) := by exact Go.Abs.evT) (hz : elSz P T = some sz := by exact Go.Abs.evT) : Dr P ops s nds vals G :=
  Dr.step hn hol (NSpec.slice3c hg ho hx hh hm hz) k
theorem appC_run (hs : RS E s ρ B a w) {T T2 e : TypeId} {x y : Operand} {sz : Nat} {xs ys : List AV} (ho : o.op = .call { callee := .builtin .append, args := #[x, y], argTypes := #[T, T2] }) (hx : s.ev x = .slc sz xs) (hz : elSz P T = some sz) (hT : P.underlying T = some (.slice e))
    (h2 : isSlc P T2 = true ∨ isStr P T2 = true) (hsrc : srcOf s sz (s.ev y) = some ys) (hb : 2 * (xs.length + ys.length) * elB P T ≤ 2 ^ 48) (hsm : xs.length + ys.length ≤ 2 ^ 60) (hne : 0 < ys.length) :
    ∃ v w', (execOp a.eval o).run P w = .ok (.value v) w' ∧ Same w w' ∧ w'.heap.size = w.heap.size + 1 ∧ Rel w' (fun b => B b ∨ b = w.heap.size) E.bs ρ (.sl true sz (xs ++ ys)) v := by
  obtain ⟨e', i, zv, hu, hi, hsz, hzz, hzl, hz1⟩ := elSz_spec hz
  rw [hT] at hu
  simp only [Option.some.injEq, TypeDesc.slice.injEq] at hu
  subst hu
  have heb := elB_spec hT hi
  obtain ⟨us, u1, u2, u3, u4, u5⟩ := src_run hs hsrc (hs.ev y)
  have hxr := hs.ev x
  rw [hx] at hxr
  obtain ⟨A, hv, hxr⟩ := slc_sl hxr
  have hsx : srcOf s sz (.sl false sz xs) = some xs := by simp [srcOf]
  obtain ⟨vs, v1, v2, v3, v4, v5⟩ := src_run hs hsx hxr
  have hbb : Builtin.nextslicecap (xs.length + ys.length) xs.length * i.bytes ≤ 2 ^ 48 := by
    refine Nat.le_trans (Nat.mul_le_mul_right _ (nextslicecap_le (by omega))) ?_
    rw [← heb]; exact hb
  rw [hv] at v1
  obtain ⟨cap', hcap, hrun⟩ := run_app_grow (P := P) (w := w) (T := T) (T2 := T2) (ty := o.type) (e := e) (i := i) (A := A) (n := xs.length) (c := xs.length) (m := ys.length) (xv := a.eval y) (z := zv) hT hi h2 (u2 w) (by omega) (by omega) hbb (by rw [hsz]; exact v1 _) (by rw [hsz]; exact u1 _) hzz
  have hlist : (vs.toArray ++ us.toArray ++ Builtin.zeroCells zv.cells (cap' - (xs.length + ys.length))) = List.toArray ((vs ++ us) ++ (Builtin.zeroCells zv.cells (cap' - (xs.length + ys.length))).toList) := by
    apply Array.ext'; simp
  rw [hlist] at hrun
  have hsame : Same w ({ w with drawn := w.drawn + 1 }.alloc (.cells (List.toArray ((vs ++ us) ++ (Builtin.zeroCells zv.cells (cap' - (xs.length + ys.length))).toList)) e)) :=
    have h1 := same_alloc { w with drawn := w.drawn + 1 } (.cells (List.toArray ((vs ++ us) ++ (Builtin.zeroCells zv.cells (cap' - (xs.length + ys.length))).toList)) e)
    ⟨h1.os, h1.tape, h1.output, h1.size, h1.block⟩
  refine ⟨.slice (some ⟨w.heap.size, 0, none⟩) (xs.length + ys.length) cap', _, ?_, hsame, by simp [World.alloc], ?_⟩
  · simp only [execOp, ho]
    simp [resolve, invoke, builtin, hv, hrun]
  · have hrl : RelL w B E.bs ρ ((xs ++ ys).flatMap AV.cells) (vs ++ us) := by rw [List.flatMap_append]; exact v3.append u3
    exact RelRow.fresh (sz := sz) (bs := E.bs) (xs := xs ++ ys) (n := xs.length + ys.length) (c := cap') (e := e) hs.rw_.le hs.rw_.blt hrl (by
      intro z hz
      rcases List.mem_append.1 hz with hz | hz
      · exact v5 z hz
      · exact u5 z hz) (by simp) hcap _ (0, 0) hsame (alloc_get { w with drawn := w.drawn + 1 } _)
theorem NSpec.appC {T T2 e : TypeId} {x y : Operand} {sz : Nat} {xs ys : List AV} (hg : gd ops s o = some true) (ho : o.op = .call { callee := .builtin .append, args := #[x, y], argTypes := #[T, T2] }) (hx : s.ev x = .slc sz xs) (hz : elSz P T = some sz) (hT : elT P T = some e)
    (h2 : isSlc P T2 = true ∨ isStr P T2 = true) (hsrc : srcOf s sz (s.ev y) = some ys) (hb : 2 * (xs.length + ys.length) * elB P T ≤ 2 ^ 48) (hsm : xs.length + ys.length ≤ 2 ^ 60) (hne : 0 < ys.length) : NSpec P ops o s (.sl true sz (xs ++ ys)) := by
  intro E hE ρ B a w ob hs K Q' hK
  rw [if_pos (gd_wanted (s := { s with ob := s.ob ++ ob }) hg hs)]
  have hsrc' : srcOf { s with ob := s.ob ++ ob } sz (s.ev y) = some ys := by
    have : ∀ (X : List Ob) (y : AV), srcOf s sz y = some ys → srcOf { s with ob := s.ob ++ X } sz y = some ys := by
      intro X y h
      cases y with
      | own j =>
        simp only [srcOf] at h ⊢
        cases hj : s.ob[j]? with
        | none => simp [hj] at h
        | some q => rw [hj] at h; rw [get_append_some hj]; exact h
      | val v => unfold srcOf at h ⊢; split at h <;> simp_all
      | _ => exact h
    exact this ob _ hsrc
  obtain ⟨v, w', h1, h3, h4, h5⟩ := appC_run (s := { s with ob := s.ob ++ ob }) hs ho (by rw [ev_ob]; exact hx) hz (elT_spec hT) h2 (by rw [ev_ob]; exact hsrc') hb hsm hne
  exact owp_value h1 (hK _ _ _ (hs.pubNew h3 (Nat.le_refl _) (by omega)).rj (fun _ h => .inl h) (fun b hb => h3.block b (hs.rw_.blt b hb)) h5)
theorem Dr.appC {T T2 e : TypeId} {x y : Operand} {sz : Nat} {xs ys zs : List AV} (hne : 0 < ys.length) (hb : 2 * (xs.length + ys.length) * elB P T ≤ 2 ^ 48) (hsm : xs.length + ys.length ≤ 2 ^ 60) (hzs : xs ++ ys = zs) (k : Dr P ops s nds (vals ++ [.sl true sz zs]) G) (hn : ndsB nds = true := by first | rfl | decide) (hol : ops[vals.length]? = some o := by exact Go.Abs.evT)
    (ho : o.op = .call { callee := .builtin .append, args := #[x, y], argTypes := #[T, T2] } := by rfl) (hg : gd ops { s with fr := needFr s.fr vals (nds.getD vals.length []) } o = some true := by exact Go.Abs.evT) (hx : AS.ev { s with fr := needFr s.fr vals (nds.getD vals.length []) } x = .slc sz xs := by exact Go.Abs.evT)
    (hz : elSz P T = some sz := by exact Go.Abs.evT) (he : elT P T = some e := by exact Go.Abs.evT) (h2 : (isSlc P T2 || isStr P T2) = true := by exact Go.Abs.evT) (hsrc : srcOf { s with fr := needFr s.fr vals (nds.getD vals.length []) } sz (AS.ev { s with fr := needFr s.fr vals (nds.getD vals.length []) } y) = some ys := by exact Go.Abs.evT) : Dr P ops s nds vals G :=
  Dr.step hn hol (hzs ▸ NSpec.appC hg ho hx hz he (by simpa using h2) hsrc hb hsm hne) k
theorem appC0_run (hs : RS E s ρ B a w) {T T2 e : TypeId} {x y : Operand} {sz : Nat} {xs : List AV} (ho : o.op = .call { callee := .builtin .append, args := #[x, y], argTypes := #[T, T2] }) (hx : s.ev x = .slc sz xs) (hz : elSz P T = some sz) (hT : P.underlying T = some (.slice e))
    (h2 : isSlc P T2 = true ∨ isStr P T2 = true) (hsrc : srcOf s sz (s.ev y) = some []) : ∃ v, (execOp a.eval o).run P w = .ok (.value v) w ∧ Rel w B E.bs ρ (.sl false sz xs) v := by
  obtain ⟨e', i, zv, hu, hi, hsz, hzz, hzl, hz1⟩ := elSz_spec hz
  rw [hT] at hu
  simp only [Option.some.injEq, TypeDesc.slice.injEq] at hu
  subst hu
  obtain ⟨us, u1, u2, u3, u4, u5⟩ := src_run hs hsrc (hs.ev y)
  have hus : us = [] := by simpa using u4
  subst hus
  have hxr := hs.ev x
  rw [hx] at hxr
  obtain ⟨A, hv, hxr⟩ := slc_sl hxr
  have hrun := run_app_room (P := P) (w := w) (w' := w) (T := T) (T2 := T2) (ty := o.type) (e := e) (i := i) (A := A) (n := xs.length) (c := xs.length) (m := 0) (xv := a.eval y) (new := #[]) hT hi h2 (u2 w) (by omega) (by rw [hsz]; exact u1 w.drawn) (by
    cases A with
    | none => rfl
    | some A => simp [storeCells])
  refine ⟨a.eval x, ?_, hxr⟩
  simp only [execOp, ho]
  simp [resolve, invoke, builtin, hv, hrun]
theorem NSpec.appC0 {T T2 e : TypeId} {x y : Operand} {sz : Nat} {xs : List AV} (hg : gd ops s o = some true) (ho : o.op = .call { callee := .builtin .append, args := #[x, y], argTypes := #[T, T2] }) (hx : s.ev x = .slc sz xs) (hz : elSz P T = some sz) (hT : elT P T = some e)
    (h2 : isSlc P T2 = true ∨ isStr P T2 = true) (hsrc : s.ev y = .sl false sz []) : NSpec P ops o s (.sl false sz xs) :=
  NSpec.pure1 hg fun E ρ B a w ob hs => appC0_run (s := { s with ob := s.ob ++ ob }) hs ho (by rw [ev_ob]; exact hx) hz (elT_spec hT) h2 (by rw [ev_ob, hsrc]; simp [srcOf])
theorem Dr.appC0 {T T2 e : TypeId} {x y : Operand} {sz : Nat} {xs : List AV} (k : Dr P ops s nds (vals ++ [.sl false sz xs]) G) (hn : ndsB nds = true := by first | rfl | decide) (hol : ops[vals.length]? = some o := by exact Go.Abs.evT)
    (ho : o.op = .call { callee := .builtin .append, args := #[x, y], argTypes := #[T, T2] } := by rfl) (hg : gd ops { s with fr := needFr s.fr vals (nds.getD vals.length []) } o = some true := by exact Go.Abs.evT) (hx : AS.ev { s with fr := needFr s.fr vals (nds.getD vals.length []) } x = .slc sz xs := by exact Go.Abs.evT)
    (hz : elSz P T = some sz := by exact Go.Abs.evT) (he : elT P T = some e := by exact Go.Abs.evT) (h2 : (isSlc P T2 || isStr P T2) = true := by exact Go.Abs.evT) (hsrc : AS.ev { s with fr := needFr s.fr vals (nds.getD vals.length []) } y = .sl false sz [] := by exact Go.Abs.evT) : Dr P ops s nds vals G :=
  Dr.step hn hol (NSpec.appC0 hg ho hx hz he (by simpa using h2) hsrc) k
theorem Dr.sliceHi {T : TypeId} {x hi : Operand} {nw : Bool} {sz : Nat} {xs : List AV} {k' : IntKind} (n : Nat) (hnl : n ≤ xs.length) (k : Dr P ops s nds (vals ++ [.sl nw sz (xs.take n)]) G) (hn : ndsB nds = true := by first | rfl | decide) (hol : ops[vals.length]? = some o := by exact Go.Abs.evT)
    (ho : o.op = .slice T x none (some hi) none := by rfl) (hg : gd ops { s with fr := needFr s.fr vals (nds.getD vals.length []) } o = some true := by exact Go.Abs.evT) (hx : AS.ev { s with fr := needFr s.fr vals (nds.getD vals.length []) } x = .sl nw sz xs := by exact Go.Abs.evT)
    (hh : AS.ev { s with fr := needFr s.fr vals (nds.getD vals.length []) } hi = .val (.int k' (N n)) := by exact Go.Abs.evT) (hz : elSz P T = some sz := by exact Go.Abs.evT) : Dr P ops s nds vals G := by
  refine Dr.step hn hol (NSpec.cast ?_ (NSpec.slice (l := 0) (h := N n) hg ho hx rfl (fun _ => rfl) (by rw [Option.map_some, hh]; rfl) (fun h => by cases h) hz (Int.le_refl _) (Int.natCast_nonneg n) (Int.ofNat_le.2 hnl))) k
  rw [N_toNat, Int.toNat_zero, List.drop_zero]
end
end Go.Abs
namespace Go.Proofs.YtldoehmlpdpiaaaGreatDoor.C
open Go.Abs
theorem chunksA_app (b : Bool) (l m : List GChunk) : chunksA b (l ++ m) = chunksA b l ++ chunksA b m := by unfold chunksA; rw [List.map_append]
theorem take_chs (b : Bool) (l m : List GChunk) : (chunksA b (l ++ m)).take l.length = chunksA b l := by
  rw [chunksA_app, List.take_left' (by rw [chunksA_len])]
theorem take_nds (b : Bool) (l m : List GNode) : (nodesA b (l ++ m)).take l.length = nodesA b l := by
  rw [nodesA_app, List.take_left' (by rw [nodesA_len])]
theorem sameL_self : ∀ l : List GNode, sameL l l = true
  | [] => rfl
  | n :: l => by simp only [sameL, (sameN_iff n n).2 rfl, sameL_self l, Bool.and_self]
theorem Chs.app {l m : List GChunk} (h : Chs l) (k : Chs m) (hl : l.length ≤ 20) (hm : m.length ≤ 20) : Chs (l ++ m) :=
  ⟨by rw [List.length_append]; omega, fun c hc => by rcases List.mem_append.1 hc with hc | hc; exact h.sm c hc; exact k.sm c hc, fun c hc => by rcases List.mem_append.1 hc with hc | hc; exact h.ok c hc; exact k.ok c hc⟩
theorem ask_20 {l : List GChunk} (h : askC l = true) : l.length ≤ 20 := by
  unfold askC few22 at h
  simp only [Bool.and_eq_true, decide_eq_true_eq] at h
  exact h.1.2.1
theorem begins_facts {l m : List GChunk} (h : Chs l) (k : Chs m) (h2 : Chs (l ++ m)) :
    ((disO l).stopped = true → disO (l ++ m) = disO l) ∧ ((disO l).stopped = false → ∃ D C Q t, disO (l ++ m) = ⟨(disO l).done ++ D, (disO l).chunks ++ C, Q, t⟩) := by
  obtain ⟨a, b⟩ := disO_app l m
  refine ⟨a, fun hs => ?_⟩
  obtain ⟨b1, b2⟩ := b hs
  exact ⟨_, _, (disO (l ++ m)).params, (disO (l ++ m)).stopped, by rw [← b1, ← b2]⟩
theorem begins24_big (p : GPkt) (m : List GChunk) (hl : p.l.length ≤ 2 ^ 30) (hs : ∀ c ∈ p.l, Small c) (hl2 : m.length ≤ 2 ^ 30) (hs2 : ∀ c ∈ m, Small c) (ha : (askC p.l && askC m) = false) : PC Tryz.prog 7 [pktA false p, .sl false 4 (chunksA false m)] (bool true) := by
  have kf := ask_c p.l hl hs
  have kf2 := ask_c m hl2 hs2
  generalize askC p.l = A at kf ha
  generalize askC m = A2 at kf2 ha
  refine PC.of_bodyW (by simp only [push_cast]) Tryz.func7 rfl (by rw [Tryz.ntmps7]; simp) ?_
  refine AWp.regionW ?_
  refine AWp.seqK fun K1 hK1 => ?_
  refine AWp.regionA fun K2 hK2 => ?_
  refine ARun.segm 9 fun KS hKS => ?_
  refine ARun2.callM (awake24_c) ?_
  refine ARun2.callM (kf) ?_
  refine ARun2.endm (hKS _ ?_); clear hKS KS
  apply ARun.grpM 3 8 false 22 [1, 2, 19]
  · intro g8 KG hKG
    refine ARun2.gom ?_
    refine ARun2.callM (kf2) ?_
    exact ARun2.endm (hKG _ Le.grpM)
  refine ARun2.gom ?_
  refine ARun2.endm (hK2 _ ?_)
  refine AWp.condLM (fun c0 => ?_) (fun c0 => ?_)
  · skip
    refine AWp.regionM fun K3 hK3 => ?_
    refine ARun2.callM (awake24_c) ?_
    refine ARun2.endm (hK3 _ ?_)
    refine AWp.ret ?_
    try simp only [thenQ, blockQ, noGo]
    refine bodyQ.m ?_
    clear hK3 K3 hK2 K2 hK1 K1
    first | done | exact Hand.go
  · skip
    exfalso; revert c0; cases A <;> cases A2 <;> simp_all
set_option maxHeartbeats 1000000 in
theorem begins24_more (p : GPkt) (m : List GChunk) (h1 : askC p.l = true) (h2 : askC m = true) (hs : ∀ c ∈ p.l, Small c ∧ tysOk c.kids = true) (hs2 : ∀ c ∈ m, Small c ∧ tysOk c.kids = true) (hne : 0 < m.length) : PC Tryz.prog 7 [pktA false p, .sl false 4 (chunksA false m)] (bool true) := by
  have hc := ask_chs h1 hs
  have hm := ask_chs h2 hs2
  have h20 := ask_20 h1
  have hm20 := ask_20 h2
  have hcm := hc.app hm h20 hm20
  have kf := ask_c p.l (by omega) (fun c hc => (hs c hc).1)
  rw [h1] at kf
  have kf2 := ask_c m (by omega) (fun c hc => (hs2 c hc).1)
  rw [h2] at kf2
  have k1 := dof24_c p hc
  have k3 := rof24_c p hc
  have k2 := dof24_c ⟨p.src, p.dst, p.tag, p.l ++ m⟩ hcm
  have ho := disO_ok hc
  obtain ⟨hT, hF⟩ := begins_facts hc hm hcm
  have k4 := rsame24_c (disO p.l) (disO p.l) ho
  rw [sameR_self] at k4
  have k5 := rsamec_c (disO p.l).done (disO p.l).done ho.len ho.done
  rw [(sameLC_iff _ _).2 rfl] at k5
  have k6 := same08_c (disO p.l).chunks (disO p.l).chunks ho.chunks
  rw [sameL_self] at k6
  clear ho hc hm hcm
  obtain ⟨src, dst, tag, l⟩ := p
  simp only at k1 k2 k3 k4 k5 k6 kf hT hF h20
  generalize disO (l ++ m) = r2 at k2 hT hF
  generalize disO l = r at k1 k3 k4 k5 k6 hT hF
  obtain ⟨D, C, Q, st⟩ := r
  obtain ⟨D2, C2, Q2, st2⟩ := r2
  simp only at k1 k2 k3 k4 k5 k6 hT hF
  have a1 : 0 < (chunksA false m).length := by rw [chunksA_len]; exact hne
  have a3 : (chunksA false l).length + (chunksA false m).length ≤ 2 ^ 60 := by rw [chunksA_len, chunksA_len]; omega
  have a2 : 2 * ((chunksA false l).length + (chunksA false m).length) * elB Tryz.prog 26 ≤ 2 ^ 48 := by rw [chunksA_len, chunksA_len, YtldoehmlpdpiaaaGreatDoor.Facts.eb26]; omega
  refine PC.of_bodyW (by simp only [push_cast]) Tryz.func7 rfl (by rw [Tryz.ntmps7]; simp) ?_
  refine AWp.regionW ?_
  refine AWp.seqK fun K1 hK1 => ?_
  refine AWp.regionM fun K2 hK2 => ?_
  refine ARun2.callM (awake24_c) ?_
  refine ARun2.callM (kf) ?_
  refine ARun2.callM (kf2) ?_
  refine ARun2.endm (hK2 _ ?_)
  refine AWp.condF ?_
  refine AWp.skip ?_
  refine hK1 _ ?_
  refine AWp.regionM fun K3 hK3 => ?_
  refine ARun2.callM (k1) ?_
  refine ARun2.endm (hK3 _ ?_)
  refine AWp.regionW ?_
  refine AWp.drS [[(2, none)], [(30, some 0)], [(2, none)], [(32, some 2)], [(6, none)], [(6, none)], [(33, some 3), (34, some 4), (35, some 5)], [(1, none)], [(36, some 6), (37, some 7)], [(31, some 1), (38, some 8)], []] fun G hG => ?_
  refine Dr.sim ?_
  try simp only [List.cons_append, List.nil_append]
  refine Dr.sim ?_
  try simp only [List.cons_append, List.nil_append]
  refine Dr.sim ?_
  try simp only [List.cons_append, List.nil_append]
  refine Dr.sim ?_
  try simp only [List.cons_append, List.nil_append]
  refine Dr.sim ?_
  try simp only [List.cons_append, List.nil_append]
  refine Dr.sim ?_
  try simp only [List.cons_append, List.nil_append]
  refine Dr.slice3c ?_
  refine Dr.sim ?_
  try simp only [List.cons_append, List.nil_append]
  refine Dr.appC (xs := chunksA false l) (ys := chunksA false m) (zs := chunksA false (l ++ m)) a1 a2 a3 (chunksA_app false l m).symm ?_
  refine Dr.sim ?_
  try simp only [List.cons_append, List.nil_append]
  refine Dr.al ?_
  try simp only [List.cons_append, List.nil_append]
  refine Dr.finA (n := 11) 10 [(39, 9), (7, 10)] [2, 5] hG YtldoehmlpdpiaaaGreatDoor.Facts.mixed fun KD hKD => ?_
  refine ARun2.endm (hKD _ ?_); clear hKD KD hG G
  refine AWp.regionM fun K4 hK4 => ?_
  refine ARun2.callM (k2) ?_
  refine ARun2.endm (hK4 _ ?_)
  refine AWp.seqK fun K5 hK5 => ?_
  refine AWp.regionM fun K6 hK6 => ?_
  refine ARun2.callM (k3) ?_
  refine ARun2.endm (hK6 _ ?_)
  refine AWp.condLM (fun c1 => ?_) (fun c1 => ?_)
  · skip
    subst c1
    obtain ⟨rfl, rfl, rfl, rfl⟩ : D2 = D ∧ C2 = C ∧ Q2 = Q ∧ st2 = true := by simpa using hT rfl
    refine AWp.regionM fun K7 hK7 => ?_
    refine ARun2.callM (k4) ?_
    refine ARun2.endm (hK7 _ ?_)
    refine AWp.ret ?_
    try simp only [thenQ, blockQ, noGo]
    refine bodyQ.m ?_
    clear hK7 K7 hK6 K6 hK5 K5 hK4 K4 hK3 K3 hK2 K2 hK1 K1
    first | done | exact Hand.go
  · skip
    subst c1
    obtain ⟨D3, C3, Q3, t3, he⟩ := hF rfl
    obtain ⟨rfl, rfl, rfl, rfl⟩ : D2 = D ++ D3 ∧ C2 = C ++ C3 ∧ Q2 = Q3 ∧ st2 = t3 := by simpa using he
    refine AWp.skip ?_
    refine hK5 _ ?_
    refine AWp.regionW ?_
    refine AWp.regionW ?_
    refine AWp.drS [[(8, none)], [(54, some 0)], [(55, some 1)], [(9, none)], [(56, some 2), (57, some 3)], [(58, some 4)], [(8, none), (59, some 5)], [(60, some 6), (59, some 5)], [(9, none), (59, some 5)], [(61, some 7), (62, some 8), (59, some 5)], [(5, none), (59, some 5)], [(64, some 10), (59, some 5)], [(63, some 9), (65, some 11), (59, some 5)], [(59, some 5), (66, some 12)], [(67, some 13)], [(8, none), (68, some 14)], [(69, some 15), (68, some 14)], [(70, some 16), (68, some 14)], [(10, none), (68, some 14)], [(71, some 17), (72, some 18), (68, some 14)], [(68, some 14), (73, some 19)], [(74, some 20)], [(8, none), (75, some 21)], [(76, some 22), (75, some 21)], [(10, none), (75, some 21)], [(77, some 23), (78, some 24), (75, some 21)], [(5, none), (75, some 21)], [(80, some 26), (75, some 21)], [(79, some 25), (81, some 27), (75, some 21)], [(75, some 21), (82, some 28)], [(83, some 29)]] fun G hG => ?_
    refine Dr.sim ?_
    try simp only [List.cons_append, List.nil_append]
    refine Dr.sim ?_
    try simp only [List.cons_append, List.nil_append]
    refine Dr.sim ?_
    try simp only [List.cons_append, List.nil_append]
    refine Dr.sim ?_
    try simp only [List.cons_append, List.nil_append]
    refine Dr.sim ?_
    try simp only [List.cons_append, List.nil_append]
    simp only [Nat.le_add_right, decide_true]
    refine Dr.sim ?_
    try simp only [List.cons_append, List.nil_append]
    refine Dr.simg ?_
    try simp only [List.cons_append, List.nil_append]
    refine Dr.simg ?_
    try simp only [List.cons_append, List.nil_append]
    refine Dr.simg ?_
    try simp only [List.cons_append, List.nil_append]
    refine Dr.sliceHi (D.length) ?_ ?_
    · rw [chunksA_len, List.length_append]; omega
    try simp only [List.cons_append, List.nil_append]
    rw [take_chs]
    refine Dr.simg ?_
    try simp only [List.cons_append, List.nil_append]
    refine Dr.simg ?_
    try simp only [List.cons_append, List.nil_append]
    refine Dr.callg (fun g5 => k5) ?_
    try simp only [List.cons_append, List.nil_append]
    refine Dr.sim ?_
    try simp only [List.cons_append, List.nil_append]
    refine Dr.sim ?_
    try simp only [List.cons_append, List.nil_append]
    refine Dr.simg ?_
    try simp only [List.cons_append, List.nil_append]
    refine Dr.simg ?_
    try simp only [List.cons_append, List.nil_append]
    refine Dr.simg ?_
    try simp only [List.cons_append, List.nil_append]
    refine Dr.simg ?_
    try simp only [List.cons_append, List.nil_append]
    refine Dr.simg ?_
    try simp only [List.cons_append, List.nil_append]
    simp only [Nat.le_add_right, decide_true]
    refine Dr.sim ?_
    try simp only [List.cons_append, List.nil_append]
    refine Dr.sim ?_
    try simp only [List.cons_append, List.nil_append]
    refine Dr.simg ?_
    try simp only [List.cons_append, List.nil_append]
    refine Dr.simg ?_
    try simp only [List.cons_append, List.nil_append]
    refine Dr.simg ?_
    try simp only [List.cons_append, List.nil_append]
    refine Dr.sliceHi (C.length) ?_ ?_
    · rw [nodesA_len, List.length_append]; omega
    try simp only [List.cons_append, List.nil_append]
    rw [take_nds]
    refine Dr.simg ?_
    try simp only [List.cons_append, List.nil_append]
    refine Dr.simg ?_
    try simp only [List.cons_append, List.nil_append]
    refine Dr.callg (fun g21 => k6) ?_
    try simp only [List.cons_append, List.nil_append]
    refine Dr.sim ?_
    try simp only [List.cons_append, List.nil_append]
    refine Dr.sim ?_
    try simp only [List.cons_append, List.nil_append]
    refine Dr.finM (n := 31) [(4, 30)] [] hG YtldoehmlpdpiaaaGreatDoor.Facts.mixed fun KD hKD => ?_
    refine ARun2.endm (hKD _ ?_); clear hKD KD hG G
    refine AWp.ret ?_
    try simp only [thenQ, blockQ, noGo]
    refine bodyQ.m ?_
    clear hK6 K6 hK5 K5 hK4 K4 hK3 K3 hK2 K2 hK1 K1
    first | done | exact Hand.go
set_option maxHeartbeats 1000000 in
theorem begins24_none (p : GPkt) (m : List GChunk) (h1 : askC p.l = true) (h2 : askC m = true) (hs : ∀ c ∈ p.l, Small c ∧ tysOk c.kids = true) (hs2 : ∀ c ∈ m, Small c ∧ tysOk c.kids = true) (hne : m = []) : PC Tryz.prog 7 [pktA false p, .sl false 4 (chunksA false m)] (bool true) := by
  have hc := ask_chs h1 hs
  have hm := ask_chs h2 hs2
  have h20 := ask_20 h1
  have hm20 := ask_20 h2
  have hcm := hc.app hm h20 hm20
  have kf := ask_c p.l (by omega) (fun c hc => (hs c hc).1)
  rw [h1] at kf
  have kf2 := ask_c m (by omega) (fun c hc => (hs2 c hc).1)
  rw [h2] at kf2
  have k1 := dof24_c p hc
  have k3 := rof24_c p hc
  have k2 := dof24_c ⟨p.src, p.dst, p.tag, p.l ++ m⟩ hcm
  have ho := disO_ok hc
  obtain ⟨hT, hF⟩ := begins_facts hc hm hcm
  have k4 := rsame24_c (disO p.l) (disO p.l) ho
  rw [sameR_self] at k4
  have k5 := rsamec_c (disO p.l).done (disO p.l).done ho.len ho.done
  rw [(sameLC_iff _ _).2 rfl] at k5
  have k6 := same08_c (disO p.l).chunks (disO p.l).chunks ho.chunks
  rw [sameL_self] at k6
  clear ho hc hm hcm
  obtain ⟨src, dst, tag, l⟩ := p
  simp only at k1 k2 k3 k4 k5 k6 kf hT hF h20
  generalize disO (l ++ m) = r2 at k2 hT hF
  generalize disO l = r at k1 k3 k4 k5 k6 hT hF
  obtain ⟨D, C, Q, st⟩ := r
  obtain ⟨D2, C2, Q2, st2⟩ := r2
  simp only at k1 k2 k3 k4 k5 k6 hT hF
  subst hne
  rw [List.append_nil] at k2
  refine PC.of_bodyW (by simp only [push_cast]) Tryz.func7 rfl (by rw [Tryz.ntmps7]; simp) ?_
  refine AWp.regionW ?_
  refine AWp.seqK fun K1 hK1 => ?_
  refine AWp.regionM fun K2 hK2 => ?_
  refine ARun2.callM (awake24_c) ?_
  refine ARun2.callM (kf) ?_
  refine ARun2.callM (kf2) ?_
  refine ARun2.endm (hK2 _ ?_)
  refine AWp.condF ?_
  refine AWp.skip ?_
  refine hK1 _ ?_
  refine AWp.regionM fun K3 hK3 => ?_
  refine ARun2.callM (k1) ?_
  refine ARun2.endm (hK3 _ ?_)
  refine AWp.regionW ?_
  refine AWp.drS [[(2, none)], [(30, some 0)], [(2, none)], [(32, some 2)], [(6, none)], [(6, none)], [(33, some 3), (34, some 4), (35, some 5)], [(1, none)], [(36, some 6), (37, some 7)], [(31, some 1), (38, some 8)], []] fun G hG => ?_
  refine Dr.sim ?_
  try simp only [List.cons_append, List.nil_append]
  refine Dr.sim ?_
  try simp only [List.cons_append, List.nil_append]
  refine Dr.sim ?_
  try simp only [List.cons_append, List.nil_append]
  refine Dr.sim ?_
  try simp only [List.cons_append, List.nil_append]
  refine Dr.sim ?_
  try simp only [List.cons_append, List.nil_append]
  refine Dr.sim ?_
  try simp only [List.cons_append, List.nil_append]
  refine Dr.slice3c ?_
  refine Dr.sim ?_
  try simp only [List.cons_append, List.nil_append]
  refine Dr.appC0 ?_
  refine Dr.sim ?_
  try simp only [List.cons_append, List.nil_append]
  refine Dr.al ?_
  try simp only [List.cons_append, List.nil_append]
  refine Dr.finA (n := 11) 10 [(39, 9), (7, 10)] [2, 5] hG YtldoehmlpdpiaaaGreatDoor.Facts.mixed fun KD hKD => ?_
  refine ARun2.endm (hKD _ ?_); clear hKD KD hG G
  refine AWp.regionM fun K4 hK4 => ?_
  refine ARun2.callM (k2) ?_
  refine ARun2.endm (hK4 _ ?_)
  refine AWp.seqK fun K5 hK5 => ?_
  refine AWp.regionM fun K6 hK6 => ?_
  refine ARun2.callM (k3) ?_
  refine ARun2.endm (hK6 _ ?_)
  refine AWp.condLM (fun c1 => ?_) (fun c1 => ?_)
  · skip
    subst c1
    obtain ⟨rfl, rfl, rfl, rfl⟩ : D2 = D ∧ C2 = C ∧ Q2 = Q ∧ st2 = true := by simpa using hT rfl
    refine AWp.regionM fun K7 hK7 => ?_
    refine ARun2.callM (k4) ?_
    refine ARun2.endm (hK7 _ ?_)
    refine AWp.ret ?_
    try simp only [thenQ, blockQ, noGo]
    refine bodyQ.m ?_
    clear hK7 K7 hK6 K6 hK5 K5 hK4 K4 hK3 K3 hK2 K2 hK1 K1
    first | done | exact Hand.go
  · skip
    subst c1
    obtain ⟨D3, C3, Q3, t3, he⟩ := hF rfl
    obtain ⟨rfl, rfl, rfl, rfl⟩ : D2 = D ++ D3 ∧ C2 = C ++ C3 ∧ Q2 = Q3 ∧ st2 = t3 := by simpa using he
    refine AWp.skip ?_
    refine hK5 _ ?_
    refine AWp.regionW ?_
    refine AWp.regionW ?_
    refine AWp.drS [[(8, none)], [(54, some 0)], [(55, some 1)], [(9, none)], [(56, some 2), (57, some 3)], [(58, some 4)], [(8, none), (59, some 5)], [(60, some 6), (59, some 5)], [(9, none), (59, some 5)], [(61, some 7), (62, some 8), (59, some 5)], [(5, none), (59, some 5)], [(64, some 10), (59, some 5)], [(63, some 9), (65, some 11), (59, some 5)], [(59, some 5), (66, some 12)], [(67, some 13)], [(8, none), (68, some 14)], [(69, some 15), (68, some 14)], [(70, some 16), (68, some 14)], [(10, none), (68, some 14)], [(71, some 17), (72, some 18), (68, some 14)], [(68, some 14), (73, some 19)], [(74, some 20)], [(8, none), (75, some 21)], [(76, some 22), (75, some 21)], [(10, none), (75, some 21)], [(77, some 23), (78, some 24), (75, some 21)], [(5, none), (75, some 21)], [(80, some 26), (75, some 21)], [(79, some 25), (81, some 27), (75, some 21)], [(75, some 21), (82, some 28)], [(83, some 29)]] fun G hG => ?_
    refine Dr.sim ?_
    try simp only [List.cons_append, List.nil_append]
    refine Dr.sim ?_
    try simp only [List.cons_append, List.nil_append]
    refine Dr.sim ?_
    try simp only [List.cons_append, List.nil_append]
    refine Dr.sim ?_
    try simp only [List.cons_append, List.nil_append]
    refine Dr.sim ?_
    try simp only [List.cons_append, List.nil_append]
    simp only [Nat.le_add_right, decide_true]
    refine Dr.sim ?_
    try simp only [List.cons_append, List.nil_append]
    refine Dr.simg ?_
    try simp only [List.cons_append, List.nil_append]
    refine Dr.simg ?_
    try simp only [List.cons_append, List.nil_append]
    refine Dr.simg ?_
    try simp only [List.cons_append, List.nil_append]
    refine Dr.sliceHi (D.length) ?_ ?_
    · rw [chunksA_len, List.length_append]; omega
    try simp only [List.cons_append, List.nil_append]
    rw [take_chs]
    refine Dr.simg ?_
    try simp only [List.cons_append, List.nil_append]
    refine Dr.simg ?_
    try simp only [List.cons_append, List.nil_append]
    refine Dr.callg (fun g5 => k5) ?_
    try simp only [List.cons_append, List.nil_append]
    refine Dr.sim ?_
    try simp only [List.cons_append, List.nil_append]
    refine Dr.sim ?_
    try simp only [List.cons_append, List.nil_append]
    refine Dr.simg ?_
    try simp only [List.cons_append, List.nil_append]
    refine Dr.simg ?_
    try simp only [List.cons_append, List.nil_append]
    refine Dr.simg ?_
    try simp only [List.cons_append, List.nil_append]
    refine Dr.simg ?_
    try simp only [List.cons_append, List.nil_append]
    refine Dr.simg ?_
    try simp only [List.cons_append, List.nil_append]
    simp only [Nat.le_add_right, decide_true]
    refine Dr.sim ?_
    try simp only [List.cons_append, List.nil_append]
    refine Dr.sim ?_
    try simp only [List.cons_append, List.nil_append]
    refine Dr.simg ?_
    try simp only [List.cons_append, List.nil_append]
    refine Dr.simg ?_
    try simp only [List.cons_append, List.nil_append]
    refine Dr.simg ?_
    try simp only [List.cons_append, List.nil_append]
    refine Dr.sliceHi (C.length) ?_ ?_
    · rw [nodesA_len, List.length_append]; omega
    try simp only [List.cons_append, List.nil_append]
    rw [take_nds]
    refine Dr.simg ?_
    try simp only [List.cons_append, List.nil_append]
    refine Dr.simg ?_
    try simp only [List.cons_append, List.nil_append]
    refine Dr.callg (fun g21 => k6) ?_
    try simp only [List.cons_append, List.nil_append]
    refine Dr.sim ?_
    try simp only [List.cons_append, List.nil_append]
    refine Dr.sim ?_
    try simp only [List.cons_append, List.nil_append]
    refine Dr.finM (n := 31) [(4, 30)] [] hG YtldoehmlpdpiaaaGreatDoor.Facts.mixed fun KD hKD => ?_
    refine ARun2.endm (hKD _ ?_); clear hKD KD hG G
    refine AWp.ret ?_
    try simp only [thenQ, blockQ, noGo]
    refine bodyQ.m ?_
    clear hK6 K6 hK5 K5 hK4 K4 hK3 K3 hK2 K2 hK1 K1
    first | done | exact Hand.go
theorem begins24_c (p : GPkt) (m : List GChunk) (hl : p.l.length ≤ 2 ^ 30) (hs : ∀ c ∈ p.l, Small c ∧ tysOk c.kids = true) (hl2 : m.length ≤ 2 ^ 30) (hs2 : ∀ c ∈ m, Small c ∧ tysOk c.kids = true) : PC Tryz.prog 7 [pktA false p, .sl false 4 (chunksA false m)] (bool true) := by
  cases ha : askC p.l && askC m with
  | false => exact begins24_big p m hl (fun c hc => (hs c hc).1) hl2 (fun c hc => (hs2 c hc).1) ha
  | true =>
    obtain ⟨h1, h2⟩ := (Bool.and_eq_true _ _).mp ha
    rcases Nat.eq_zero_or_pos m.length with h0 | h0
    · exact begins24_none p m h1 h2 hs hs2 (List.length_eq_zero_iff.1 h0)
    · exact begins24_more p m h1 h2 hs hs2 h0
end Go.Proofs.YtldoehmlpdpiaaaGreatDoor.C
namespace Go.Abs
open Go.ChangeShapes Go.WideShapes Go.RowKit
set_option linter.unusedSectionVars false
abbrev Old (W : World) : Nat → Prop := fun b => b < W.heap.size
theorem RW.start (W : World) : RW (E0 W.heap.size W (Old W) []) [] [] (Old W) W :=
  { ep := Nat.le_refl _, os := rfl, tape := rfl, output := rfl, size := Nat.le_refl _, block := fun _ _ _ => rfl, pre := fun k v h => by simp at h, bsub := fun _ h => h, bnew := fun _ h => .inl h,
    blt := fun _ h => h, len := rfl, obs := fun k o h => by simp at h, dis := fun i j o o' u v b _ h => by simp at h, prv := fun k o v b h => by simp at h }
theorem PC.answers {P : Program} {f : FuncId} {ys : List AV} {v : Value} (h : PC P f ys (.val v)) {W : World} (hg : Globs W (Old W) []) {args : Array Value} (ha : RelL W (Old W) W.heap.size [] ys args.toList) :
    Calls P f args W fun e W' => e = .returned v ∧ Below W.heap.size W W' := by
  have := h.2 W.heap.size W [] (Old W) args.toList hg (RW.start W) ha (fun e W' => e = .returned v ∧ Below W.heap.size W W') (by
    rintro r' v' τ' ρ' B' w' ⟨rfl, rfl⟩ hw hr
    cases hr
    exact ⟨rfl, ⟨hw.os, hw.tape, hw.output, hw.size, fun k hk => hw.block k hk ⟨fun ⟨u, hu, _⟩ => by simp at hu, fun h => by cases h⟩⟩⟩)
  simpa using this
section
variable {H : Type} {enc : TypeId × Value → H} {P : Program} {W W' : World}
theorem trodAll_stays (hl : laidOutB P = true) (hb : Below W.heap.size W W') {sp' : Nat → Bool} : ∀ {ts : List TypeId} {vs : List Value} {ds : List (DataW H)} {ps : List MemPlace}, (∀ t ∈ ts, P.readableRec t = true ∧ t < P.types.size) →
    DataW.TrodAll enc P W 0 (fun _ => true) true ts vs ds ps → (∀ p ∈ ps, p.block < W.heap.size) → (∀ p ∈ ps, sp' p.block = true) → DataW.TrodAll enc P W' 0 sp' true ts vs ds ps
  | [], _, _, _, _, h, _, _ => by
    obtain ⟨rfl, rfl, rfl⟩ := trodAll_nil h
    rfl
  | t :: ts, _, _, _, ht, h, hlt, hs => by
    obtain ⟨v, vs1, d, ds1, a, b, rfl, rfl, rfl, h1, h2⟩ := trodAll_cons h
    have := ht t (by simp)
    exact ⟨a, b, WideElems.Trod_stays hl this.1 this.2 h1 (fun x hx => hb.same (hlt x (by simp [hx]))) (fun x hx => hs x (by simp [hx])),
      trodAll_stays hl hb (fun u hu => ht u (by simp [hu])) h2 (fun x hx => hlt x (by simp [hx])) (fun x hx => hs x (by simp [hx])), rfl⟩
theorem post_true {f : Func} {s : ChangeSpec} {fresh : Bool} {args : Array Value} {ds gs : List (DataW H)} {before : List MemPlace} {tb : TypeId}
    (hW : DataW.Whole enc P f.params.toList s.vars false W args.toList ds gs before) (hv : s.vars = []) (hs : s.fn H (ds ++ gs) = { results := [.lit (.bool true)], args := ds }) (hr : f.resultTypes = #[tb]) (hb : P.underlying tb = some .bool)
    (hl : laidOutB P = true) (ht : (f.params.toList.all fun t => P.readableRec t && decide (t < P.types.size)) = true) (hB : Below W.heap.size W W') :
    s.post enc P f false fresh false false W args (.bool true) W' := by
  have hW0 := hW
  obtain ⟨p, q, hA, hV, rfl, hfz, _⟩ := hW
  rw [hv] at hV
  have hg : gs = [] ∧ q = [] := by
    cases gs with
    | nil => exact ⟨rfl, hV⟩
    | cons g gs => exact hV.elim
  obtain ⟨rfl, rfl⟩ := hg
  have hlt : ∀ x ∈ p ++ [], x.block < W.heap.size := fun x hx => by simpa using hW0.lt x hx
  refine ⟨ds, [], p ++ [], [], p, [], hW0, ?_, ?_, ?_, ?_, fun h => by cases h⟩
  · rw [hs, hr]
    exact trodAll_cons_mk (p := []) (p' := []) (shut_bool hb _) trodAll_mk0
  · rw [hs]
    refine trodAll_stays hl hB (fun t h => ?_) hA (fun x hx => hlt x (by simp [hx])) (fun x hx => by simpa using hlt x (by simp [hx]))
    have := List.all_eq_true.1 ht t h
    simpa using this
  · rw [hs, hv]; exact rfl
  · refine ⟨hB.os, hB.output, fun i hi => ?_⟩
    rw [hB.block i hi]
    cases W.heap[i]? with
    | none => rfl
    | some o => cases o <;> simp
theorem addr_of_cell {w : World} {a : Addr} {v : Value} (h : w.cell? a = some v) : a.spot = none := by
  unfold World.cell? at h
  split at h
  · split at h
    · cases h
    · rename_i hs; cases hh : a.spot <;> simp_all
  · cases h
theorem rel_ints0 {t e : TypeId} {k : IntKind} {v : Value} {d : DataW H} {ps : List MemPlace} {fuel : Nat} (ht : P.underlying t = some (.slice e)) (he : P.underlying e = some (.int k)) (hc : P.cellsOf e = 1)
    (hf : DataW.trod enc P W 0 (fun _ => true) true fuel t [v] = some (d, ps)) :
    ∃ (zs : List Int), Rel W (Old W) W.heap.size [] (.sl false 1 (zs.map fun n => .val (.int k n))) v ∧ (∀ n ∈ zs, (Lit.int k n).wf = true) ∧ ((d = .nil ∧ zs = []) ∨ ∃ rest, d = .slice (lits k zs) rest) := by
  rcases open_ints ht he hc hf with ⟨h1, h2⟩ | ⟨a, len, cap, zs, h1, h2, h3, h4, h5, h6, h7, h8⟩
  · simp only [List.cons.injEq, and_true] at h1
    subst h1
    exact ⟨[], .slE _ _ _ _, by simp, .inl ⟨congrArg Prod.fst h2, rfl⟩⟩
  · simp only [List.cons.injEq, and_true] at h1
    subst h1
    simp only [if_true] at h5
    refine ⟨zs.take len, ?_, fun n hn => h8 n (List.mem_of_mem_take hn), .inr ⟨_, congrArg Prod.fst h6⟩⟩
    have hlen : (zs.take len).length = len := by rw [List.length_take]; omega
    cases hq : zs.take len with
    | nil =>
      rw [hq] at hlen
      simp at hlen
      subst hlen
      exact .slE _ _ _ _
    | cons z l =>
      have hpos : 0 < zs.length := by rw [hq] at hlen; simp at hlen; omega
      have h0 := h7 0 hpos
      have hsp : a.spot = none := addr_of_cell (show W.cell? a = _ from h0)
      obtain ⟨b, o, sp⟩ := a
      simp only at hsp
      subst hsp
      have hblk : b < W.heap.size := by
        have := World.block_lt_of_cell? W _ h0
        simpa [Addr.add] using this
      rw [hq] at hlen
      simp only [List.length_cons] at hlen
      subst hlen
      have hrow := RelRow.mk (w := W) (B := Old W) (bs := W.heap.size) (ρ := []) (nw := false) (b := b) (sz := 1) (o := o) (xs := (z :: l).map fun n => AV.val (.int k n)) (vs := (z :: l).map fun n => Value.int k n) hblk (fun h => by cases h) ?_ ?_ ?_
      · have := Rel.sl (cap := cap) (by simpa using hrow) (by simpa using h3)
        simpa using this
      · have : (((z :: l).map fun n => AV.val (.int k n)).flatMap AV.cells) = ((z :: l).map fun n => Value.int k n).map AV.val := by
          generalize z :: l = m
          induction m with
          | nil => rfl
          | cons x m ih => simp only [List.map_cons, List.flatMap_cons, ih]; rfl
        rw [this]
        have key : ∀ l : List Value, RelL W (Old W) W.heap.size [] (l.map AV.val) l := fun l => by induction l with
          | nil => exact .nil
          | cons x l ih => exact .cons (.val x) ih
        exact key _
      · intro x hx
        simp only [List.mem_map] at hx
        obtain ⟨n, _, rfl⟩ := hx
        exact ⟨rfl, fun c hc => by simp [AV.cells] at hc; subst hc; rfl⟩
      · intro j v hj
        rw [← hq, List.getElem?_map, List.getElem?_take] at hj
        split at hj
        · rename_i hjl
          simp only [Option.map_eq_some_iff] at hj
          obtain ⟨n, hn, rfl⟩ := hj
          have hlt : j < zs.length := by have := List.getElem?_eq_some_iff.1 hn; exact this.1
          have := h7 j hlt
          rw [addr_add] at this
          rw [this, List.getD_eq_getElem?_getD, hn]; rfl
        · simp at hj
end
end Go.Abs
namespace Go.Proofs.YtldoehmlpdpiaaaGreatDoor.C
open Go.Abs Go.ChangeShapes Go.WideShapes Go.ChangeAt Go.RowKit
theorem own : ownKnob Tryz.prog.godebug = none := by kernel_rfl
theorem laidOut : laidOutB Tryz.prog = true := by kernel_rfl
theorem nat_of {n : Int} {m : Nat} (h : 0 ≤ n ∧ n ≤ m) : ∃ x : Nat, n = N x ∧ x < m + 1 := ⟨n.toNat, by unfold N; omega, by omega⟩
theorem u8_of {n : Int} (h : (Lit.int .u8 n).wf = true) : ∃ m : Nat, n = N m ∧ m < 2 ^ 8 := nat_of (m := 255) (by simpa [Lit.wf, IntKind.min, IntKind.max, IntKind.signed, IntKind.bits] using h)
theorem u16_of {n : Int} (h : (Lit.int .u16 n).wf = true) : ∃ m : Nat, n = N m ∧ m < 2 ^ 16 := nat_of (m := 65535) (by simpa [Lit.wf, IntKind.min, IntKind.max, IntKind.signed, IntKind.bits] using h)
theorem u32_of {n : Int} (h : (Lit.int .u32 n).wf = true) : ∃ m : Nat, n = N m ∧ m < 2 ^ 32 := nat_of (m := 4294967295) (by simpa [Lit.wf, IntKind.min, IntKind.max, IntKind.signed, IntKind.bits] using h)
theorem int_bounds {k : IntKind} {n : Int} (h : (Lit.int k n).wf = true) : k.min ≤ n ∧ n ≤ k.max := by simpa [Lit.wf] using h
theorem bys_of {zs : List Int} (h : ∀ n ∈ zs, (Lit.int .u8 n).wf = true) : (zs.map fun n => AV.val (.int .u8 n)) = bys (zs.map fun n => UInt8.ofNat n.toNat) := by
  unfold bys
  rw [List.map_map]
  refine List.map_congr_left fun n hn => ?_
  have h2 : 0 ≤ n ∧ n ≤ 255 := by simpa [Lit.wf, IntKind.min, IntKind.max, IntKind.signed, IntKind.bits] using h n hn
  have h3 : N (UInt8.ofNat n.toNat).toNat = n := by
    rw [UInt8.toNat_ofNat']; unfold N; omega
  show AV.val (.int .u8 n) = .val (.int .u8 (N (UInt8.ofNat n.toNat).toNat))
  rw [h3]
theorem bulk_one {H : Type} (d : DataW H) : 1 ≤ Rows.uptoBulk d := by
  cases d with
  | lit l => cases l <;> simp [Rows.uptoBulk]
  | _ => simp [Rows.uptoBulk]
theorem bulk_len {H : Type} : ∀ l : List (DataW H), l.length ≤ Rows.uptoBulkAll l
  | [] => by simp [Rows.uptoBulkAll]
  | x :: r => by
    have h1 := bulk_one x
    have h2 := bulk_len r
    simp only [Rows.uptoBulkAll, List.length_cons]; omega
theorem bulk_lits' {H : Type} (k : IntKind) (zs : List Int) (rest : List (DataW H)) : zs.length + 1 ≤ Rows.uptoBulk (.slice (lits k zs) rest : DataW H) := by
  have := bulk_len (lits k zs : List (DataW H))
  simp only [lits, List.length_map] at this
  simp only [Rows.uptoBulk, lits]
  omega
section
variable {H : Type} {enc : TypeId × Value → H} {W : World}
theorem rel_bytes0 {v : Value} {d : DataW H} {ps : List MemPlace} {fuel : Nat} (hf : DataW.trod enc Tryz.prog W 0 (fun _ => true) true fuel 40 [v] = some (d, ps)) :
    ∃ l : List UInt8, Rel W (Old W) W.heap.size [] (.sl false 1 (bys l)) v ∧ l.length ≤ Rows.uptoBulk d := by
  have hc : Tryz.prog.cellsOf 5 = 1 := by kernel_rfl
  obtain ⟨zs, k0, k1, k2⟩ := rel_ints0 Tryz.underlying40 Tryz.underlying5 hc hf
  rw [bys_of k1] at k0
  refine ⟨_, k0, ?_⟩
  rw [List.length_map]
  rcases k2 with ⟨_, rfl⟩ | ⟨rest, rfl⟩
  · simp
  · have := bulk_lits' .u8 zs rest; omega
theorem nodeA_one (n : GNode) : ∀ c ∈ (nodeA false n).cells, c.one = true := by
  rw [nodeA_eq]; simp [AV.cells, AV.one, Value.oneCell']
theorem node_fields : ∃ f0 f1 f2 : Field, Tryz.prog.underlying 49 = some (.struct #[f0, f1, f2]) ∧ f0.type = 22 ∧ f0.offset = 0 ∧ f1.type = 40 ∧ f1.offset = 1 ∧ f2.type = 31 ∧ f2.offset = 2 :=
  ⟨_, _, _, Tryz.underlying49, rfl, rfl, rfl, rfl, rfl, rfl⟩
set_option maxRecDepth 100000 in
theorem rel_node0 : ∀ (fuel : Nat),
    (∀ (cs : List Value) (d : DataW H) (ps : List MemPlace), DataW.trod enc Tryz.prog W 0 (fun _ => true) true fuel 49 cs = some (d, ps) → ∃ n : GNode, RelL W (Old W) W.heap.size [] (nodeA false n).cells cs ∧ n.sz ≤ Rows.uptoBulk d ∧ n.tyOk = true) ∧
    (∀ (v : Value) (d : DataW H) (ps : List MemPlace), DataW.trod enc Tryz.prog W 0 (fun _ => true) true fuel 31 [v] = some (d, ps) → ∃ l : List GNode, Rel W (Old W) W.heap.size [] (.sl false 3 (nodesA false l)) v ∧ szs l ≤ Rows.uptoBulk d ∧ tysOk l = true) := by
  have c16 : Tryz.prog.cellsOf 22 = 1 := by kernel_rfl
  have c8 : Tryz.prog.cellsOf 40 = 1 := by kernel_rfl
  have cn : Tryz.prog.cellsOf 31 = 1 := by kernel_rfl
  have c3 : Tryz.prog.cellsOf 49 = 3 := by kernel_rfl
  intro fuel
  induction fuel with
  | zero => exact ⟨fun cs d ps h => by simp [DataW.trod] at h, fun v d ps h => by simp [DataW.trod] at h⟩
  | succ fuel ih =>
    refine ⟨?_, ?_⟩
    · intro cs d ps h
      obtain ⟨f0, f1, f2, hs, a0, b0, a1, b1, a2, b2⟩ := node_fields
      obtain ⟨xs, m, hm, hx, hl, hlen, hall⟩ := DataW.trod_struct hs h
      have hm' : m = fuel := by omega
      subst hm'
      have e0 := hall 0 f0 rfl
      have e1 := hall 1 f1 rfl
      have e2 := hall 2 f2 rfl
      rw [a0, b0, c16] at e0
      rw [a1, b1, c8] at e1
      rw [a2, b2, cn] at e2
      rw [c3] at hl
      match xs, hlen, cs, hl with
      | [y0, y1, y2], _, [v0, v1, v2], _ =>
        simp only [List.drop_zero, List.take_succ_cons, List.take_zero, List.drop_succ_cons, List.getElem?_cons_zero, List.getElem?_cons_succ] at e0 e1 e2
        obtain ⟨n0, h0, hy0, hw0⟩ := DataW.trod_int Tryz.underlying22 e0
        obtain ⟨l1, r1, s1⟩ := rel_bytes0 (d := y1.1) (ps := y1.2) e1
        obtain ⟨l2, r2, s2, t2⟩ := ih.2 v2 y2.1 y2.2 e2
        have hb := int_bounds hw0
        have hn : N n0.toNat = n0 := by
          have : (0 : Int) ≤ n0 := hb.1
          unfold N; omega
        have hle : n0 ≤ 65535 := hb.2
        refine ⟨.mk n0.toNat l1 l2, ?_, ?_, by rw [GNode.tyOk, t2]; simp; omega⟩
        · rw [nodeA_eq]
          simp only [List.cons.injEq, and_true] at h0
          subst h0
          have := Rel.val (w := W) (B := Old W) (bs := W.heap.size) (ρ := []) (.int .u16 (N n0.toNat))
          rw [hn] at this
          exact .cons (by show Rel _ _ _ _ (.val (.int .u16 (N n0.toNat))) _; rw [hn]; exact this) (.cons r1 (.cons r2 .nil))
        · have hd : d = .agg [y0.1, y1.1, y2.1] := congrArg Prod.fst hx
          rw [hd]
          have := bulk_one y0.1
          simp only [GNode.sz, Rows.uptoBulk, Rows.uptoBulkAll]
          omega
    · intro v d ps h
      rcases DataW.trod_slice Tryz.underlying31 h with ⟨h1, h2⟩ | ⟨a, len, cap, elems, rest, m, hm, h1, h2, _, hlc, hcm, hlen, hel, _, _⟩
      · simp only [List.cons.injEq, and_true] at h1
        subst h1
        refine ⟨[], by simpa [nodesA] using Rel.slE false 3 none 0, by simp [szs], rfl⟩
      · have hm' : m = fuel := by omega
        subst hm'
        simp only [List.cons.injEq, and_true] at h1
        subst h1
        rw [c3] at hel
        -- every element is a node
        have each : ∀ i (hi : i < elems.length), ∃ (n : GNode) (cs : List Value), cs.length = 3 ∧ (∀ j, j < 3 → W.cell? ((a.add (i * 3)).add j) = cs[j]?) ∧ RelL W (Old W) W.heap.size [] (nodeA false n).cells cs ∧ n.sz ≤ Rows.uptoBulk elems[i].1 ∧ n.tyOk = true := by
          intro i hi
          have hk := hel i (by omega)
          rw [List.getElem?_eq_getElem hi] at hk
          obtain ⟨cs, hcs, hy⟩ := Option.bind_eq_some_iff.1 hk
          obtain ⟨_, hl3, hcell⟩ := World.cells?_some hcs
          obtain ⟨n, r, s, tt⟩ := ih.1 cs elems[i].1 elems[i].2 hy
          exact ⟨n, cs, hl3, hcell, r, s, tt⟩
        cases hq : elems with
        | nil =>
          rw [hq] at hlen
          simp at hlen
          subst hlen
          exact ⟨[], by simpa [nodesA] using Rel.slE false 3 (some a) cap, by simp [szs], rfl⟩
        | cons x r =>
          have hpos : 0 < elems.length := by rw [hq]; simp
          obtain ⟨n0, cs0, hl0, hc0, _, _, _⟩ := each 0 hpos
          have hcell0 := hc0 0 (by omega)
          simp only [Nat.zero_mul] at hcell0
          rw [List.getElem?_eq_getElem (by omega)] at hcell0
          have hsp : a.spot = none := addr_of_cell (show W.cell? a = _ from hcell0)
          obtain ⟨b, o, sp⟩ := a
          simp only at hsp
          subst hsp
          have hblk : b < W.heap.size := by
            have := World.block_lt_of_cell? W _ hcell0
            simpa [Addr.add] using this
          have rows : ∀ k, k ≤ elems.length → ∃ l : List GNode, l.length = k ∧ RelRow W (Old W) W.heap.size [] false b 3 (o + (elems.length - k) * 3) (nodesA false l) ∧ szs l ≤ Rows.uptoBulkAll ((elems.drop (elems.length - k)).map (·.1)) ∧ tysOk l = true := by
            intro k
            induction k with
            | zero => exact fun _ => ⟨[], rfl, by simpa [nodesA] using RelRow.nil, by simp [szs], rfl⟩
            | succ k ihk =>
              intro hk
              obtain ⟨l, p1, p2, p3, p4⟩ := ihk (by omega)
              have hi : elems.length - (k + 1) < elems.length := by omega
              obtain ⟨n, cs, q1, q2, q3, q4, q5⟩ := each _ hi
              have hd : elems.drop (elems.length - (k + 1)) = elems[elems.length - (k + 1)] :: elems.drop (elems.length - k) := by
                rw [List.drop_eq_getElem_cons hi, show elems.length - (k + 1) + 1 = elems.length - k by omega]
              refine ⟨n :: l, by simp [p1], ?_, ?_, by rw [tysOk, q5, p4]; rfl⟩
              · rw [nodesA_cons]
                refine .cons (RelCells.mk (B := Old W) (bs := W.heap.size) (nw := false) hblk (fun h => by cases h) q3 (nodeA_one n) ?_) (by rw [nodeA_eq]; rfl) ?_
                · intro j v hj
                  have hj3 : j < 3 := by rw [← q1]; exact (List.getElem?_eq_some_iff.1 hj).1
                  have := q2 j hj3
                  rw [addr_add, addr_add] at this
                  rw [this, hj]
                · have e : o + (elems.length - (k + 1)) * 3 + 3 = o + (elems.length - k) * 3 := by omega
                  rw [e]; exact p2
              · rw [hd]
                simp only [szs, List.map_cons, Rows.uptoBulkAll]
                omega
          obtain ⟨l, p1, p2, p3, p4⟩ := rows elems.length (Nat.le_refl _)
          rw [Nat.sub_self] at p2 p3
          have hd : d = .slice (elems.map (·.1)) (rest.map (·.1)) := congrArg Prod.fst h2
          refine ⟨l, ?_, ?_, p4⟩
          · match l, p1 with
            | n :: l, p1 =>
              rw [nodesA_cons] at p2 ⊢
              have := Rel.sl (cap := cap) (by simpa using p2) (by rw [nodesA_len]; simp at p1; omega)
              rw [nodesA_len] at this
              have e : l.length + 1 = len := by simp at p1; omega
              rw [e] at this
              exact this
            | [], p1 => simp at p1; omega
          · rw [hd]
            simp only [Rows.uptoBulk, List.drop_zero] at *
            omega
end
end Go.Proofs.YtldoehmlpdpiaaaGreatDoor.C
namespace Go.Proofs.YtldoehmlpdpiaaaGreatDoor.C
mutual
def flatD : DataW Unit → List Value
  | .lit (.int k n) => [.int k n]
  | .lit (.string s) => [.string ⟨s.toArray⟩]
  | .agg ps => flatDs ps
  | _ => []
def flatDs : List (DataW Unit) → List Value
  | [] => []
  | d :: r => flatD d ++ flatDs r
end
theorem flatDs_flatMap : ∀ l : List (DataW Unit), flatDs l = l.flatMap flatD
  | [] => rfl
  | d :: r => by rw [flatDs, flatDs_flatMap r, List.flatMap_cons]
section
variable {P : Program} {W : World}
def Flat (P : Program) (W : World) (t : TypeId) : Prop := ∀ (fuel : Nat) (cs : List Value) (x : DataW Unit × List MemPlace), DataW.trod (fun _ => ()) P W 0 (fun _ => true) false fuel t cs = some x → cs = flatD x.1
theorem flat_int {t : TypeId} {k : IntKind} (h : P.underlying t = some (.int k)) : Flat P W t := by
  intro fuel cs x hx
  obtain ⟨n, rfl, rfl, _⟩ := DataW.trod_int h hx
  rfl
theorem flat_string {t : TypeId} (h : P.underlying t = some .string) : Flat P W t := by
  intro fuel cs x hx
  obtain ⟨s, rfl, rfl, _⟩ := DataW.trod_string h hx
  simp [flatD]
theorem blocks_flat (f : DataW Unit × List MemPlace → List Value) (m : Nat) : ∀ (xs : List (DataW Unit × List MemPlace)) (cs : List Value), cs.length = xs.length * m → (∀ i x, xs[i]? = some x → (cs.drop (i * m)).take m = f x) → cs = xs.flatMap f
  | [], cs, h, _ => by simpa using h
  | x :: r, cs, h, hk => by
    have h0 := hk 0 x rfl
    rw [Nat.zero_mul, List.drop_zero] at h0
    have ih := blocks_flat f m r (cs.drop m) (by rw [List.length_drop, h, List.length_cons, Nat.succ_mul]; omega) fun i y hy => by
      have := hk (i + 1) y hy
      rwa [Nat.succ_mul, Nat.add_comm, ← List.drop_drop] at this
    rw [List.flatMap_cons, ← h0, ← ih, List.take_append_drop]
theorem flat_of_parts {xs : List (DataW Unit × List MemPlace)} : flatD (.agg (xs.map (·.1))) = xs.flatMap fun x => flatD x.1 := by
  rw [flatD, flatDs_flatMap, List.flatMap_map]
theorem flat_array {t e : TypeId} {n : Nat} (ht : P.underlying t = some (.array n e)) (hc : P.cellsOf t = n * P.cellsOf e) (he : Flat P W e) : Flat P W t := by
  intro fuel cs x hx
  obtain ⟨xs, m, rfl, rfl, hl, hn, hk⟩ := DataW.trod_array ht hx
  show cs = flatD (.agg (xs.map (·.1)))
  rw [flat_of_parts]
  refine blocks_flat _ (P.cellsOf e) xs cs (by rw [hl, hc, hn]) fun i y hy => ?_
  have hi : i < n := by rw [← hn]; exact (List.getElem?_eq_some_iff.1 hy).1
  have := hk i hi
  rw [hy] at this
  exact he _ _ _ this
theorem flat_struct {t : TypeId} {fs : Array Field} (ht : P.underlying t = some (.struct fs)) (hc : P.cellsOf t = fs.size) (hf : ∀ (i : Nat) (f : Field), fs[i]? = some f → f.offset = i ∧ P.cellsOf f.type = 1 ∧ Flat P W f.type) : Flat P W t := by
  intro fuel cs x hx
  obtain ⟨xs, m, rfl, rfl, hl, hn, hk⟩ := DataW.trod_struct ht hx
  show cs = flatD (.agg (xs.map (·.1)))
  rw [flat_of_parts]
  refine blocks_flat _ 1 xs cs (by rw [hl, hc, hn, Nat.mul_one]) fun i y hy => ?_
  have hi : i < fs.size := by rw [← hn]; exact (List.getElem?_eq_some_iff.1 hy).1
  obtain ⟨h1, h2, h3⟩ := hf i fs[i] (Array.getElem?_eq_getElem hi)
  have := hk i fs[i] (Array.getElem?_eq_getElem hi)
  rw [hy, h1, h2] at this
  rw [Nat.mul_one]
  exact h3 _ _ _ this
theorem laid_cells {l : List (String × DataW Unit)} (h : laidMet P l W) {n : String} {d : DataW Unit} {g : Nat} {t : TypeId} {L : List Value} (hm : (n, d) ∈ l) (hg : P.globalNamed n = some g) (ht : (P.globals[g]?).map (·.type) = some t) (hf : Flat P W t) (hd : flatD d = L) :
    ∀ (i : Nat) (v : Value), L[i]? = some v → W.cell? ⟨g, i, none⟩ = some v := by
  obtain ⟨ps, hv, _⟩ := h
  have key : ∀ {l : List (String × DataW Unit)} {ps : List MemPlace}, DataW.LaidVars P W l ps → (n, d) ∈ l → ∃ cs fuel p, W.var? P n = some cs ∧ DataW.trod (fun _ => ()) P W 0 (fun _ => true) false fuel t cs.toList = some (d, p) := by
    intro l
    induction l with
    | nil => intro ps _ hm; cases hm
    | cons y r ih =>
      intro ps hv hm
      obtain ⟨g', t', cs, fuel, p, q, h1, h2, h3, h4, h5, _⟩ := hv
      rcases List.mem_cons.1 hm with e | e
      · cases e
        obtain rfl := Option.some.inj (hg.symm.trans h1)
        obtain rfl := Option.some.inj (ht.symm.trans h2)
        exact ⟨cs, fuel, p, h3, h4⟩
      · exact ih h5 e
  obtain ⟨cs, fuel, p, h1, h2⟩ := key hv hm
  have h3 : cs.toList = L := (hf _ _ _ h2).trans hd
  intro i v hi
  rw [World.var?_cell hg h1 i, ← Array.getElem?_toList, h3]
  exact hi
end
end Go.Proofs.YtldoehmlpdpiaaaGreatDoor.C
namespace Go.Proofs.YtldoehmlpdpiaaaGreatDoor.C
open Go.Abs Go.ChangeShapes Go.WideShapes Go.ChangeAt Go.RowKit
def laidL : List (String × DataW Unit) := [("errors.errorType", Rows.laid_errors_errorType), ("wharf/kind.table", Rows.laid_wharf_kind_table), ("wharf/kind.inside", Rows.laid_wharf_kind_inside)]
def etCells : List Value := [.iface 190 (.agg #[.pointer (some ⟨3, 61, none⟩)])]
theorem etG : Tryz.prog.globalNamed "errors.errorType" = some 2 := by kernel_rfl
theorem etRt : (Tryz.prog.cutTypes.find? (·.1 == "internal/reflectlite.rtype")).map (·.2) = some 190 := by kernel_rfl
theorem etRow : ((List.range Tryz.prog.types.size).filter fun t => Tryz.prog.rowNamed t [101, 114, 114, 111, 114]) = [61] := by kernel_rfl
theorem etHandle : typeHandle Tryz.prog 61 = .pointer (some ⟨3, 61, none⟩) := by kernel_rfl
theorem laid_parts {W : World} (h : laidMetH Tryz.prog laidL W) : laidMet Tryz.prog [("wharf/kind.table", Rows.laid_wharf_kind_table), ("wharf/kind.inside", Rows.laid_wharf_kind_inside)] W ∧ handlesMet Tryz.prog [("errors.errorType", Rows.laid_errors_errorType)] W := h
theorem handle_of_laid {W : World} (h : laidMetH Tryz.prog laidL W) : W.cell? ⟨2, 0, none⟩ = some (.iface 190 (.agg #[.pointer (some ⟨3, 61, none⟩)])) := by
  have h' := laid_parts h
  obtain ⟨name, u, ty, e1, e2, e3, e4, e5⟩ := h'.2 _ (List.mem_singleton.2 rfl)
  have en : name = [101, 114, 114, 111, 114] := (Option.some.inj e1).symm
  subst en
  obtain rfl := Option.some.inj (etRt.symm.trans e2)
  have hm : ty ∈ (List.range Tryz.prog.types.size).filter fun t => Tryz.prog.rowNamed t [101, 114, 114, 111, 114] := List.mem_filter.2 ⟨List.mem_range.2 e3, e4⟩
  rw [etRow] at hm
  obtain rfl := List.mem_singleton.1 hm
  rw [etHandle] at e5
  simpa using World.var?_cell etG e5 0
theorem cell_lt {W : World} {b i : Nat} {v : Value} (h : W.cell? ⟨b, i, none⟩ = some v) : b < W.heap.size := by
  rcases Nat.lt_or_ge b W.heap.size with h' | h'
  · exact h'
  · simp [World.cell?, Array.getElem?_eq_none h'] at h
theorem flat_kinds (W : World) : Flat Tryz.prog W 105 := by
  have h1 : Flat Tryz.prog W 5 := flat_int Tryz.underlying5
  have h2 : Flat Tryz.prog W 3 := flat_int Tryz.underlying3
  have h3 : Flat Tryz.prog W 9 := flat_string Tryz.underlying9
  refine flat_array Tryz.underlying105 (by kernel_rfl) (flat_struct Tryz.underlying69 (by kernel_rfl) fun i f hf => ?_)
  match i, hf with
  | 0, hf => simp at hf; subst hf; exact ⟨rfl, by kernel_rfl, h1⟩
  | 1, hf => simp at hf; subst hf; exact ⟨rfl, by kernel_rfl, h3⟩
  | 2, hf => simp at hf; subst hf; exact ⟨rfl, by kernel_rfl, h1⟩
  | 3, hf => simp at hf; subst hf; exact ⟨rfl, by kernel_rfl, h2⟩
  | 4, hf => simp at hf; subst hf; exact ⟨rfl, by kernel_rfl, h2⟩
  | 5, hf => simp at hf; subst hf; exact ⟨rfl, by kernel_rfl, h2⟩
  | 6, hf => simp at hf; subst hf; exact ⟨rfl, by kernel_rfl, h2⟩
  | i + 7, hf => simp at hf
theorem flat_inside (W : World) : Flat Tryz.prog W 108 :=
  flat_array Tryz.underlying108 (by kernel_rfl) (flat_array Tryz.underlying107 (by kernel_rfl) (flat_int Tryz.underlying3))
theorem cells_table {W : World} (h : laidMetH Tryz.prog laidL W) : GlobC W 0 kcells :=
  laid_cells (laid_parts h).1 (.head _) (by kernel_rfl) (by kernel_rfl) (flat_kinds W) (by kernel_rfl)
theorem cells_inside {W : World} (h : laidMetH Tryz.prog laidL W) : GlobC W 1 icells :=
  laid_cells (laid_parts h).1 (.tail _ (.head _)) (by kernel_rfl) (by kernel_rfl) (flat_inside W) (by kernel_rfl)
theorem cells_et {W : World} (h : laidMetH Tryz.prog laidL W) : GlobC W 2 etCells := by
  intro i v hi
  match i with
  | 0 => simp [etCells] at hi; subst hi; exact handle_of_laid h
  | i + 1 => simp [etCells] at hi
theorem glb_eq : glb = [(0, kcells), (1, icells), (2, etCells)] := by kernel_rfl
theorem globs_of_laid {W : World} (h : laidMetH Tryz.prog laidL W) : Globs W (Old W) [] := by
  intro p hp
  rw [glb_eq] at hp
  simp only [List.mem_cons, List.not_mem_nil, or_false] at hp
  rcases hp with rfl | rfl | rfl
  · exact ⟨cell_lt (cells_table h 0 _ rfl), fun v hv => (by cases hv), cells_table h⟩
  · exact ⟨cell_lt (cells_inside h 0 _ rfl), fun v hv => (by cases hv), cells_inside h⟩
  · exact ⟨cell_lt (handle_of_laid h), fun v hv => (by cases hv), cells_et h⟩
def setCells (cs : List Value) : Obj → Obj
  | .cells _ t frozen => .cells cs.toArray t frozen
  | o => o
noncomputable def laidWorld (os : Os) : World :=
  let w0 := World.holding Tryz.prog os ⟨#[], #[], []⟩
  { w0 with heap := ((w0.heap.modify 0 (setCells kcells)).modify 1 (setCells icells)).modify 2 (setCells etCells) }
theorem laid_met (os : Os) (args : Array Value) : laidMetH Tryz.prog laidL ((laidWorld os).forCall (fun _ _ => 0) ⟨#[], args, []⟩).memory :=
  laidMetH_of_parts (laidMet_of_run' 8 (by kernel_rfl) (by kernel_rfl)) (by kernel_rfl)
section
variable {H : Type} {enc : TypeId × Value → H} {W : World}
theorem chunk_fields : ∃ f0 f1 f2 f3 : Field, Tryz.prog.underlying 42 = some (.struct #[f0, f1, f2, f3]) ∧ f0.type = 5 ∧ f0.offset = 0 ∧ f1.type = 5 ∧ f1.offset = 1 ∧ f2.type = 40 ∧ f2.offset = 2 ∧ f3.type = 31 ∧ f3.offset = 3 :=
  ⟨_, _, _, _, Tryz.underlying42, rfl, rfl, rfl, rfl, rfl, rfl, rfl, rfl⟩
theorem val_u8 {n : Int} (h : (Lit.int .u8 n).wf = true) : ∃ m : Nat, m < 256 ∧ Rel W (Old W) W.heap.size [] (u8 m) (.int .u8 n) := by
  obtain ⟨m, rfl, hm⟩ := u8_of h
  exact ⟨m, hm, .val _⟩
end
section
variable {H : Type} {enc : TypeId × Value → H} {W : World}
end
section
variable {H : Type} {enc : TypeId × Value → H} {W : World}
set_option maxRecDepth 100000 in
theorem rel_list0 {α : Type} (A : α → AV) (size : α → Nat) (Pr : α → Prop) {T e : TypeId} {sz : Nat} (hT : Tryz.prog.underlying T = some (.slice e)) (hc : Tryz.prog.cellsOf e = sz) (h0 : 0 < sz) (hcells : ∀ x, (A x).cells.length = sz)
    (hone : ∀ x, ∀ c ∈ (A x).cells, c.one = true)
    (hel0 : ∀ (m : Nat) (cs : List Value) (d : DataW H) (ps : List MemPlace), DataW.trod enc Tryz.prog W 0 (fun _ => true) true m e cs = some (d, ps) → ∃ x : α, RelL W (Old W) W.heap.size [] (A x).cells cs ∧ size x ≤ Rows.uptoBulk d ∧ Pr x)
    {fuel : Nat} {v : Value} {d : DataW H} {ps : List MemPlace} (h : DataW.trod enc Tryz.prog W 0 (fun _ => true) true fuel T [v] = some (d, ps)) :
    ∃ l : List α, Rel W (Old W) W.heap.size [] (.sl false sz (l.map A)) v ∧ (l.map size).sum ≤ Rows.uptoBulk d ∧ ∀ x ∈ l, Pr x := by
  rcases DataW.trod_slice hT h with ⟨h1, h2⟩ | ⟨a, len, cap, elems, rest, m, hm, h1, h2, _, hlc, hcm, hlen, hel, _, _⟩
  · simp only [List.cons.injEq, and_true] at h1
    subst h1
    exact ⟨[], Rel.slE false sz none 0, by simp, by simp⟩
  · simp only [List.cons.injEq, and_true] at h1
    subst h1
    rw [hc] at hel
    have each : ∀ i (hi : i < elems.length), ∃ (x : α) (cs : List Value), cs.length = sz ∧ (∀ j, j < sz → W.cell? ((a.add (i * sz)).add j) = cs[j]?) ∧ RelL W (Old W) W.heap.size [] (A x).cells cs ∧ size x ≤ Rows.uptoBulk elems[i].1 ∧ Pr x := by
      intro i hi
      have hk := hel i (by omega)
      rw [List.getElem?_eq_getElem hi] at hk
      obtain ⟨cs, hcs, hy⟩ := Option.bind_eq_some_iff.1 hk
      obtain ⟨_, hl3, hcell⟩ := World.cells?_some hcs
      obtain ⟨x, r, s, tt⟩ := hel0 m cs elems[i].1 elems[i].2 hy
      exact ⟨x, cs, hl3, hcell, r, s, tt⟩
    cases hq : elems with
    | nil =>
      rw [hq] at hlen
      simp at hlen
      subst hlen
      exact ⟨[], Rel.slE false sz (some a) cap, by simp, by simp⟩
    | cons x r =>
      have hpos : 0 < elems.length := by rw [hq]; simp
      obtain ⟨n0, cs0, hl0, hc0, _, _, _⟩ := each 0 hpos
      have hcell0 := hc0 0 h0
      simp only [Nat.zero_mul] at hcell0
      rw [List.getElem?_eq_getElem (by omega)] at hcell0
      have hsp : a.spot = none := addr_of_cell (show W.cell? a = _ from hcell0)
      obtain ⟨b, o, sp⟩ := a
      simp only at hsp
      subst hsp
      have hblk : b < W.heap.size := by
        have := World.block_lt_of_cell? W _ hcell0
        simpa [Addr.add] using this
      have rows : ∀ k, k ≤ elems.length → ∃ l : List α, l.length = k ∧ RelRow W (Old W) W.heap.size [] false b sz (o + (elems.length - k) * sz) (l.map A) ∧ (l.map size).sum ≤ Rows.uptoBulkAll ((elems.drop (elems.length - k)).map (·.1)) ∧ ∀ x ∈ l, Pr x := by
        intro k
        induction k with
        | zero => exact fun _ => ⟨[], rfl, .nil, by simp, by simp⟩
        | succ k ihk =>
          intro hk
          obtain ⟨l, p1, p2, p3, p4⟩ := ihk (by omega)
          have hi : elems.length - (k + 1) < elems.length := by omega
          obtain ⟨n, cs, q1, q2, q3, q4, q5⟩ := each _ hi
          have hd : elems.drop (elems.length - (k + 1)) = elems[elems.length - (k + 1)] :: elems.drop (elems.length - k) := by
            rw [List.drop_eq_getElem_cons hi, show elems.length - (k + 1) + 1 = elems.length - k by omega]
          refine ⟨n :: l, by simp [p1], ?_, ?_, ?_⟩
          · rw [List.map_cons]
            refine .cons (RelCells.mk (B := Old W) (bs := W.heap.size) (nw := false) hblk (fun h => by cases h) q3 (hone n) ?_) (hcells n) ?_
            · intro j v hj
              have hj3 : j < sz := by rw [← q1]; exact (List.getElem?_eq_some_iff.1 hj).1
              have := q2 j hj3
              rw [addr_add, addr_add] at this
              rw [this, hj]
            · have e1 : (elems.length - (k + 1)) * sz + sz = (elems.length - k) * sz := by
                rw [← Nat.succ_mul]; congr 1; omega
              have e : o + (elems.length - (k + 1)) * sz + sz = o + (elems.length - k) * sz := by omega
              rw [e]; exact p2
          · rw [hd]
            simp only [List.map_cons, List.sum_cons, Rows.uptoBulkAll]
            omega
          · intro x hx
            rcases List.mem_cons.1 hx with rfl | hx
            · exact q5
            · exact p4 x hx
      obtain ⟨l, p1, p2, p3, p4⟩ := rows elems.length (Nat.le_refl _)
      rw [Nat.sub_self, Nat.zero_mul, Nat.add_zero] at p2
      rw [Nat.sub_self] at p3
      have hd : d = .slice (elems.map (·.1)) (rest.map (·.1)) := congrArg Prod.fst h2
      refine ⟨l, ?_, ?_, p4⟩
      · match l, p1 with
        | n :: l, p1 =>
          rw [List.map_cons] at p2 ⊢
          have := Rel.sl (cap := cap) p2 (by rw [List.length_map]; simp at p1; omega)
          rw [List.length_map] at this
          have e : l.length + 1 = len := by simp at p1; omega
          rw [e] at this
          exact this
        | [], p1 => simp at p1; omega
      · rw [hd]
        simp only [Rows.uptoBulk, List.drop_zero] at *
        omega
theorem chunkA_one (c : GChunk) : ∀ x ∈ (chunkA false c).cells, x.one = true := by
  simp [chunkA, AV.cells, AV.one, Value.oneCell']
set_option maxRecDepth 100000 in
theorem rel_chunk0 {fuel : Nat} (cs : List Value) (d : DataW H) (ps : List MemPlace) (hf : DataW.trod enc Tryz.prog W 0 (fun _ => true) true fuel 42 cs = some (d, ps)) :
    ∃ c : GChunk, RelL W (Old W) W.heap.size [] (chunkA false c).cells cs ∧ c.data.length + szs c.kids + 1 ≤ Rows.uptoBulk d ∧ (c.ty < 256 ∧ c.flags < 256 ∧ tysOk c.kids = true) := by
  have c8 : Tryz.prog.cellsOf 5 = 1 := by kernel_rfl
  have cb : Tryz.prog.cellsOf 40 = 1 := by kernel_rfl
  have cn : Tryz.prog.cellsOf 31 = 1 := by kernel_rfl
  have c4 : Tryz.prog.cellsOf 42 = 4 := by kernel_rfl
  obtain ⟨f0, f1, f2, f3, hs, a0, b0, a1, b1, a2, b2, a3, b3⟩ := chunk_fields
  obtain ⟨xs, m, hm, hx, hl, hlen, hall⟩ := DataW.trod_struct hs hf
  have e0 := hall 0 f0 rfl
  have e1 := hall 1 f1 rfl
  have e2 := hall 2 f2 rfl
  have e3 := hall 3 f3 rfl
  rw [a0, b0, c8] at e0
  rw [a1, b1, c8] at e1
  rw [a2, b2, cb] at e2
  rw [a3, b3, cn] at e3
  rw [c4] at hl
  match xs, hlen, cs, hl with
  | [y0, y1, y2, y3], _, [v0, v1, v2, v3], _ =>
    simp only [List.drop_zero, List.take_succ_cons, List.take_zero, List.drop_succ_cons, List.getElem?_cons_zero, List.getElem?_cons_succ] at e0 e1 e2 e3
    obtain ⟨n0, h0, hy0, hw0⟩ := DataW.trod_int Tryz.underlying5 e0
    obtain ⟨n1, h1, hy1, hw1⟩ := DataW.trod_int Tryz.underlying5 e1
    obtain ⟨l2, r2, s2⟩ := rel_bytes0 (d := y2.1) (ps := y2.2) e2
    obtain ⟨l3, r3, s3, t3⟩ := (rel_node0 m).2 v3 y3.1 y3.2 e3
    obtain ⟨m0, z0, q0⟩ := val_u8 (W := W) hw0
    obtain ⟨m1, z1, q1⟩ := val_u8 (W := W) hw1
    simp only [List.cons.injEq, and_true] at h0 h1
    subst h0; subst h1
    refine ⟨⟨m0, m1, l2, l3⟩, .cons q0 (.cons q1 (.cons r2 (.cons r3 .nil))), ?_, ⟨z0, z1, t3⟩⟩
    have hd : d = .agg [y0.1, y1.1, y2.1, y3.1] := congrArg Prod.fst hx
    have hb0 := bulk_one y0.1
    rw [hd]
    simp only [Rows.uptoBulk, Rows.uptoBulkAll]
    omega
def chunkSz (c : GChunk) : Nat := c.data.length + szs c.kids + 1
set_option maxRecDepth 100000 in
theorem rel_chunks {r : Reach} {b0 : Nat} {v : Value} {d : DataW H} {ps : List MemPlace} (hval : Value.okWide Tryz.prog W r b0 26 v) (hd : DataW.Trod enc Tryz.prog W 0 (fun _ => true) true 26 v d ps) :
    ∃ l : List GChunk, Rel W (Old W) W.heap.size [] (.sl false 4 (chunksA false l)) v ∧ (∀ c ∈ l, c.ty < 256 ∧ c.flags < 256 ∧ tysOk c.kids = true) ∧ (l.map chunkSz).sum ≤ Rows.uptoBulk d := by
  obtain ⟨A, len0, cap0, rfl⟩ := okWide_slice Tryz.underlying26 hval
  obtain ⟨fuel, hf⟩ := hd
  obtain ⟨l, h1, h2, h3⟩ := rel_list0 (sz := 4) (chunkA false) chunkSz (fun c => c.ty < 256 ∧ c.flags < 256 ∧ tysOk c.kids = true) Tryz.underlying26 (by kernel_rfl) (by decide) (fun x => by simp [chunkA, AV.cells]) chunkA_one (fun m cs d ps h => rel_chunk0 cs d ps h) hf
  exact ⟨l, h1, h3, h2⟩
end
section
variable {H : Type} {enc : TypeId × Value → H} {W : World}
theorem pkt_fields : ∃ f0 f1 : Field, Tryz.prog.underlying 28 = some (.struct #[f0, f1]) ∧ f0.type = 25 ∧ f0.offset = 0 ∧ f1.type = 26 ∧ f1.offset = 3 :=
  ⟨_, _, Tryz.underlying28, rfl, rfl, rfl, rfl⟩
theorem hdr_fields : ∃ f0 f1 f2 : Field, Tryz.prog.underlying 25 = some (.struct #[f0, f1, f2]) ∧ f0.type = 22 ∧ f0.offset = 0 ∧ f1.type = 22 ∧ f1.offset = 1 ∧ f2.type = 23 ∧ f2.offset = 2 :=
  ⟨_, _, _, Tryz.underlying25, rfl, rfl, rfl, rfl, rfl, rfl⟩
theorem val_u16k {n : Int} (h : (Lit.int .u16 n).wf = true) : ∃ m : Nat, m < 2 ^ 16 ∧ Rel W (Old W) W.heap.size [] (u16 m) (.int .u16 n) := by
  obtain ⟨m, rfl, hm⟩ := u16_of h
  exact ⟨m, hm, .val _⟩
theorem val_u32k {n : Int} (h : (Lit.int .u32 n).wf = true) : ∃ m : Nat, m < 2 ^ 32 ∧ Rel W (Old W) W.heap.size [] (u32 m) (.int .u32 n) := by
  obtain ⟨m, rfl, hm⟩ := u32_of h
  exact ⟨m, hm, .val _⟩
set_option maxRecDepth 100000 in
theorem rel_pkt {r : Reach} {b0 : Nat} {v : Value} {d : DataW H} {ps : List MemPlace} (hval : Value.okWide Tryz.prog W r b0 28 v) (hd : DataW.Trod enc Tryz.prog W 0 (fun _ => true) true 28 v d ps) :
    ∃ p : GPkt, Rel W (Old W) W.heap.size [] (pktA false p) v ∧ (∀ c ∈ p.l, c.ty < 256 ∧ c.flags < 256 ∧ tysOk c.kids = true) ∧ (p.l.map chunkSz).sum ≤ Rows.uptoBulk d := by
  have c16 : Tryz.prog.cellsOf 22 = 1 := by kernel_rfl
  have c32 : Tryz.prog.cellsOf 23 = 1 := by kernel_rfl
  have ch : Tryz.prog.cellsOf 25 = 3 := by kernel_rfl
  have cc : Tryz.prog.cellsOf 26 = 1 := by kernel_rfl
  have cp : Tryz.prog.cellsOf 28 = 4 := by kernel_rfl
  obtain ⟨f0, f1, hs, a0, b0', a1, b1⟩ := pkt_fields
  obtain ⟨g0, g1, g2, hs2, d0, e0', d1, e1', d2, e2'⟩ := hdr_fields
  obtain ⟨cs, rfl, _⟩ := okWide_struct hs hval
  obtain ⟨fuel, hf⟩ := hd
  obtain ⟨xs, m, rfl, hx, hl, hlen, hall⟩ := DataW.trod_struct hs hf
  have e0 := hall 0 f0 rfl
  have e1 := hall 1 f1 rfl
  rw [a0, b0', ch] at e0
  rw [a1, b1, cc] at e1
  rw [cp] at hl
  obtain ⟨cs⟩ := cs
  match xs, hlen, cs, hl with
  | [y0, y1], _, [v0, v1, v2, v3], _ =>
    simp only [Value.cells, List.drop_zero, List.take_succ_cons, List.take_zero, List.drop_succ_cons, List.getElem?_cons_zero, List.getElem?_cons_succ] at e0 e1
    obtain ⟨zs, m2, rfl, hx2, hl2, hlen2, hall2⟩ := DataW.trod_struct hs2 e0
    have h0 := hall2 0 g0 rfl
    have h1 := hall2 1 g1 rfl
    have h2 := hall2 2 g2 rfl
    rw [d0, e0', c16] at h0
    rw [d1, e1', c16] at h1
    rw [d2, e2', c32] at h2
    match zs, hlen2 with
    | [w0, w1, w2], _ =>
      simp only [List.drop_zero, List.take_succ_cons, List.take_zero, List.drop_succ_cons, List.getElem?_cons_zero, List.getElem?_cons_succ] at h0 h1 h2
      obtain ⟨n0, q0, _, u0⟩ := DataW.trod_int Tryz.underlying22 h0
      obtain ⟨n1, q1, _, u1⟩ := DataW.trod_int Tryz.underlying22 h1
      obtain ⟨n2, q2, _, u2⟩ := DataW.trod_int Tryz.underlying23 h2
      obtain ⟨m0, _, r0⟩ := val_u16k (W := W) u0
      obtain ⟨m1, _, r1⟩ := val_u16k (W := W) u1
      obtain ⟨m3, _, r2⟩ := val_u32k (W := W) u2
      simp only [List.cons.injEq, and_true] at q0 q1 q2
      subst q0; subst q1; subst q2
      obtain ⟨l, k1, k2, k3⟩ := rel_list0 (sz := 4) (chunkA false) chunkSz (fun c => c.ty < 256 ∧ c.flags < 256 ∧ tysOk c.kids = true) Tryz.underlying26 (by kernel_rfl) (by decide) (fun x => by simp [chunkA, AV.cells]) chunkA_one (fun m cs d ps h => rel_chunk0 cs d ps h) e1
      refine ⟨⟨m0, m1, m3, l⟩, ?_, k3, ?_⟩
      · exact Rel.agg (l := [u16 m0, u16 m1, u32 m3, .sl false 4 (chunksA false l)]) (.cons r0 (.cons r1 (.cons r2 (.cons k1 .nil))))
      · have hd : d = .agg [y0.1, y1.1] := congrArg Prod.fst hx
        rw [hd]
        simp only [Rows.uptoBulk, Rows.uptoBulkAll]
        omega
end
theorem pkt_len {l : List GChunk} : l.length ≤ (l.map chunkSz).sum := by
  induction l with
  | nil => simp
  | cons c r ih =>
    simp only [List.map_cons, List.sum_cons, List.length_cons]
    have : 1 ≤ chunkSz c := by unfold chunkSz; omega
    omega
theorem pkt_mem {l : List GChunk} {c : GChunk} (h : c ∈ l) : chunkSz c ≤ (l.map chunkSz).sum := by
  induction l with
  | nil => cases h
  | cons x r ih =>
    simp only [List.map_cons, List.sum_cons]
    rcases List.mem_cons.1 h with rfl | h
    · omega
    · have := ih h; omega
theorem pkt_small {l : List GChunk} (h : ∀ c ∈ l, c.ty < 256 ∧ c.flags < 256 ∧ tysOk c.kids = true) (hB : (l.map chunkSz).sum ≤ 2 ^ 20) : ∀ c ∈ l, Small c ∧ tysOk c.kids = true := by
  intro c hc
  obtain ⟨h1, h2, h3⟩ := h c hc
  have := pkt_mem hc
  have he : chunkSz c = c.data.length + szs c.kids + 1 := rfl
  exact ⟨⟨h1, h2, by omega, by omega⟩, h3⟩
end Go.Proofs.YtldoehmlpdpiaaaGreatDoor.C
