/- Frames read and written: Cursor.Take, tlv.read, Split, All, Put, Join. -/
import Derived.Test.YtmcedkcehcacpaaGreatDoorM3
set_option linter.unusedVariables false
set_option linter.unusedSimpArgs false
namespace Go.Proofs.YtmcedkcehcacpaaGreatDoor.C
open Go.Abs
@[push_cast] theorem frmA_hand (ids : List Nat) (b : Bool) (f : Frm) : (frmA b f).hand ids = frmA false f := by simp only [frmA, AV.hand, AV.handL, bys_hand]
theorem take_ok (l : List UInt8) (i n : Nat) (hi : i + n ≤ l.length) (hl : l.length ≤ 2 ^ 40) :
    OC Tryz.prog 82 [.ptr 0 0, nat n] [cur l i] (.tup [.sl true 1 (bys ((l.drop i).take n)), bool true]) [cur l (i + n)] := by
  have e : (l.take (i + n)).drop i = (l.drop i).take n := by rw [List.drop_take]; congr 1; omega
  have hlen : ((l.drop i).take n).length ≤ 2 ^ 40 := by rw [List.length_take, List.length_drop]; omega
  refine OC.of_bodyK [0] (by intro k hk; simp at hk; subst hk; rfl) Tryz.func82 rfl (by rw [Tryz.ntmps82]; simp) ?_
  refine AWp.regionW ?_
  refine AWp.seqK fun K1 hK1 => ?_
  refine AWp.regionA fun K2 hK2 => ?_
  refine ARun.segm 3 fun KS hKS => ?_
  refine ARun2.endm (hKS _ ?_); clear hKS KS
  apply ARun.grpM 2 2 false 11 [0, 1, 9]
  · intro g2 KG hKG
    refine ARun2.gom ?_
    exact ARun2.endm (hKG _ Le.grpM)
  refine ARun.segm 2 fun KS hKS => ?_
  refine ARun2.endm (hKS _ ?_); clear hKS KS
  apply ARun.grpM 4 6 false 17 [0, 1, 13]
  · intro g6 KG hKG
    refine ARun2.gom ?_
    refine ARun2.callOM [0] (left_c l i (by omega) hl) ?_
    exact ARun2.endm (hKG _ Le.grpM)
  refine ARun2.gom ?_
  refine ARun2.endm (hK2 _ ?_)
  refine AWp.condF ?_ (by simp only [push_cast]; simp; omega)
  refine AWp.skip ?_
  refine hK1 _ ?_
  refine AWp.drS [[(0, none)], [(19, some 0)], [(20, some 1)], [(21, some 2)], [(0, none)], [(23, some 4)], [(24, some 5)], [(25, some 6)], [(0, none)], [(27, some 8)], [(28, some 9)], [(29, some 10)], [(1, none)], [(30, some 11), (31, some 12)], [(0, none)], [(33, some 14)], [(34, some 15)], [(35, some 16)], [(1, none)], [(36, some 17), (37, some 18)]] fun G hG => ?_
  refine Dr.sim ?_
  try simp only [List.cons_append, List.nil_append]
  refine Dr.sim ?_
  try simp only [List.cons_append, List.nil_append]
  refine Dr.sim ?_
  try simp only [List.cons_append, List.nil_append]
  refine Dr.sim ?_
  try simp only [List.cons_append, List.nil_append]
  refine Dr.sim ?_
  try simp only [List.cons_append, List.nil_append]
  refine Dr.sim ?_
  try simp only [List.cons_append, List.nil_append]
  refine Dr.sim ?_
  try simp only [List.cons_append, List.nil_append]
  refine Dr.sim ?_
  try simp only [List.cons_append, List.nil_append]
  refine Dr.sim ?_
  try simp only [List.cons_append, List.nil_append]
  refine Dr.sim ?_
  try simp only [List.cons_append, List.nil_append]
  refine Dr.sim ?_
  try simp only [List.cons_append, List.nil_append]
  refine Dr.sim ?_
  try simp only [List.cons_append, List.nil_append]
  refine Dr.sim ?_
  try simp only [List.cons_append, List.nil_append]
  refine Dr.sim ?_
  try simp only [List.cons_append, List.nil_append]
  refine Dr.sim ?_
  try simp only [List.cons_append, List.nil_append]
  refine Dr.sim ?_
  try simp only [List.cons_append, List.nil_append]
  refine Dr.sim ?_
  try simp only [List.cons_append, List.nil_append]
  refine Dr.sim ?_
  try simp only [List.cons_append, List.nil_append]
  refine Dr.sim ?_
  try simp only [List.cons_append, List.nil_append]
  refine Dr.sim ?_
  try simp only [List.cons_append, List.nil_append]
  refine Dr.finM (n := 20) [(22, 3), (26, 7), (32, 13), (38, 19)] [0, 1] hG YtmcedkcehcacpaaGreatDoor.Facts.mixed fun KD hKD => ?_
  refine ARun2.slice3M (i) (i + n) ?_ ?_ ?_
  · omega
  · rw [bys_len]; omega
  rw [e]
  refine ARun2.endm (hKD _ ?_); clear hKD KD hG G
  refine AWp.regionW ?_
  refine AWp.regionM fun K3 hK3 => ?_
  refine ARun2.callM (clone_c ((l.drop i).take n) hlen) ?_
  refine ARun2.endm (hK3 _ ?_)
  refine AWp.ret ?_
  try simp only [thenQ, blockQ, noGo]
  refine bodyQ.m ?_
  clear hK3 K3 hK2 K2 hK1 K1
  refine endK.m ?_ ?_
  · rfl
  · skip
    first | done | exact Ho.go
theorem take_no (l : List UInt8) (i : Nat) (m : Int) (hi : i ≤ l.length) (hl : l.length ≤ 2 ^ 40) (hm : m < 0 ∨ N (l.length - i) < m) :
    OC Tryz.prog 82 [.ptr 0 0, .val (.int .i64 m)] [cur l i] (.tup [.val (.slice none 0 0), bool false]) [cur l i] := by
  refine OC.of_body [0] (by intro k hk; simp at hk; subst hk; rfl) Tryz.func82 rfl (by rw [Tryz.ntmps82]; simp) ?_
  refine AWp.regionW ?_
  refine AWp.seqK fun K1 hK1 => ?_
  refine AWp.regionA fun K2 hK2 => ?_
  refine ARun.segm 3 fun KS hKS => ?_
  refine ARun2.endm (hKS _ ?_); clear hKS KS
  apply ARun.grpM 2 2 false 11 [0, 1, 9]
  · intro g2 KG hKG
    refine ARun2.gom ?_
    exact ARun2.endm (hKG _ Le.grpM)
  refine ARun.segm 2 fun KS hKS => ?_
  refine ARun2.endm (hKS _ ?_); clear hKS KS
  apply ARun.grpM 4 6 false 17 [0, 1, 13]
  · intro g6 KG hKG
    refine ARun2.gom ?_
    refine ARun2.callOM [0] (left_c l i (by omega) hl) ?_
    exact ARun2.endm (hKG _ Le.grpM)
  refine ARun2.gom ?_
  refine ARun2.endm (hK2 _ ?_)
  refine AWp.condT ?_ (by simp only [push_cast]; simp; omega)
  refine AWp.regionW ?_
  refine AWp.ret ?_
  try simp only [thenQ, blockQ, noGo]
  refine bodyQ.m ?_
  clear hK2 K2 hK1 K1
  refine endO.m ?_ ?_
  · rfl
  · skip
    first | done | exact Hand.go
theorem num_hit (k : Nat) (l : List UInt8) (i : Nat) (hk : k = 1 ∨ k = 2 ∨ k = 4) (h : i + k ≤ l.length) (hl : l.length ≤ 2 ^ 40) :
    OC Tryz.prog 64 [.ptr 0 0, nat k] [cur l i] (.tup [u32 (peekN k l i), bool true]) [cur l (i + k)] := by
  have := number_c k l i hk (by omega) hl
  rw [if_pos h, show decide (i + k ≤ l.length) = true from decide_eq_true h] at this
  exact this
theorem num_miss (k : Nat) (l : List UInt8) (i : Nat) (hk : k = 1 ∨ k = 2 ∨ k = 4) (hi : i ≤ l.length) (h : ¬ i + k ≤ l.length) (hl : l.length ≤ 2 ^ 40) :
    OC Tryz.prog 64 [.ptr 0 0, nat k] [cur l i] (.tup [u32 0, bool false]) [cur l i] := by
  have := number_c k l i hk hi hl
  rw [if_neg h, show decide (i + k ≤ l.length) = false from decide_eq_false h, show peekN k l i = 0 by unfold peekN; rw [if_neg h]] at this
  exact this
theorem peek2_lt (l : List UInt8) (i : Nat) : peekN 2 l i < 65536 := by
  unfold peekN
  split
  · have := beN_lt ((l.drop i).take 2)
    have h2 : ((l.drop i).take 2).length ≤ 2 := List.length_take_le _ _
    calc beN ((l.drop i).take 2) < 256 ^ ((l.drop i).take 2).length := this
      _ ≤ 256 ^ 2 := Nat.pow_le_pow_right (by omega) h2
  · omega
def frm0 : Frm := ⟨0, []⟩
/-- a frame read at an offset, and where the next one is -/
def readN (b : List UInt8) (i : Nat) : Frm × Nat × Er :=
  if 4 ≤ b.length - i ∧ 4 ≤ peekN 2 (b.drop i) 2 ∧ peekN 2 (b.drop i) 2 ≤ b.length - i then
    if i + peekN 2 (b.drop i) 2 = b.length then (⟨peekN 2 (b.drop i) 0, ((b.drop i).drop 4).take (peekN 2 (b.drop i) 2 - 4)⟩, i + peekN 2 (b.drop i) 2, .ok)
    else if (nextN b (i + peekN 2 (b.drop i) 2)).isSome = true ∧ (nextN b (i + peekN 2 (b.drop i) 2)).getD 0 ≠ b.length then
      (⟨peekN 2 (b.drop i) 0, ((b.drop i).drop 4).take (peekN 2 (b.drop i) 2 - 4)⟩, (nextN b (i + peekN 2 (b.drop i) 2)).getD 0, .ok)
    else (frm0, 0, .flt 5 (i + peekN 2 (b.drop i) 2))
  else (frm0, 0, .flt 4 i)
@[push_cast] def readA (r : Frm × Nat × Er) : AV := .tup [frmA true r.1, nat r.2.1, erA r.2.2]
theorem read_a (b : List UInt8) (i : Nat) (hi : i ≤ b.length) (hl : b.length ≤ 2 ^ 40) (h2 : b.length - i < 2) : PC Tryz.prog 71 [.sl false 1 (bys b), nat i] (readA (frm0, 0, .flt 4 i)) := by
  have hd : (b.drop i).length = b.length - i := List.length_drop
  refine PC.of_bodyK (by simp only [push_cast]) Tryz.func71 rfl (by rw [Tryz.ntmps71]; simp) ?_
  refine AWp.regionW ?_
  refine AWp.regionM fun K1 hK1 => ?_
  refine ARun2.sliceLoM (i) ?_ ?_
  · rw [bys_len]; omega
  refine ARun2.callOM [] (new_c (b.drop i) (by omega)) ?_
  refine ARun2.endm (hK1 _ ?_)
  refine AWp.regionM fun K2 hK2 => ?_
  refine ARun2.callOM [1] (num_miss 2 (b.drop i) 0 (by omega) (by omega) (by omega) (by omega)) ?_
  refine ARun2.endm (hK2 _ ?_)
  refine AWp.regionM fun K3 hK3 => ?_
  refine ARun2.callOM [1] (num_miss 2 (b.drop i) 0 (by omega) (by omega) (by omega) (by omega)) ?_
  refine ARun2.endm (hK3 _ ?_)
  refine AWp.regionM fun K4 hK4 => ?_
  rw [show IntKind.i64.wrap (IntKind.i64.wrap 0 - 4) = -4 from rfl]
  refine ARun2.callOM [1] (take_no (b.drop i) 0 (-4) (by omega) (by omega) (.inl (by decide))) ?_
  refine ARun2.endm (hK4 _ ?_)
  refine AWp.seqK fun K5 hK5 => ?_
  refine AWp.regionA fun K6 hK6 => ?_
  refine ARun.segm 3 fun KS hKS => ?_
  refine ARun2.endm (hKS _ ?_); clear hKS KS
  apply ARun.grpM 2 2 false 42 [0, 1, 4, 8, 10, 12, 40]
  · intro g2 KG hKG
    refine ARun2.gom ?_
    exact ARun2.endm (hKG _ Le.grpM)
  refine ARun2.gom ?_
  refine ARun2.endm (hK6 _ ?_)
  refine AWp.condT ?_
  refine AWp.regionM fun K7 hK7 => ?_
  refine ARun2.callM (fnew_c 4 i) ?_
  refine ARun2.endm (hK7 _ ?_)
  refine AWp.ret ?_
  try simp only [thenQ, blockQ, noGo]
  refine bodyQ.m ?_
  clear hK7 K7 hK6 K6 hK5 K5 hK4 K4 hK3 K3 hK2 K2 hK1 K1
  simp only [readA, frm0]
  first | done | exact Wk.go
theorem read_b (b : List UInt8) (i : Nat) (hi : i ≤ b.length) (hl : b.length ≤ 2 ^ 40) (h2 : 2 ≤ b.length - i) (h4 : b.length - i < 4) : PC Tryz.prog 71 [.sl false 1 (bys b), nat i] (readA (frm0, 0, .flt 4 i)) := by
  have hd : (b.drop i).length = b.length - i := List.length_drop
  refine PC.of_bodyK (by simp only [push_cast]) Tryz.func71 rfl (by rw [Tryz.ntmps71]; simp) ?_
  refine AWp.regionW ?_
  refine AWp.regionM fun K1 hK1 => ?_
  refine ARun2.sliceLoM (i) ?_ ?_
  · rw [bys_len]; omega
  refine ARun2.callOM [] (new_c (b.drop i) (by omega)) ?_
  refine ARun2.endm (hK1 _ ?_)
  refine AWp.regionM fun K2 hK2 => ?_
  refine ARun2.callOM [1] (num_hit 2 (b.drop i) 0 (by omega) (by omega) (by omega)) ?_
  refine ARun2.endm (hK2 _ ?_)
  refine AWp.regionM fun K3 hK3 => ?_
  refine ARun2.callOM [1] (num_miss 2 (b.drop i) 2 (by omega) (by omega) (by omega) (by omega)) ?_
  refine ARun2.endm (hK3 _ ?_)
  refine AWp.regionM fun K4 hK4 => ?_
  rw [show IntKind.i64.wrap (IntKind.i64.wrap 0 - 4) = -4 from rfl]
  refine ARun2.callOM [1] (take_no (b.drop i) 2 (-4) (by omega) (by omega) (.inl (by decide))) ?_
  refine ARun2.endm (hK4 _ ?_)
  refine AWp.seqK fun K5 hK5 => ?_
  refine AWp.regionA fun K6 hK6 => ?_
  refine ARun.segm 3 fun KS hKS => ?_
  refine ARun2.endm (hKS _ ?_); clear hKS KS
  apply ARun.grpM 2 2 false 42 [0, 1, 4, 8, 10, 12, 40]
  · intro g2 KG hKG
    refine ARun2.gom ?_
    exact ARun2.endm (hKG _ Le.grpM)
  refine ARun2.gom ?_
  refine ARun2.endm (hK6 _ ?_)
  refine AWp.condT ?_
  refine AWp.regionM fun K7 hK7 => ?_
  refine ARun2.callM (fnew_c 4 i) ?_
  refine ARun2.endm (hK7 _ ?_)
  refine AWp.ret ?_
  try simp only [thenQ, blockQ, noGo]
  refine bodyQ.m ?_
  clear hK7 K7 hK6 K6 hK5 K5 hK4 K4 hK3 K3 hK2 K2 hK1 K1
  simp only [readA, frm0]
  first | done | exact Wk.go
theorem read_c1 (b : List UInt8) (i n : Nat) (hi : i ≤ b.length) (hl : b.length ≤ 2 ^ 40) (h4 : 4 ≤ b.length - i) (hn : peekN 2 (b.drop i) 2 = n) (hbad : n < 4 ∨ b.length - i < n) : PC Tryz.prog 71 [.sl false 1 (bys b), nat i] (readA (frm0, 0, .flt 4 i)) := by
  have hnl := peek2_lt (b.drop i) 2
  rw [hn] at hnl
  have hd : (b.drop i).length = b.length - i := List.length_drop
  refine PC.of_bodyK (by simp only [push_cast]) Tryz.func71 rfl (by rw [Tryz.ntmps71]; simp) ?_
  refine AWp.regionW ?_
  refine AWp.regionM fun K1 hK1 => ?_
  refine ARun2.sliceLoM (i) ?_ ?_
  · rw [bys_len]; omega
  refine ARun2.callOM [] (new_c (b.drop i) (by omega)) ?_
  refine ARun2.endm (hK1 _ ?_)
  refine AWp.regionM fun K2 hK2 => ?_
  refine ARun2.callOM [1] (num_hit 2 (b.drop i) 0 (by omega) (by omega) (by omega)) ?_
  refine ARun2.endm (hK2 _ ?_)
  refine AWp.regionM fun K3 hK3 => ?_
  refine ARun2.callOM [1] (hn ▸ num_hit 2 (b.drop i) 2 (by omega) (by omega) (by omega)) ?_
  refine ARun2.endm (hK3 _ ?_)
  refine AWp.regionM fun K4 hK4 => ?_
  rw [w64 (a := N n - 4) (by unfold N; omega) (by unfold N; omega)]
  refine ARun2.callOM [1] (take_no (b.drop i) 4 (N n - 4) (by omega) (by omega) (by unfold N; omega)) ?_
  refine ARun2.endm (hK4 _ ?_)
  refine AWp.seqK fun K5 hK5 => ?_
  refine AWp.regionA fun K6 hK6 => ?_
  refine ARun.segm 3 fun KS hKS => ?_
  refine ARun2.endm (hKS _ ?_); clear hKS KS
  apply ARun.grpM 2 2 false 42 [0, 1, 4, 8, 10, 12, 40]
  · intro g2 KG hKG
    refine ARun2.gom ?_
    exact ARun2.endm (hKG _ Le.grpM)
  refine ARun2.gom ?_
  refine ARun2.endm (hK6 _ ?_)
  refine AWp.condT ?_
  refine AWp.regionM fun K7 hK7 => ?_
  refine ARun2.callM (fnew_c 4 i) ?_
  refine ARun2.endm (hK7 _ ?_)
  refine AWp.ret ?_
  try simp only [thenQ, blockQ, noGo]
  refine bodyQ.m ?_
  clear hK7 K7 hK6 K6 hK5 K5 hK4 K4 hK3 K3 hK2 K2 hK1 K1
  simp only [readA, frm0]
  first | done | exact Wk.go
theorem read_c2 (b : List UInt8) (i n : Nat) (hi : i ≤ b.length) (hl : b.length ≤ 2 ^ 40) (h4 : 4 ≤ b.length - i) (hn : peekN 2 (b.drop i) 2 = n) (hn4 : 4 ≤ n) (hnl : n ≤ b.length - i) : PC Tryz.prog 71 [.sl false 1 (bys b), nat i] (readA (readN b i)) := by
  have hnl2 := peek2_lt (b.drop i) 2
  rw [hn] at hnl2
  have ht := peek2_lt (b.drop i) 0
  have hr : readN b i = if i + n = b.length then (⟨peekN 2 (b.drop i) 0, ((b.drop i).drop 4).take (n - 4)⟩, i + n, .ok)
      else if (nextN b (i + n)).isSome = true ∧ (nextN b (i + n)).getD 0 ≠ b.length then (⟨peekN 2 (b.drop i) 0, ((b.drop i).drop 4).take (n - 4)⟩, (nextN b (i + n)).getD 0, .ok)
      else (frm0, 0, .flt 5 (i + n)) := by
    unfold readN; rw [hn, if_pos ⟨h4, hn4, hnl⟩]
  have hd : (b.drop i).length = b.length - i := List.length_drop
  refine PC.of_bodyK (by simp only [push_cast]) Tryz.func71 rfl (by rw [Tryz.ntmps71]; simp) ?_
  refine AWp.regionW ?_
  refine AWp.regionM fun K1 hK1 => ?_
  refine ARun2.sliceLoM (i) ?_ ?_
  · rw [bys_len]; omega
  refine ARun2.callOM [] (new_c (b.drop i) (by omega)) ?_
  refine ARun2.endm (hK1 _ ?_)
  refine AWp.regionM fun K2 hK2 => ?_
  refine ARun2.callOM [1] (num_hit 2 (b.drop i) 0 (by omega) (by omega) (by omega)) ?_
  refine ARun2.endm (hK2 _ ?_)
  refine AWp.regionM fun K3 hK3 => ?_
  refine ARun2.callOM [1] (hn ▸ num_hit 2 (b.drop i) 2 (by omega) (by omega) (by omega)) ?_
  refine ARun2.endm (hK3 _ ?_)
  refine AWp.regionM fun K4 hK4 => ?_
  try rw [w_subl n 4 hn4 (by omega)]
  refine ARun2.callOM [1] (take_ok (b.drop i) 4 (n - 4) (by omega) (by omega)) ?_
  refine ARun2.endm (hK4 _ ?_)
  refine AWp.seqK fun K5 hK5 => ?_
  refine AWp.regionA fun K6 hK6 => ?_
  refine ARun.segm 3 fun KS hKS => ?_
  refine ARun2.endm (hKS _ ?_); clear hKS KS
  apply ARun.grpM 2 2 false 42 [0, 1, 4, 8, 10, 12, 40]
  · intro g2 KG hKG
    refine ARun2.gom ?_
    exact ARun2.endm (hKG _ Le.grpM)
  refine ARun2.gom ?_
  refine ARun2.endm (hK6 _ ?_)
  refine AWp.condF ?_
  refine AWp.skip ?_
  refine hK5 _ ?_
  refine AWp.regionW ?_
  refine AWp.regionM fun K7 hK7 => ?_
  refine ARun2.callM (next_c b (i + n) hl (by omega)) ?_
  refine ARun2.endm (hK7 _ ?_)
  refine AWp.seqK fun K8 hK8 => ?_
  refine AWp.block ?_
  refine AWp.regionW ?_
  refine AWp.condLM (fun c1 => ?_) (fun c1 => ?_)
  · skip
    have he : i + n = b.length := by simpa using c1
    rw [if_pos he] at hr
    refine AWp.regionV ?_
    refine hK8 _ ?_
    refine AWp.regionW ?_
    refine AWp.ret ?_
    try simp only [thenQ, blockQ, noGo]
    refine bodyQ.m ?_
    clear hK8 K8 hK7 K7 hK6 K6 hK5 K5 hK4 K4 hK3 K3 hK2 K2 hK1 K1
    rw [hr]; simp only [readA, frm0]
    first | done | exact Wk.go
  · skip
    have he : ¬ i + n = b.length := by simpa using c1
    rw [if_neg he] at hr
    refine AWp.regionA fun K9 hK9 => ?_
    refine ARun.segm 3 fun KS hKS => ?_
    refine ARun2.endm (hKS _ ?_); clear hKS KS
    apply ARun.grpM 4 2 false 70 [4, 8, 12, 14, 15, 66]
    · intro g2 KG hKG
      refine ARun2.gom ?_
      exact ARun2.endm (hKG _ Le.grpM)
    refine ARun2.gom ?_
    refine ARun2.endm (hK9 _ ?_)
    refine AWp.condLM (fun c2 => ?_) (fun c2 => ?_)
    · skip
      rw [if_neg (by simp at c2; intro h; rcases c2 with c | c <;> simp_all)] at hr
      refine AWp.regionM fun K10 hK10 => ?_
      refine ARun2.callM (fnew_c 5 (i + n)) ?_
      refine ARun2.endm (hK10 _ ?_)
      refine AWp.ret ?_
      try simp only [thenQ, blockQ, noGo]
      refine bodyQ.m ?_
      clear hK10 K10 hK9 K9 hK8 K8 hK7 K7 hK6 K6 hK5 K5 hK4 K4 hK3 K3 hK2 K2 hK1 K1
      rw [hr]; simp only [readA, frm0]
      first | done | exact Wk.go
    · skip
      rw [if_pos (by simp at c2; exact ⟨by simp_all, by simp_all⟩)] at hr
      refine AWp.skip ?_
      refine hK8 _ ?_
      refine AWp.regionW ?_
      refine AWp.ret ?_
      try simp only [thenQ, blockQ, noGo]
      refine bodyQ.m ?_
      clear hK9 K9 hK8 K8 hK7 K7 hK6 K6 hK5 K5 hK4 K4 hK3 K3 hK2 K2 hK1 K1
      rw [hr]; simp only [readA, frm0]
      first | done | exact Wk.go
theorem read_c (b : List UInt8) (i : Nat) (hi : i ≤ b.length) (hl : b.length ≤ 2 ^ 40) : PC Tryz.prog 71 [.sl false 1 (bys b), nat i] (readA (readN b i)) := by
  by_cases h4 : 4 ≤ b.length - i
  · by_cases hn : 4 ≤ peekN 2 (b.drop i) 2 ∧ peekN 2 (b.drop i) 2 ≤ b.length - i
    · exact read_c2 b i _ hi hl h4 rfl hn.1 hn.2
    · have hr : readN b i = (frm0, 0, .flt 4 i) := by unfold readN; rw [if_neg fun h => hn h.2]
      rw [hr]
      exact read_c1 b i _ hi hl h4 rfl (by omega)
  · have hr : readN b i = (frm0, 0, .flt 4 i) := by unfold readN; rw [if_neg fun h => h4 h.1]
    rw [hr]
    by_cases h2 : b.length - i < 2
    · exact read_a b i hi hl h2
    · exact read_b b i hi hl (by omega) (by omega)
end Go.Proofs.YtmcedkcehcacpaaGreatDoor.C
/- Lists of frames: tlv.Split, tlv.All, tlv.Put, tlv.Join. -/
set_option linter.unusedVariables false
set_option linter.unusedSimpArgs false
namespace Go.Proofs.YtmcedkcehcacpaaGreatDoor.C
open Go.Abs
theorem nextN_le {b : List UInt8} {n : Nat} (h : (nextN b n).isSome = true) : n ≤ (nextN b n).getD 0 ∧ (nextN b n).getD 0 ≤ b.length := by
  unfold nextN at h ⊢
  split at h
  · rename_i hc; rw [if_pos hc]; exact ⟨by simp [upN], hc.2.1⟩
  · simp at h
theorem readN_next {b : List UInt8} {i : Nat} (h : (readN b i).2.2 = .ok) : i + 4 ≤ (readN b i).2.1 ∧ (readN b i).2.1 ≤ b.length := by
  unfold readN at h ⊢
  split at h
  · rename_i hc
    rw [if_pos hc]
    split at h
    · rename_i he; rw [if_pos he]; exact ⟨by show i + 4 ≤ i + _; omega, by show i + _ ≤ _; omega⟩
    · rename_i he
      rw [if_neg he]
      split at h
      · rename_i hs
        rw [if_pos hs]
        have := nextN_le hs.1
        exact ⟨by show i + 4 ≤ Option.getD _ 0; omega, this.2⟩
      · cases h
  · cases h
/-- the frames from an offset on, with their offsets, up to an error -/
def scan (b : List UInt8) : Nat → Nat → List (Nat × Frm) × Er
  | 0, _ => ([], .ok)
  | k + 1, i => if i < b.length then
      match (readN b i).2.2 with
      | .ok => ((i, (readN b i).1) :: (scan b k (readN b i).2.1).1, (scan b k (readN b i).2.1).2)
      | e => ([], e)
    else ([], .ok)
def scanInv (b : List UInt8) (p : List (Nat × Frm)) (k i : Nat) : Prop :=
  i ≤ b.length ∧ b.length - i ≤ k ∧ scan b b.length 0 = (p ++ (scan b k i).1, (scan b k i).2) ∧ p.length ≤ i
theorem scanInv_0 (b : List UInt8) : scanInv b [] b.length 0 := ⟨Nat.zero_le _, by omega, rfl, Nat.zero_le _⟩
theorem scanInv_step {b : List UInt8} {p : List (Nat × Frm)} {k i : Nat} (h : scanInv b p k i) (hi : i < b.length) (he : (readN b i).2.2 = .ok) : scanInv b (p ++ [(i, (readN b i).1)]) (k - 1) (readN b i).2.1 := by
  obtain ⟨h1, h2, h3, h4⟩ := h
  obtain ⟨n1, n2⟩ := readN_next he
  cases k with
  | zero => omega
  | succ k =>
    refine ⟨n2, by simp only [Nat.add_sub_cancel]; omega, ?_, by simp; omega⟩
    rw [h3, scan, if_pos hi, he]
    simp
theorem scanInv_err {b : List UInt8} {p : List (Nat × Frm)} {k i : Nat} (h : scanInv b p k i) (hi : i < b.length) (he : (readN b i).2.2 ≠ .ok) : scan b b.length 0 = (p, (readN b i).2.2) := by
  obtain ⟨h1, h2, h3, h4⟩ := h
  cases k with
  | zero => omega
  | succ k =>
    rw [h3, scan, if_pos hi]
    cases hq : (readN b i).2.2 with
    | ok => exact absurd hq he
    | code c => simp
    | flt c j => simp
theorem scanInv_end {b : List UInt8} {p : List (Nat × Frm)} {k i : Nat} (h : scanInv b p k i) (hi : ¬ i < b.length) : scan b b.length 0 = (p, .ok) := by
  obtain ⟨h1, h2, h3, h4⟩ := h
  rw [h3]
  cases k with
  | zero => simp [scan]
  | succ k => simp [scan, hi]
theorem scan_split {b : List UInt8} {p : List (Nat × Frm)} {k i : Nat} (h : scanInv b p k i) (hi : i < b.length) (he : (readN b i).2.2 = .ok) : ∃ r, (scan b b.length 0).1 = p ++ (i, (readN b i).1) :: r := by
  obtain ⟨h1, h2, h3, h4⟩ := h
  cases k with
  | zero => omega
  | succ k =>
    rw [h3, scan, if_pos hi, he]
    exact ⟨_, rfl⟩
@[push_cast] theorem frmsA_nil (b : Bool) : frmsA b [] = [] := rfl
theorem frmsA_snoc (b : Bool) (l : List Frm) (f : Frm) : frmsA b (l ++ [f]) = frmsA b l ++ [frmA b f] := by simp [frmsA]
/-- the frames of a list of bytes, or its error -/
def splitN (b : List UInt8) : List Frm × Er := if (scan b b.length 0).2 = .ok then ((scan b b.length 0).1.map (·.2), .ok) else ([], (scan b b.length 0).2)
theorem isOk_iff (e : Er) : e.isOk = true ↔ e = .ok := by cases e <;> simp [Er.isOk]
theorem split_c (b : List UInt8) (hl : b.length ≤ 2 ^ 40) : PC Tryz.prog 56 [.sl false 1 (bys b)] (.tup [.sl true 2 (frmsA true (splitN b).1), erA (splitN b).2]) := by
  refine PC.of_bodyK (by simp only [push_cast]) Tryz.func56 rfl (by rw [Tryz.ntmps56]; simp) ?_
  refine AWp.regionW ?_
  refine AWp.regionW ?_
  refine AWp.seqK fun K1 hK1 => ?_
  refine AWp.regionW ?_
  refine AWp.block ?_
  -- SLOTS THAT TURN AND ARE NOT TOLD: [4]
  refine AWp.nilOwn 4 71 2 (by simp only [push_cast, reduceIte, Nat.reduceEqDiff, Nat.reduceLT, Nat.reduceAdd, Nat.reduceSub, Nat.reduceMul, Nat.reduceLeDiff, Nat.reducePow, Int.reduceLT, Int.reduceToNat, reduceCtorEq, Int.reduceNeg, Int.reduceEq, Nat.reduceBEq, Nat.reduceBNe, Int.reduceBEq, Int.reduceBNe, String.reduceEq]) ?_
  simp only [push_cast, reduceIte, Nat.reduceEqDiff, Nat.reduceLT, Nat.reduceAdd, Nat.reduceSub, Nat.reduceMul, Nat.reduceLeDiff, Nat.reducePow, Int.reduceLT, Int.reduceToNat, reduceCtorEq, Int.reduceNeg, Int.reduceEq, Nat.reduceBEq, Nat.reduceBNe, Int.reduceBEq, Int.reduceBNe, String.reduceEq]
  refine AWp.loopK [0, 4] (fun (g : List (Nat × Frm) × Nat × Nat) => [(5, nat g.2.2)]) (fun g => [.row 71 2 (frmsA true (g.1.map (·.2)))]) (fun g => scanInv b g.1 g.2.1 g.2.2) (fun g => b.length - g.2.2) (([], b.length, 0)) ?_ (scanInv_0 b) ?_
  · skip
    refine Le.m 1 ?_ ?_
    · first | with_reducible rfl | (simp only [push_cast, reduceIte, Nat.reduceEqDiff, Nat.reduceLT, Nat.reduceAdd, Nat.reduceSub, Nat.reduceMul, Nat.reduceLeDiff, Nat.reducePow, Int.reduceLT, Int.reduceToNat, reduceCtorEq, Int.reduceNeg, Int.reduceEq, Nat.reduceBEq, Nat.reduceBNe, Int.reduceBEq, Int.reduceBNe, String.reduceEq]; first | done | rfl | (simp (disch := omega) only [w_nat, w_add, w_addl, w_addr, w_sub, w_subl, w_mul, w_mull, w_mulr, w_u32, w_u16, w_u8, w_u32a, N_zero]; first | done | rfl))
    · first | (simp only [push_cast, reduceIte, Nat.reduceEqDiff, Nat.reduceLT, Nat.reduceAdd, Nat.reduceSub, Nat.reduceMul, Nat.reduceLeDiff, Nat.reducePow, Int.reduceLT, Int.reduceToNat, reduceCtorEq, Int.reduceNeg, Int.reduceEq, Nat.reduceBEq, Nat.reduceBNe, Int.reduceBEq, Int.reduceBNe, String.reduceEq]; first | done | rfl | (simp (disch := omega) only [w_nat, w_add, w_addl, w_addr, w_sub, w_subl, w_mul, w_mull, w_mulr, w_u32, w_u16, w_u8, w_u32a, N_zero]; first | done | rfl))
  · intro g hg K2 hK2
    obtain ⟨p, k, i⟩ := g
    dsimp only at hg ⊢
    refine AWp.seqK fun K3 hK3 => ?_
    refine AWp.regionW ?_
    refine AWp.condLM (fun c0 => ?_) (fun c0 => ?_)
    · skip
      have hil : i < b.length := by simpa using c0
      refine AWp.skip ?_
      refine hK3 _ ?_
      refine AWp.block ?_
      refine AWp.regionM fun K4 hK4 => ?_
      refine ARun2.callM (read_c b i (by omega) hl) ?_
      refine ARun2.endm (hK4 _ ?_)
      refine AWp.seqK fun K5 hK5 => ?_
      refine AWp.regionW ?_
      refine AWp.condLM (fun c1 => ?_) (fun c1 => ?_)
      · skip
        have he : (readN b i).2.2 ≠ .ok := by intro h; rw [h] at c1; simp [Er.isOk] at c1
        have hr : splitN b = ([], (readN b i).2.2) := by unfold splitN; rw [scanInv_err hg hil he]; rw [if_neg he]
        refine AWp.regionW ?_
        refine AWp.ret ?_
        try simp only [thenQ, blockQ, noGo]
        refine bodyQ.m ?_
        clear hK5 K5 hK4 K4 hK3 K3 hK2 K2 hK1 K1
        rw [hr]
        first | done | exact Wk.go
      · skip
        have he : (readN b i).2.2 = .ok := by rw [← isOk_iff]; simpa using c1
        have hst := scanInv_step hg hil he
        have hpl := hg.2.2.2
        refine AWp.skip ?_
        refine hK5 _ ?_
        refine AWp.regionM fun K6 hK6 => ?_
        refine ARun2.appendM ?_ ?_ ?_
        · rw [YtmcedkcehcacpaaGreatDoor.Facts.eb68, frmsA_len, List.length_map, List.length_cons, List.length_nil]; omega
        · rw [frmsA_len, List.length_map, List.length_cons, List.length_nil]; omega
        refine ARun2.endm (hK6 _ ?_)
        refine AWp.regionV ?_
        refine hK2 _ ((p ++ [(i, (readN b i).1)], k - 1, (readN b i).2.1)) (hst) (by have := readN_next he; show b.length - (readN b i).2.1 < b.length - i; omega) ?_
        refine Le.m 1 ?_ ?_
        · try simp only [push_cast, reduceIte, Nat.reduceEqDiff, Nat.reduceLT, Nat.reduceAdd, Nat.reduceSub, Nat.reduceMul, Nat.reduceLeDiff, Nat.reducePow, Int.reduceLT, Int.reduceToNat, reduceCtorEq, Int.reduceNeg, Int.reduceEq, Nat.reduceBEq, Nat.reduceBNe, Int.reduceBEq, Int.reduceBNe, String.reduceEq]
          try simp (disch := omega) only [w_nat, w_add, w_addl, w_addr, w_sub, w_subl, w_mul, w_mull, w_mulr, w_u32, w_u16, w_u8, w_u32a, N_zero]
          first | done | skip
          rw [List.map_append, List.map_cons, List.map_nil, frmsA_snoc]; rfl
        · first | (simp only [push_cast, reduceIte, Nat.reduceEqDiff, Nat.reduceLT, Nat.reduceAdd, Nat.reduceSub, Nat.reduceMul, Nat.reduceLeDiff, Nat.reducePow, Int.reduceLT, Int.reduceToNat, reduceCtorEq, Int.reduceNeg, Int.reduceEq, Nat.reduceBEq, Nat.reduceBNe, Int.reduceBEq, Int.reduceBNe, String.reduceEq]; first | done | rfl | (simp (disch := omega) only [w_nat, w_add, w_addl, w_addr, w_sub, w_subl, w_mul, w_mull, w_mulr, w_u32, w_u16, w_u8, w_u32a, N_zero]; first | done | rfl))
    · skip
      have hil : ¬ i < b.length := by simpa using c0
      have hr : splitN b = (p.map (·.2), .ok) := by unfold splitN; rw [scanInv_end hg hil]; rw [if_pos rfl]
      refine AWp.exit ?_
      try simp only [thenQ, blockQ, noGo, reduceIte, Nat.reduceEqDiff]
      refine hK1 _ ?_
      refine AWp.pubD 0 ?_
      refine AWp.regionW ?_
      refine AWp.ret ?_
      try simp only [thenQ, blockQ, noGo]
      refine bodyQ.m ?_
      clear hK3 K3 hK2 K2 hK1 K1
      rw [hr]
      first | done | exact Wk.go
def ysOf (l : List (Nat × Frm)) : List (List AV) := l.map fun p => [nat p.1, frmA true p.2]
theorem all_iter (d : List UInt8) (hl : d.length ≤ 2 ^ 40) : IterC Tryz.prog 73 [.ref false (.agg [.sl false 1 (bys d)])] (ysOf (scan d d.length 0).1) := by
  refine IterC.of_body Tryz.func73 rfl (by rw [Tryz.ntmps73]; simp) fun lb => ?_
  refine AWp.scope ?_
  refine AWp.seq (AWp.label ?_)
  refine AWp.regionW ?_
  refine AWp.block ?_
  refine AWp.loopKT [0, 1] (fun (g : List (Nat × Frm) × Nat × Nat) => [(3, nat g.2.2)]) (fun g => []) (fun g => ysOf g.1) (fun g => scanInv d g.1 g.2.1 g.2.2) (fun g => d.length - g.2.2) (([], d.length, 0)) ?_ (scanInv_0 d) ?_
  · skip
    refine Le.m 0 ?_ ?_ ?_
    · first | with_reducible rfl | (simp only [push_cast, reduceIte, Nat.reduceEqDiff, Nat.reduceLT, Nat.reduceAdd, Nat.reduceSub, Nat.reduceMul, Nat.reduceLeDiff, Nat.reducePow, Int.reduceLT, Int.reduceToNat, reduceCtorEq, Int.reduceNeg, Int.reduceEq, Nat.reduceBEq, Nat.reduceBNe, Int.reduceBEq, Int.reduceBNe, String.reduceEq]; first | done | rfl | (simp (disch := omega) only [w_nat, w_add, w_addl, w_addr, w_sub, w_subl, w_mul, w_mull, w_mulr, w_u32, w_u16, w_u8, w_u32a, N_zero]; first | done | rfl))
    · first | (simp only [push_cast, reduceIte, Nat.reduceEqDiff, Nat.reduceLT, Nat.reduceAdd, Nat.reduceSub, Nat.reduceMul, Nat.reduceLeDiff, Nat.reducePow, Int.reduceLT, Int.reduceToNat, reduceCtorEq, Int.reduceNeg, Int.reduceEq, Nat.reduceBEq, Nat.reduceBNe, Int.reduceBEq, Int.reduceBNe, String.reduceEq]; first | done | rfl | (simp (disch := omega) only [w_nat, w_add, w_addl, w_addr, w_sub, w_subl, w_mul, w_mull, w_mulr, w_u32, w_u16, w_u8, w_u32a, N_zero]; first | done | rfl))
    · exact ⟨rfl, rfl, rfl, rfl, rfl, rfl⟩
  · intro g hg K1 hK1
    obtain ⟨p, k, i⟩ := g
    dsimp only at hg ⊢
    refine AWp.seqK fun K2 hK2 => ?_
    refine AWp.regionW ?_
    refine AWp.condLM (fun c0 => ?_) (fun c0 => ?_)
    · skip
      have hil : i < d.length := by simpa using c0
      refine AWp.skip ?_
      refine hK2 _ ?_
      refine AWp.block ?_
      refine AWp.regionM fun K3 hK3 => ?_
      refine ARun2.callM (read_c d i (by omega) hl) ?_
      refine ARun2.endm (hK3 _ ?_)
      refine AWp.seqK fun K4 hK4 => ?_
      refine AWp.block ?_
      refine AWp.regionW ?_
      refine AWp.condLM (fun c1 => ?_) (fun c1 => ?_)
      · skip
        have he : (readN d i).2.2 ≠ .ok := by intro h; rw [h] at c1; simp [Er.isOk] at c1
        have hr := scanInv_err hg hil he
        refine AWp.exit ?_
        try simp only [thenQ, blockQ, noGo, reduceIte, Nat.reduceEqDiff]
        try simp only [noGo]
        try simp only [thenQ, blockQ, noGo]
        refine bodyQ.n ?_
        clear hK4 K4 hK3 K3 hK2 K2 hK1 K1
        exact ⟨fun _ => (by show ysOf p = _; rw [hr]), fun h => (by cases h)⟩
      · skip
        have he : (readN d i).2.2 = .ok := by rw [← isOk_iff]; simpa using c1
        have hst := scanInv_step hg hil he
        obtain ⟨r, hsp⟩ := scan_split hg hil he
        have hsp2 : ysOf (scan d d.length 0).1 = ysOf p ++ [nat i, frmA true (readN d i).1] :: ysOf r := by rw [hsp]; simp [ysOf]
        refine AWp.regionM fun K5 hK5 => ?_
        refine ARun2.yieldM (ysOf r) (hsp2) fun b => ?_
        refine ARun2.endm (hK5 _ ?_)
        refine AWp.condLM (fun c2 => ?_) (fun c2 => ?_)
        · skip
          have hb : b = false := by simpa using c2
          subst hb
          refine AWp.exit ?_
          try simp only [thenQ, blockQ, noGo, reduceIte, Nat.reduceEqDiff]
          try simp only [noGo]
          try simp only [thenQ, blockQ, noGo]
          refine bodyQ.n ?_
          clear hK5 K5 hK4 K4 hK3 K3 hK2 K2 hK1 K1
          exact ⟨fun h => (by cases h), fun _ => ⟨ysOf r, hsp2.trans (by simp [AS.lit, frmA])⟩⟩
        · skip
          have hb : b = true := by simpa using c2
          subst hb
          refine AWp.skip ?_
          refine hK4 _ ?_
          refine AWp.regionV ?_
          refine hK1 _ ((p ++ [(i, (readN d i).1)], k - 1, (readN d i).2.1)) (hst) (by have := readN_next he; show d.length - (readN d i).2.1 < d.length - i; omega) ?_
          refine Le.m 0 ?_ ?_ ?_
          · first | with_reducible rfl | (simp only [push_cast, reduceIte, Nat.reduceEqDiff, Nat.reduceLT, Nat.reduceAdd, Nat.reduceSub, Nat.reduceMul, Nat.reduceLeDiff, Nat.reducePow, Int.reduceLT, Int.reduceToNat, reduceCtorEq, Int.reduceNeg, Int.reduceEq, Nat.reduceBEq, Nat.reduceBNe, Int.reduceBEq, Int.reduceBNe, String.reduceEq]; first | done | rfl | (simp (disch := omega) only [w_nat, w_add, w_addl, w_addr, w_sub, w_subl, w_mul, w_mull, w_mulr, w_u32, w_u16, w_u8, w_u32a, N_zero]; first | done | rfl))
          · first | (simp only [push_cast, reduceIte, Nat.reduceEqDiff, Nat.reduceLT, Nat.reduceAdd, Nat.reduceSub, Nat.reduceMul, Nat.reduceLeDiff, Nat.reducePow, Int.reduceLT, Int.reduceToNat, reduceCtorEq, Int.reduceNeg, Int.reduceEq, Nat.reduceBEq, Nat.reduceBNe, Int.reduceBEq, Int.reduceBNe, String.reduceEq]; first | done | rfl | (simp (disch := omega) only [w_nat, w_add, w_addl, w_addr, w_sub, w_subl, w_mul, w_mull, w_mulr, w_u32, w_u16, w_u8, w_u32a, N_zero]; first | done | rfl))
          · refine ⟨rfl, rfl, rfl, rfl, ?_, rfl⟩
            show ysOf (p ++ [(i, (readN d i).1)]) = ysOf p ++ [_]
            simp [ysOf, frmA]
    · skip
      have hil : ¬ i < d.length := by simpa using c0
      have hr := scanInv_end hg hil
      refine AWp.exit ?_
      try simp only [thenQ, blockQ, noGo, reduceIte, Nat.reduceEqDiff]
      try simp only [noGo]
      try simp only [thenQ, blockQ, noGo]
      refine bodyQ.n ?_
      clear hK2 K2 hK1 K1
      exact ⟨fun _ => (by show ysOf p = _; rw [hr]), fun h => (by cases h)⟩
end Go.Proofs.YtmcedkcehcacpaaGreatDoor.C
/- Frames written: tlv.All (the iterator itself), tlv.Put, tlv.Join; nodes written: frames, Encode. -/
set_option linter.unusedVariables false
set_option linter.unusedSimpArgs false
namespace Go.Proofs.YtmcedkcehcacpaaGreatDoor.C
open Go.Abs
theorem all_c (b : List UInt8) : PC Tryz.prog 58 [.sl false 1 (bys b)] (.fn (.func 73) [] [.ref true (.agg [.sl false 1 (bys b)])]) := by
  refine PC.of_body (by simp only [push_cast]) Tryz.func58 rfl (by rw [Tryz.ntmps58]; simp) ?_
  refine AWp.regionW ?_
  refine AWp.regionW ?_
  refine AWp.pubBox 0 rfl (Nat.le_refl _) rfl (by simp) ?_
  simp only [push_cast, reduceIte, Nat.reduceEqDiff, Nat.reduceLT, Nat.reduceAdd, Nat.reduceSub, Nat.reduceMul, Nat.reduceLeDiff, Nat.reducePow, Int.reduceLT, Int.reduceToNat, reduceCtorEq, Int.reduceNeg, Int.reduceEq, Nat.reduceBEq, Nat.reduceBNe, Int.reduceBEq, Int.reduceBNe, String.reduceEq]
  refine AWp.ret ?_
  try simp only [thenQ, blockQ, noGo]
  refine bodyQ.m ?_
  rfl
/-- a frame's bytes -/
def putF (f : Frm) : List UInt8 := putB 2 f.ty ++ putB 2 (4 + f.val.length) ++ f.val
theorem putF_len (f : Frm) : (putF f).length = 4 + f.val.length := by simp [putF, putB_len]; omega
def fitF (f : Frm) : Bool := decide (f.val.length ≤ 65531)
theorem put_c (f : Frm) (ht : f.ty < 65536) (hl : f.val.length ≤ 2 ^ 38) : PC Tryz.prog 52 [frmA false f] (.tup [.sl true 1 (bys (if fitF f = true then putF f else [])), bool (fitF f)]) := by
  refine PC.of_bodyK (by simp only [push_cast]) Tryz.func52 rfl (by rw [Tryz.ntmps52]; simp) ?_
  refine AWp.regionW ?_
  refine AWp.seqK fun K1 hK1 => ?_
  refine AWp.regionW ?_
  refine AWp.condLM (fun c0 => ?_) (fun c0 => ?_)
  · skip
    have hf : fitF f = false := by simp at c0; unfold fitF; exact decide_eq_false (by omega)
    refine AWp.regionW ?_
    refine AWp.ret ?_
    try simp only [thenQ, blockQ, noGo]
    refine bodyQ.m ?_
    clear hK1 K1
    rw [hf]; simp only [if_true, if_false, reduceCtorEq, Bool.false_eq_true]
    first | done | exact Wk.go
  · skip
    have hle : f.val.length ≤ 65531 := by simp at c0; exact c0
    have hf : fitF f = true := decide_eq_true hle
    have hp := wire_put 2 [f.ty, 4 + f.val.length] (by omega) (by intro x hx; simp at hx; omega) (by simp)
    rw [show [f.ty, 4 + f.val.length].flatMap (putB 2) = putB 2 f.ty ++ putB 2 (4 + f.val.length) by simp] at hp
    have hj := wjoin_c [putB 2 f.ty ++ putB 2 (4 + f.val.length), f.val] (by simp [lens, putB_len]; omega) (by simp)
    rw [show [putB 2 f.ty ++ putB 2 (4 + f.val.length), f.val].flatten = putF f by simp [putF]] at hj
    refine AWp.skip ?_
    refine hK1 _ ?_
    refine AWp.drS [[(1, none)], [(8, some 0)], [(9, some 1)], [(1, none)], [(11, some 3)], [(12, some 4)], [(13, some 5)], [(14, some 6)], [(10, some 2), (15, some 7)], [(16, some 8)], [(1, none)], [(18, some 10)], [(17, some 9), (19, some 11)], [(20, some 12)], [(21, some 13)], []] fun G hG => ?_
    refine Dr.sim ?_
    try simp only [List.cons_append, List.nil_append]
    refine Dr.sim ?_
    try simp only [List.cons_append, List.nil_append]
    refine Dr.sim ?_
    try simp only [List.cons_append, List.nil_append]
    refine Dr.sim ?_
    try simp only [List.cons_append, List.nil_append]
    refine Dr.sim ?_
    try simp only [List.cons_append, List.nil_append]
    refine Dr.sim ?_
    try simp only [List.cons_append, List.nil_append]
    refine Dr.sim ?_
    try simp only [List.cons_append, List.nil_append]
    refine Dr.sim ?_
    try simp only [List.cons_append, List.nil_append]
    refine Dr.build ?_
    try simp only [List.cons_append, List.nil_append]
    refine Dr.call (hp) ?_
    try simp only [List.cons_append, List.nil_append]
    refine Dr.sim ?_
    try simp only [List.cons_append, List.nil_append]
    refine Dr.sim ?_
    try simp only [List.cons_append, List.nil_append]
    refine Dr.build ?_
    try simp only [List.cons_append, List.nil_append]
    refine Dr.call (hj) ?_
    try simp only [List.cons_append, List.nil_append]
    refine Dr.sim ?_
    try simp only [List.cons_append, List.nil_append]
    refine Dr.sim ?_
    try simp only [List.cons_append, List.nil_append]
    refine Dr.finM (n := 16) [(2, 14), (3, 15)] [] hG YtmcedkcehcacpaaGreatDoor.Facts.mixed fun KD hKD => ?_
    refine ARun2.endm (hKD _ ?_); clear hKD KD hG G
    refine AWp.ret ?_
    try simp only [thenQ, blockQ, noGo]
    refine bodyQ.m ?_
    clear hK1 K1
    rw [hf]; simp only [if_true, if_false, reduceCtorEq, Bool.false_eq_true]
    first | done | exact Wk.go
/-- the bytes of frames, one behind the other -/
def joinF (l : List Frm) : List UInt8 := l.foldl (fun out f => padB out ++ putF f) []
theorem joinF_snoc (l : List Frm) (f : Frm) : joinF (l ++ [f]) = padB (joinF l) ++ putF f := by simp [joinF]
theorem joinF_len_aux : ∀ (l : List Frm) (acc : List UInt8), (l.foldl (fun out f => padB out ++ putF f) acc).length = sumUp acc.length ((l.map fun f => f.val.length).map (4 + ·))
  | [], acc => rfl
  | f :: l, acc => by
    rw [List.foldl_cons, joinF_len_aux l, List.length_append, padB_len, putF_len]
    rfl
theorem joinF_len (l : List Frm) : (joinF l).length = tlvSize (l.map fun f => f.val.length) := joinF_len_aux l []
theorem tlvSize_take (l : List Nat) (i : Nat) : tlvSize (l.take i) ≤ tlvSize l := by
  unfold tlvSize; rw [List.map_take]; exact sumUp_take _ _
def joinX (l : List Frm) : List UInt8 := if l.all fitF = true then joinF l else []
theorem join_c (l : List Frm) (ht : ∀ f ∈ l, f.ty < 65536) (hs : tlvSize (l.map fun f => f.val.length) ≤ 2 ^ 36) (hl : l.length ≤ 2 ^ 40) : PC Tryz.prog 31 [.sl false 2 (frmsA false l)] (.tup [.sl true 1 (bys (joinX l)), bool (l.all fitF)]) := by
  refine PC.of_bodyK (by simp only [push_cast]) Tryz.func31 rfl (by rw [Tryz.ntmps31]; simp) ?_
  refine AWp.regionW ?_
  refine AWp.regionW ?_
  refine AWp.seqK fun K1 hK1 => ?_
  refine AWp.regionW ?_
  refine AWp.block ?_
  refine AWp.nilSl 4 true 1 ?_
  refine AWp.loopK0 [9, 10] (fun (i : Nat) => [(4, .sl true 1 (bys (joinF (l.take i)))), (11, nat i)]) (fun i => i ≤ l.length ∧ (l.take i).all fitF = true) (fun i => l.length - i) (0) ?_ ⟨Nat.zero_le _, rfl⟩ ?_
  · skip
    refine Le.m 0 ?_ ?_
    · first | with_reducible rfl | (simp only [push_cast, reduceIte, Nat.reduceEqDiff, Nat.reduceLT, Nat.reduceAdd, Nat.reduceSub, Nat.reduceMul, Nat.reduceLeDiff, Nat.reducePow, Int.reduceLT, Int.reduceToNat, reduceCtorEq, Int.reduceNeg, Int.reduceEq, Nat.reduceBEq, Nat.reduceBNe, Int.reduceBEq, Int.reduceBNe, String.reduceEq]; first | done | rfl | (simp (disch := omega) only [w_nat, w_add, w_addl, w_addr, w_sub, w_subl, w_mul, w_mull, w_mulr, w_u32, w_u16, w_u8, w_u32a, N_zero]; first | done | rfl))
    · first | (simp only [push_cast, reduceIte, Nat.reduceEqDiff, Nat.reduceLT, Nat.reduceAdd, Nat.reduceSub, Nat.reduceMul, Nat.reduceLeDiff, Nat.reducePow, Int.reduceLT, Int.reduceToNat, reduceCtorEq, Int.reduceNeg, Int.reduceEq, Nat.reduceBEq, Nat.reduceBNe, Int.reduceBEq, Int.reduceBNe, String.reduceEq]; first | done | rfl | (simp (disch := omega) only [w_nat, w_add, w_addl, w_addr, w_sub, w_subl, w_mul, w_mull, w_mulr, w_u32, w_u16, w_u8, w_u32a, N_zero]; first | done | rfl))
  · intro i hi K2 hK2
    refine AWp.regionW ?_
    refine AWp.seqK fun K3 hK3 => ?_
    refine AWp.condLM (fun c0 => ?_) (fun c0 => ?_)
    · skip
      have hil : i < l.length := by simpa using c0
      have hti := ht l[i] (List.getElem_mem hil)
      have hsi := tlvSize_mem (l := l.map fun f => f.val.length) (List.mem_map.2 ⟨l[i], List.getElem_mem hil, rfl⟩)
      have hj := joinF_len (l.take (i + 1))
      rw [List.map_take] at hj
      have hj2 := tlvSize_take (l.map fun f => f.val.length) (i + 1)
      rw [List.take_succ_eq_append_getElem hil, joinF_snoc, List.length_append] at hj
      have hu := padB_len (joinF (l.take i))
      have hu2 : (joinF (l.take i)).length ≤ upN (joinF (l.take i)).length := by unfold upN; omega
      refine AWp.skip ?_
      refine hK3 _ ?_
      refine AWp.seqK fun K4 hK4 => ?_
      refine AWp.block ?_
      refine AWp.regionM fun K5 hK5 => ?_
      refine ARun2.indexM (i) (frmA false l[i]) ?_ ?_
      · exact frmsA_at _ _ _ hil
      refine ARun2.endm (hK5 _ ?_)
      refine AWp.regionM fun K6 hK6 => ?_
      refine ARun2.callM (put_c l[i] hti (by omega)) ?_
      refine ARun2.endm (hK6 _ ?_)
      refine AWp.seqK fun K7 hK7 => ?_
      refine AWp.regionW ?_
      refine AWp.condLM (fun c1 => ?_) (fun c1 => ?_)
      · skip
        have hf : fitF l[i] = false := by simpa using c1
        have hr : l.all fitF = false := by rw [List.all_eq_false]; exact ⟨l[i], List.getElem_mem hil, by simp [hf]⟩
        have hr2 : joinX l = [] := by unfold joinX; rw [hr]; rfl
        refine AWp.regionW ?_
        refine AWp.ret ?_
        try simp only [thenQ, blockQ, noGo]
        refine bodyQ.m ?_
        clear hK7 K7 hK6 K6 hK5 K5 hK4 K4 hK3 K3 hK2 K2 hK1 K1
        rw [hr, hr2]
        first | done | exact Wk.go
      · skip
        have hf : fitF l[i] = true := by simpa using c1
        rw [hf, if_pos rfl]
        refine AWp.skip ?_
        refine hK7 _ ?_
        refine AWp.regionN fun K8 hK8 => ?_
        refine ARun2.callOM [] (padBytes_o (joinF (l.take i)) (by omega)) ?_
        refine ARun2.appendM ?_ ?_ ?_
        · rw [YtmcedkcehcacpaaGreatDoor.Facts.eb31, bys_len, bys_len]; omega
        · rw [bys_len, bys_len]; omega
        refine ARun2.endm (hK8 _ ?_)
        refine hK4 _ ?_
        refine AWp.pubD 1 ?_
        refine AWp.regionV ?_
        refine hK2 _ (i + 1) (⟨hil, by rw [List.take_succ_eq_append_getElem hil, List.all_append, hi.2]; simp [hf]⟩) (by omega) ?_
        refine Le.m 0 ?_ ?_
        · first | with_reducible rfl | (simp only [push_cast, reduceIte, Nat.reduceEqDiff, Nat.reduceLT, Nat.reduceAdd, Nat.reduceSub, Nat.reduceMul, Nat.reduceLeDiff, Nat.reducePow, Int.reduceLT, Int.reduceToNat, reduceCtorEq, Int.reduceNeg, Int.reduceEq, Nat.reduceBEq, Nat.reduceBNe, Int.reduceBEq, Int.reduceBNe, String.reduceEq]; first | done | rfl | (simp (disch := omega) only [w_nat, w_add, w_addl, w_addr, w_sub, w_subl, w_mul, w_mull, w_mulr, w_u32, w_u16, w_u8, w_u32a, N_zero]; first | done | rfl))
        · simp only [push_cast, reduceIte, Nat.reduceEqDiff, Nat.reduceLT, Nat.reduceAdd, Nat.reduceSub, Nat.reduceMul, Nat.reduceLeDiff, Nat.reducePow, Int.reduceLT, Int.reduceToNat, reduceCtorEq, Int.reduceNeg, Int.reduceEq, Nat.reduceBEq, Nat.reduceBNe, Int.reduceBEq, Int.reduceBNe, String.reduceEq]
          try simp (disch := omega) only [w_nat, w_add, w_addl, w_addr, w_sub, w_subl, w_mul, w_mull, w_mulr, w_u32, w_u16, w_u8, w_u32a, N_zero]
          rw [List.take_succ_eq_append_getElem hil, joinF_snoc, bys_append]
    · skip
      have hil : i = l.length := by have := hi.1; simp at c0; omega
      subst hil
      have hr : l.all fitF = true := by have := hi.2; rwa [List.take_length] at this
      have hr2 : joinX l = joinF l := by unfold joinX; rw [if_pos hr]
      rw [List.take_length]
      refine AWp.exit ?_
      try simp only [thenQ, blockQ, noGo, reduceIte, Nat.reduceEqDiff]
      refine hK1 _ ?_
      refine AWp.regionW ?_
      refine AWp.ret ?_
      try simp only [thenQ, blockQ, noGo]
      refine bodyQ.m ?_
      clear hK3 K3 hK2 K2 hK1 K1
      rw [hr, hr2]
      first | done | exact Wk.go
end Go.Proofs.YtmcedkcehcacpaaGreatDoor.C
/- node: Clone, Same. -/
set_option linter.unusedVariables false
set_option linter.unusedSimpArgs false
namespace Go.Abs
theorem nodesA_snoc (b : Bool) (l : List GNode) (n : GNode) : nodesA b (l ++ [n]) = nodesA b l ++ [nodeA b n] := by rw [nodesA_map, nodesA_map, List.map_append]; rfl
mutual
/-- all that a node holds -/
def GNode.sz : GNode → Nat
  | .mk _ d k => d.length + szs k + 1
def szs : List GNode → Nat
  | [] => 0
  | n :: l => n.sz + szs l
end
theorem GNode.sz_eq (n : GNode) : n.sz = n.data.length + szs n.kids + 1 := by cases n; simp [GNode.sz, GNode.kids, GNode.data]
theorem szs_mem : ∀ {l : List GNode} {n : GNode}, n ∈ l → n.sz ≤ szs l
  | [], n, h => by simp at h
  | m :: l, n, h => by
    rcases List.mem_cons.1 h with h | h
    · subst h; simp only [szs]; omega
    · have := szs_mem h; simp only [szs]; omega
theorem szs_len : ∀ l : List GNode, l.length ≤ szs l
  | [] => by simp [szs]
  | n :: l => by
    have := szs_len l
    have := n.sz_eq
    simp only [szs, List.length_cons]; omega
theorem szs_lt {n m : GNode} (h : m ∈ n.kids) : m.sz < n.sz := by
  have := szs_mem h; rw [GNode.sz_eq n]; omega
mutual
/-- are two nodes the same? -/
def sameN : GNode → GNode → Bool
  | .mk t d k, .mk t' d' k' => t == t' && (decide (d = d') && sameL k k')
def sameL : List GNode → List GNode → Bool
  | [], [] => true
  | n :: l, m :: r => sameN n m && sameL l r
  | _, _ => false
end
theorem sameN_eq (n m : GNode) : sameN n m = (n.ty == m.ty && (decide (n.data = m.data) && sameL n.kids m.kids)) := by cases n; cases m; rw [sameN]; rfl
mutual
theorem sameN_iff : ∀ n m : GNode, sameN n m = true ↔ n = m
  | .mk t d k, .mk t' d' k' => by
    have := sameL_iff k k'
    simp [sameN, this]
theorem sameL_iff : ∀ l r : List GNode, sameL l r = true ↔ l = r
  | [], [] => by simp [sameL]
  | n :: l, m :: r => by
    have h1 := sameN_iff n m
    have h2 := sameL_iff l r
    simp [sameL, h1, h2]
  | [], m :: r => by simp [sameL]
  | n :: l, [] => by simp [sameL]
end
theorem sameL_len {l r : List GNode} (h : l.length ≠ r.length) : sameL l r = false := by
  cases hs : sameL l r with
  | false => rfl
  | true => rw [sameL_iff] at hs; subst hs; simp at h
theorem sameL_take {l r : List GNode} {i : Nat} (hl : i < l.length) (hr : i < r.length) (h0 : sameL (l.take i) (r.take i) = true) (h : sameN l[i] r[i] = true) : sameL (l.take (i + 1)) (r.take (i + 1)) = true := by
  rw [sameL_iff] at *
  rw [sameN_iff] at h
  rw [List.take_succ_eq_append_getElem hl, List.take_succ_eq_append_getElem hr, h0, h]
theorem sameL_at {l r : List GNode} {i : Nat} (hl : i < l.length) (hr : i < r.length) (h : sameN l[i] r[i] = false) : sameL l r = false := by
  cases hs : sameL l r with
  | false => rfl
  | true =>
    rw [sameL_iff] at hs; subst hs
    have : sameN l[i] l[i] = true := (sameN_iff _ _).2 rfl
    rw [this] at h; cases h
end Go.Abs
namespace Go.Proofs.YtmcedkcehcacpaaGreatDoor.C
open Go.Abs
theorem equalFunc_c (l r : List GNode) (hl : l.length ≤ 2 ^ 40) (ih : ∀ n ∈ l, ∀ m ∈ r, PC Tryz.prog 21 [nodeA false n, nodeA false m] (bool (sameN n m))) :
    PC Tryz.prog 41 [.sl false 3 (nodesA false l), .sl false 3 (nodesA false r), .fn (.func 21) [] []] (bool (sameL l r)) := by
  refine PC.of_bodyW (by simp only [push_cast]) Tryz.func41 rfl (by rw [Tryz.ntmps41]; simp) ?_
  refine AWp.regionW ?_
  refine AWp.seqK fun K1 hK1 => ?_
  refine AWp.regionW ?_
  refine AWp.condLM (fun c0 => ?_) (fun c0 => ?_)
  · skip
    have hne : l.length ≠ r.length := by simpa using c0
    refine AWp.regionW ?_
    refine AWp.ret ?_
    try simp only [thenQ, blockQ, noGo]
    refine bodyQ.m ?_
    clear hK1 K1
    rw [sameL_len hne]
    first | done | exact Hand.go
  · skip
    have he : l.length = r.length := by simpa using c0
    refine AWp.skip ?_
    refine hK1 _ ?_
    refine AWp.seqK fun K2 hK2 => ?_
    refine AWp.regionW ?_
    refine AWp.block ?_
    refine AWp.loopK0 [1, 2, 15, 16] (fun (i : Nat) => [(17, nat i)]) (fun i => i ≤ l.length ∧ sameL (l.take i) (r.take i) = true) (fun i => l.length - i) (0) ?_ ⟨Nat.zero_le _, rfl⟩ ?_
    · skip
      refine Le.m 0 ?_ ?_
      · first | with_reducible rfl | (simp only [push_cast, reduceIte, Nat.reduceEqDiff, Nat.reduceLT, Nat.reduceAdd, Nat.reduceSub, Nat.reduceMul, Nat.reduceLeDiff, Nat.reducePow, Int.reduceLT, Int.reduceToNat, reduceCtorEq, Int.reduceNeg, Int.reduceEq, Nat.reduceBEq, Nat.reduceBNe, Int.reduceBEq, Int.reduceBNe, String.reduceEq]; first | done | rfl | (simp (disch := omega) only [w_nat, w_add, w_addl, w_addr, w_sub, w_subl, w_mul, w_mull, w_mulr, w_u32, w_u16, w_u8, w_u32a, N_zero]; first | done | rfl))
      · first | (simp only [push_cast, reduceIte, Nat.reduceEqDiff, Nat.reduceLT, Nat.reduceAdd, Nat.reduceSub, Nat.reduceMul, Nat.reduceLeDiff, Nat.reducePow, Int.reduceLT, Int.reduceToNat, reduceCtorEq, Int.reduceNeg, Int.reduceEq, Nat.reduceBEq, Nat.reduceBNe, Int.reduceBEq, Int.reduceBNe, String.reduceEq]; first | done | rfl | (simp (disch := omega) only [w_nat, w_add, w_addl, w_addr, w_sub, w_subl, w_mul, w_mull, w_mulr, w_u32, w_u16, w_u8, w_u32a, N_zero]; first | done | rfl))
    · intro i hi K3 hK3
      refine AWp.regionW ?_
      refine AWp.seqK fun K4 hK4 => ?_
      refine AWp.condLM (fun c1 => ?_) (fun c1 => ?_)
      · skip
        have hil : i < l.length := by simpa using c1
        have hir : i < r.length := by omega
        refine AWp.skip ?_
        refine hK4 _ ?_
        refine AWp.seqK fun K5 hK5 => ?_
        refine AWp.block ?_
        refine AWp.regionM fun K6 hK6 => ?_
        refine ARun2.indexM (i) (nodeA false l[i]) ?_ ?_
        · exact nodesA_at _ _ _ hil
        refine ARun2.endm (hK6 _ ?_)
        refine AWp.regionM fun K7 hK7 => ?_
        refine ARun2.indexM (i) (nodeA false r[i]) ?_ ?_
        · exact nodesA_at _ _ _ hir
        refine ARun2.endm (hK7 _ ?_)
        refine AWp.regionM fun K8 hK8 => ?_
        refine ARun2.callVM (ih l[i] (List.getElem_mem hil) r[i] (List.getElem_mem hir)) ?_
        refine ARun2.endm (hK8 _ ?_)
        refine AWp.condLM (fun c2 => ?_) (fun c2 => ?_)
        · skip
          have h5 : sameN l[i] r[i] = false := by simpa using c2
          refine AWp.regionW ?_
          refine AWp.ret ?_
          try simp only [thenQ, blockQ, noGo]
          refine bodyQ.m ?_
          clear hK8 K8 hK7 K7 hK6 K6 hK5 K5 hK4 K4 hK3 K3 hK2 K2 hK1 K1
          rw [sameL_at hil hir h5]
          first | done | exact Hand.go
        · skip
          have h5 : sameN l[i] r[i] = true := by simpa using c2
          refine AWp.skip ?_
          refine hK5 _ ?_
          refine AWp.regionV ?_
          refine hK3 _ (i + 1) (⟨by omega, sameL_take hil hir hi.2 h5⟩) (by omega) ?_
          refine Le.m 0 ?_ ?_
          · first | with_reducible rfl | (simp only [push_cast, reduceIte, Nat.reduceEqDiff, Nat.reduceLT, Nat.reduceAdd, Nat.reduceSub, Nat.reduceMul, Nat.reduceLeDiff, Nat.reducePow, Int.reduceLT, Int.reduceToNat, reduceCtorEq, Int.reduceNeg, Int.reduceEq, Nat.reduceBEq, Nat.reduceBNe, Int.reduceBEq, Int.reduceBNe, String.reduceEq]; first | done | rfl | (simp (disch := omega) only [w_nat, w_add, w_addl, w_addr, w_sub, w_subl, w_mul, w_mull, w_mulr, w_u32, w_u16, w_u8, w_u32a, N_zero]; first | done | rfl))
          · first | (simp only [push_cast, reduceIte, Nat.reduceEqDiff, Nat.reduceLT, Nat.reduceAdd, Nat.reduceSub, Nat.reduceMul, Nat.reduceLeDiff, Nat.reducePow, Int.reduceLT, Int.reduceToNat, reduceCtorEq, Int.reduceNeg, Int.reduceEq, Nat.reduceBEq, Nat.reduceBNe, Int.reduceBEq, Int.reduceBNe, String.reduceEq]; first | done | rfl | (simp (disch := omega) only [w_nat, w_add, w_addl, w_addr, w_sub, w_subl, w_mul, w_mull, w_mulr, w_u32, w_u16, w_u8, w_u32a, N_zero]; first | done | rfl))
      · skip
        have hil : i = l.length := by have := hi.1; simp at c1; omega
        have hs : sameL l r = true := by have := hi.2; rwa [hil, List.take_length, he, List.take_length] at this
        refine AWp.exit ?_
        try simp only [thenQ, blockQ, noGo, reduceIte, Nat.reduceEqDiff]
        refine hK2 _ ?_
        refine AWp.regionW ?_
        refine AWp.ret ?_
        try simp only [thenQ, blockQ, noGo]
        refine bodyQ.m ?_
        clear hK4 K4 hK3 K3 hK2 K2 hK1 K1
        rw [hs]
        first | done | exact Hand.go
theorem same_step (n m : GNode) (hs : n.sz ≤ 2 ^ 40) (ih : ∀ a b : GNode, a.sz < n.sz → PC Tryz.prog 21 [nodeA false a, nodeA false b] (bool (sameN a b))) : PC Tryz.prog 21 [nodeA false n, nodeA false m] (bool (sameN n m)) := by
  have hsz := n.sz_eq
  have hlen := szs_len n.kids
  have hq := equalFunc_c n.kids m.kids (by omega) (fun a ha b hb => ih a b (szs_lt ha))
  refine PC.of_bodyW (by simp only [push_cast]) Tryz.func21 rfl (by rw [Tryz.ntmps21]; simp) ?_
  refine AWp.regionW ?_
  refine AWp.regionA fun K1 hK1 => ?_
  refine ARun.segm 6 fun KS hKS => ?_
  refine ARun2.endm (hKS _ ?_); clear hKS KS
  apply ARun.grpM 5 5 true 15 [2, 3, 10]
  · intro g5 KG hKG
    refine ARun2.gom ?_
    refine ARun2.callM (equal_c n.data m.data) ?_
    exact ARun2.endm (hKG _ Le.grpM)
  refine ARun.segm 2 fun KS hKS => ?_
  refine ARun2.endm (hKS _ ?_); clear hKS KS
  apply ARun.grpM 5 12 true 22 [17]
  · intro g12 KG hKG
    refine ARun2.gom ?_
    refine ARun2.callM (hq) ?_
    exact ARun2.endm (hKG _ Le.grpM)
  refine ARun2.gom ?_
  refine ARun2.endm (hK1 _ ?_)
  refine AWp.ret ?_
  try simp only [thenQ, blockQ, noGo]
  refine bodyQ.m ?_
  clear hK1 K1
  simp only [sameN_eq, Bool.and_assoc]
  first | done | exact Hand.go
theorem same_w : ∀ (w : Nat) (n m : GNode), n.sz ≤ w → n.sz ≤ 2 ^ 40 → PC Tryz.prog 21 [nodeA false n, nodeA false m] (bool (sameN n m)) := by
  intro w
  induction w with
  | zero => intro n m h; have := n.sz_eq; omega
  | succ w ih => exact fun n m hw hs => same_step n m hs (fun a b h => ih a b (by omega) (by omega))
theorem same_c (n m : GNode) (hs : n.sz ≤ 2 ^ 40) : PC Tryz.prog 21 [nodeA false n, nodeA false m] (bool (sameN n m)) := same_w _ n m (Nat.le_refl _) hs
theorem nclone_step (n : GNode) (hs : n.sz ≤ 2 ^ 40) (ih : ∀ a : GNode, a.sz < n.sz → PC Tryz.prog 22 [nodeA false a] (nodeA false a)) : PC Tryz.prog 22 [nodeA false n] (nodeA false n) := by
  have hsz := n.sz_eq
  have hlen := szs_len n.kids
  refine PC.of_bodyW (by simp only [push_cast]) Tryz.func22 rfl (by rw [Tryz.ntmps22]; simp) ?_
  refine AWp.regionW ?_
  refine AWp.drS [[(1, none)], [(6, some 0)], [(1, none)], [(8, some 2)], [(9, some 3)], [(7, some 1), (10, some 4)], []] fun G hG => ?_
  refine Dr.sim ?_
  try simp only [List.cons_append, List.nil_append]
  refine Dr.sim ?_
  try simp only [List.cons_append, List.nil_append]
  refine Dr.sim ?_
  try simp only [List.cons_append, List.nil_append]
  refine Dr.sim ?_
  try simp only [List.cons_append, List.nil_append]
  refine Dr.call (clone_c n.data (by omega)) ?_
  try simp only [List.cons_append, List.nil_append]
  refine Dr.sim ?_
  try simp only [List.cons_append, List.nil_append]
  refine Dr.al ?_
  try simp only [List.cons_append, List.nil_append]
  refine Dr.finA (n := 7) 6 [(11, 5), (3, 6)] [1, 2] hG YtmcedkcehcacpaaGreatDoor.Facts.mixed fun KD hKD => ?_
  refine ARun2.endm (hKD _ ?_); clear hKD KD hG G
  refine AWp.seqK fun K1 hK1 => ?_
  refine AWp.regionW ?_
  refine AWp.block ?_
  refine AWp.nilBox 2 2 33 3 rfl rfl ?_
  simp only [push_cast, reduceIte, Nat.reduceEqDiff, Nat.reduceLT, Nat.reduceAdd, Nat.reduceSub, Nat.reduceMul, Nat.reduceLeDiff, Nat.reducePow, Int.reduceLT, Int.reduceToNat, reduceCtorEq, Int.reduceNeg, Int.reduceEq, Nat.reduceBEq, Nat.reduceBNe, Int.reduceBEq, Int.reduceBNe, String.reduceEq]
  refine AWp.loopK [2, 3, 13, 14] (fun (i : Nat) => [(15, nat i)]) (fun i => [.box 33 [u16 n.ty, .sl false 1 (bys n.data), .sl false 3 (nodesA false n.kids)], .box 33 [.val (.int .u16 0), .val (.slice none 0 0), .val (.slice none 0 0)], .box 33 [u16 n.ty, .sl true 1 (bys n.data), .own 3], .row 33 3 (nodesA false (n.kids.take i))]) (fun i => i ≤ n.kids.length) (fun i => n.kids.length - i) (0) ?_ (Nat.zero_le _) ?_
  · skip
    refine Le.m 4 ?_ ?_
    · first | with_reducible rfl | (simp only [push_cast, reduceIte, Nat.reduceEqDiff, Nat.reduceLT, Nat.reduceAdd, Nat.reduceSub, Nat.reduceMul, Nat.reduceLeDiff, Nat.reducePow, Int.reduceLT, Int.reduceToNat, reduceCtorEq, Int.reduceNeg, Int.reduceEq, Nat.reduceBEq, Nat.reduceBNe, Int.reduceBEq, Int.reduceBNe, String.reduceEq]; first | done | rfl | (simp (disch := omega) only [w_nat, w_add, w_addl, w_addr, w_sub, w_subl, w_mul, w_mull, w_mulr, w_u32, w_u16, w_u8, w_u32a, N_zero]; first | done | rfl))
    · first | (simp only [push_cast, reduceIte, Nat.reduceEqDiff, Nat.reduceLT, Nat.reduceAdd, Nat.reduceSub, Nat.reduceMul, Nat.reduceLeDiff, Nat.reducePow, Int.reduceLT, Int.reduceToNat, reduceCtorEq, Int.reduceNeg, Int.reduceEq, Nat.reduceBEq, Nat.reduceBNe, Int.reduceBEq, Int.reduceBNe, String.reduceEq]; first | done | rfl | (simp (disch := omega) only [w_nat, w_add, w_addl, w_addr, w_sub, w_subl, w_mul, w_mull, w_mulr, w_u32, w_u16, w_u8, w_u32a, N_zero]; first | done | rfl))
  · intro i hi K2 hK2
    refine AWp.regionW ?_
    refine AWp.seqK fun K3 hK3 => ?_
    refine AWp.condLM (fun c0 => ?_) (fun c0 => ?_)
    · skip
      have hil : i < n.kids.length := by simpa using c0
      refine AWp.skip ?_
      refine hK3 _ ?_
      refine AWp.seqK fun K4 hK4 => ?_
      refine AWp.block ?_
      refine AWp.regionM fun K5 hK5 => ?_
      refine ARun2.indexM (i) (nodeA false n.kids[i]) ?_ ?_
      · exact nodesA_at _ _ _ hil
      refine ARun2.endm (hK5 _ ?_)
      refine AWp.drE [[(3, none)], [(19, some 0)], [(5, none)], [(21, some 2)], [(22, some 3)]] fun G hG => ?_
      refine Dr.sim ?_
      try simp only [List.cons_append, List.nil_append]
      refine Dr.sim ?_
      try simp only [List.cons_append, List.nil_append]
      refine Dr.sim ?_
      try simp only [List.cons_append, List.nil_append]
      refine Dr.call (ih n.kids[i] (szs_lt (List.getElem_mem hil))) ?_
      try simp only [List.cons_append, List.nil_append]
      refine Dr.build ?_
      try simp only [List.cons_append, List.nil_append]
      refine Dr.finN (n := 5) [(20, 1), (23, 4)] [2, 3, 13, 14, 15] hG YtmcedkcehcacpaaGreatDoor.Facts.mixed fun KD hKD => ?_
      refine ARun2.appendM ?_ ?_ ?_
      · rw [YtmcedkcehcacpaaGreatDoor.Facts.eb22, nodesA_len, List.length_take, List.length_cons, List.length_nil]; omega
      · rw [nodesA_len, List.length_take, List.length_cons, List.length_nil]; omega
      refine ARun2.endm (hKD _ ?_); clear hKD KD hG G
      refine hK4 _ ?_
      refine AWp.regionV ?_
      refine hK2 _ (i + 1) (by omega) (by omega) ?_
      refine Le.m 4 ?_ ?_
      · try simp only [push_cast, reduceIte, Nat.reduceEqDiff, Nat.reduceLT, Nat.reduceAdd, Nat.reduceSub, Nat.reduceMul, Nat.reduceLeDiff, Nat.reducePow, Int.reduceLT, Int.reduceToNat, reduceCtorEq, Int.reduceNeg, Int.reduceEq, Nat.reduceBEq, Nat.reduceBNe, Int.reduceBEq, Int.reduceBNe, String.reduceEq]
        try simp (disch := omega) only [w_nat, w_add, w_addl, w_addr, w_sub, w_subl, w_mul, w_mull, w_mulr, w_u32, w_u16, w_u8, w_u32a, N_zero]
        first | done | skip
        rw [List.take_succ_eq_append_getElem hil, nodesA_snoc, nodeA_eq]
      · first | (simp only [push_cast, reduceIte, Nat.reduceEqDiff, Nat.reduceLT, Nat.reduceAdd, Nat.reduceSub, Nat.reduceMul, Nat.reduceLeDiff, Nat.reducePow, Int.reduceLT, Int.reduceToNat, reduceCtorEq, Int.reduceNeg, Int.reduceEq, Nat.reduceBEq, Nat.reduceBNe, Int.reduceBEq, Int.reduceBNe, String.reduceEq]; first | done | rfl | (simp (disch := omega) only [w_nat, w_add, w_addl, w_addr, w_sub, w_subl, w_mul, w_mull, w_mulr, w_u32, w_u16, w_u8, w_u32a, N_zero]; first | done | rfl))
    · skip
      have hil : i = n.kids.length := by simp at c0; omega
      subst hil
      refine AWp.exit ?_
      try simp only [thenQ, blockQ, noGo, reduceIte, Nat.reduceEqDiff]
      refine hK1 _ ?_
      refine AWp.pubD 3 ?_
      refine AWp.regionW ?_
      refine AWp.ret ?_
      try simp only [thenQ, blockQ, noGo]
      refine bodyQ.m ?_
      clear hK3 K3 hK2 K2 hK1 K1
      rw [List.take_length]
      first | done | exact Hand.go
theorem nclone_w : ∀ (w : Nat) (n : GNode), n.sz ≤ w → n.sz ≤ 2 ^ 40 → PC Tryz.prog 22 [nodeA false n] (nodeA false n) := by
  intro w
  induction w with
  | zero => intro n h; have := n.sz_eq; omega
  | succ w ih => exact fun n hw hs => nclone_step n hs (fun a h => ih a (by omega) (by omega))
theorem nclone_c (n : GNode) (hs : n.sz ≤ 2 ^ 40) : PC Tryz.prog 22 [nodeA false n] (nodeA false n) := nclone_w _ n (Nat.le_refl _) hs
end Go.Proofs.YtmcedkcehcacpaaGreatDoor.C
namespace Go.Abs
mutual
/-- types of nodes are numbers of 16 bits -/
def GNode.tyOk : GNode → Bool
  | .mk t _ k => decide (t < 65536) && tysOk k
def tysOk : List GNode → Bool
  | [] => true
  | n :: l => n.tyOk && tysOk l
end
theorem GNode.tyOk_eq (n : GNode) : n.tyOk = (decide (n.ty < 65536) && tysOk n.kids) := by cases n; rw [GNode.tyOk]; rfl
theorem tysOk_mem : ∀ {l : List GNode}, tysOk l = true → ∀ n ∈ l, n.tyOk = true
  | [], _, n, h => by simp at h
  | m :: l, h, n, hm => by
    simp only [tysOk, Bool.and_eq_true] at h
    rcases List.mem_cons.1 hm with rfl | hm
    · exact h.1
    · exact tysOk_mem h.2 n hm
theorem GNode.tyOk_kids {n : GNode} (h : n.tyOk = true) : tysOk n.kids = true := by rw [GNode.tyOk_eq] at h; simp at h; exact h.2
theorem GNode.tyOk_ty {n : GNode} (h : n.tyOk = true) : n.ty < 65536 := by rw [GNode.tyOk_eq] at h; simp at h; exact h.1
end Go.Abs
/- Nodes read: one, parse, Parse. -/
set_option linter.unusedVariables false
set_option linter.unusedSimpArgs false
namespace Go.Proofs.YtmcedkcehcacpaaGreatDoor.C
open Go.Abs
/-- the nodes of frames -/
def goF (one : Frm → Nat → GNode × Er) (i : Nat) : List (Nat × Frm) → List GNode × Er
  | [] => ([], .ok)
  | p :: l => if (one p.2 (i + p.1)).2 = .ok then (if (goF one i l).2 = .ok then ((one p.2 (i + p.1)).1 :: (goF one i l).1, .ok) else ([], (goF one i l).2)) else ([], (one p.2 (i + p.1)).2)
theorem goF_snoc {one : Frm → Nat → GNode × Er} {i : Nat} {p : Nat × Frm} : ∀ {l : List (Nat × Frm)}, (goF one i l).2 = .ok → (one p.2 (i + p.1)).2 = .ok → goF one i (l ++ [p]) = ((goF one i l).1 ++ [(one p.2 (i + p.1)).1], .ok)
  | [], h, h2 => by simp [goF, h2]
  | q :: l, h, h2 => by
    simp only [goF] at h
    split at h
    · rename_i hq
      split at h
      · rename_i hl
        simp only [List.cons_append, goF, hq, if_true, hl, goF_snoc hl h2]
      · rename_i hl; exact absurd h hl
    · rename_i hq; exact absurd h hq
theorem goF_err {one : Frm → Nat → GNode × Er} {i : Nat} {p : Nat × Frm} {r : List (Nat × Frm)} : ∀ {l : List (Nat × Frm)}, (goF one i l).2 = .ok → (one p.2 (i + p.1)).2 ≠ .ok → goF one i (l ++ p :: r) = ([], (one p.2 (i + p.1)).2)
  | [], h, h2 => by simp [goF, h2]
  | q :: l, h, h2 => by
    simp only [goF] at h
    split at h
    · rename_i hq
      split at h
      · rename_i hl
        simp only [List.cons_append, goF, hq, if_true, goF_err (r := r) hl h2, if_neg h2]
      · rename_i hl; exact absurd h hl
    · rename_i hq; exact absurd h hq
/-- the bytes of a frame that are a node's own -/
def dataOf (c : Nat) (f : Frm) : List UInt8 := if (shapeOf c f.ty).kids ≠ 0 ∧ (shapeOf c f.ty).least ≤ f.val.length then f.val.take (shapeOf c f.ty).least else f.val
/-- the node of a frame; rec: the nodes inside, one deeper -/
def oneF (rec : Nat → List UInt8 → Nat → List GNode × Er) (c : Nat) (f : Frm) (i : Nat) : GNode × Er :=
  if shapeHas c f.ty = false then (.mk f.ty f.val [], .ok)
  else if fitsN (shapeOf c f.ty) (dataOf c f).length = false then (.zero, .flt 7 i)
  else if countedN c f.ty (dataOf c f) = true then (.zero, .flt 8 (i + 4))
  else if (shapeOf c f.ty).kids = 0 then (.mk f.ty (dataOf c f) [], .ok)
  else if (rec (insideN (shapeOf c f.ty).kids).1 (f.val.drop (shapeOf c f.ty).least) (i + 4 + (shapeOf c f.ty).least)).2 ≠ .ok then
    (.zero, (rec (insideN (shapeOf c f.ty).kids).1 (f.val.drop (shapeOf c f.ty).least) (i + 4 + (shapeOf c f.ty).least)).2)
  else if kidsOk (shapeOf c f.ty) (rec (insideN (shapeOf c f.ty).kids).1 (f.val.drop (shapeOf c f.ty).least) (i + 4 + (shapeOf c f.ty).least)).1 = false then (.zero, .flt 7 i)
  else (.mk f.ty (dataOf c f) (rec (insideN (shapeOf c f.ty).kids).1 (f.val.drop (shapeOf c f.ty).least) (i + 4 + (shapeOf c f.ty).least)).1, .ok)
/-- the nodes of a list of bytes, m levels deep -/
def parseF : Nat → Nat → List UInt8 → Nat → List GNode × Er
  | m, c, b, i => if (scan b b.length 0).2 = .ok then goF (fun f i => match m with
      | 0 => (.zero, .flt 9 i)
      | m + 1 => oneF (parseF m) c f i) i (scan b b.length 0).1
    else ([], (scan b b.length 0).2.shift i)
def oneD (m c : Nat) (f : Frm) (i : Nat) : GNode × Er := match m with
  | 0 => (.zero, .flt 9 i)
  | m + 1 => oneF (parseF m) c f i
theorem parseF_eq (m c : Nat) (b : List UInt8) (i : Nat) : parseF m c b i = if (scan b b.length 0).2 = .ok then goF (oneD m c) i (scan b b.length 0).1 else ([], (scan b b.length 0).2.shift i) := by
  rw [parseF]; rfl
theorem one_deep (c d : Nat) (f : Frm) (i : Nat) (hd : 4 < d) (hd2 : d < 2 ^ 60) : PC Tryz.prog 59 [nat c, frmA false f, nat i, nat d] (.tup [nodeA false .zero, erA (.flt 9 i)]) := by
  refine PC.of_bodyW (by simp only [push_cast]) Tryz.func59 rfl (by rw [Tryz.ntmps59]; simp) ?_
  refine AWp.regionW ?_
  refine AWp.seqK fun K1 hK1 => ?_
  refine AWp.regionW ?_
  refine AWp.condT ?_ (by simp only [push_cast]; simp; omega)
  refine AWp.regionM fun K2 hK2 => ?_
  refine ARun2.callM (fnew_c 9 i) ?_
  refine ARun2.endm (hK2 _ ?_)
  refine AWp.ret ?_
  try simp only [thenQ, blockQ, noGo]
  refine bodyQ.m ?_
  clear hK2 K2 hK1 K1
  simp only [GNode.zero, nodeA, nodesA]
  first | done | exact Hand.go
theorem shape_kids4 (c t : Nat) : (shapeOf c t).kids ≤ 4 := by
  have key : ∀ l : List ShForm, (∀ f ∈ l, f.kids ≤ 4) → (((l.find? fun f => f.ty == t).map fun f => { f with cls := c }).getD zeroForm).kids ≤ 4 := by
    intro l hl
    cases hf : l.find? (fun f => f.ty == t) with
    | none => simp [zeroForm]
    | some f => simpa using hl f (List.mem_of_find?_eq_some hf)
  refine key (formsN c) ?_
  match c with
  | 0 => intro f hf; simp [formsN] at hf
  | 1 => decide
  | 2 => decide
  | _ + 3 => intro f hf; simp [formsN] at hf
theorem inside_cls {k : Nat} (h4 : k ≤ 4) (h0 : k ≠ 0) : (insideN k).1 = 1 ∨ (insideN k).1 = 2 := by
  have : k = 1 ∨ k = 2 ∨ k = 3 ∨ k = 4 := by omega
  rcases this with rfl | rfl | rfl | rfl <;> simp [insideN]
theorem fits_least {f : ShForm} {n : Nat} (h : fitsN f n = true) : f.least ≤ n := by
  unfold fitsN at h; simp at h; exact h.1.1
theorem dataOf_len (c : Nat) (f : Frm) : (dataOf c f).length ≤ f.val.length := by
  unfold dataOf; split
  · rw [List.length_take]; omega
  · exact Nat.le_refl _
theorem readN_fit {b : List UInt8} {i : Nat} (hi : i < b.length) (h : (readN b i).2.2 = .ok) : i + 4 + (readN b i).1.val.length ≤ b.length := by
  unfold readN at h ⊢
  split at h
  · rename_i hc
    rw [if_pos hc]
    split at h
    · rename_i he; rw [if_pos he]; simp only [List.length_take, List.length_drop]; omega
    · rename_i he
      rw [if_neg he]
      split at h
      · rename_i hs; rw [if_pos hs]; simp only [List.length_take, List.length_drop]; omega
      · cases h
  · cases h
theorem readN_ty (b : List UInt8) (i : Nat) : (readN b i).1.ty < 65536 := by
  unfold readN
  split
  · split
    · exact peek2_lt _ _
    · split
      · exact peek2_lt _ _
      · simp [frm0]
  · simp [frm0]
theorem scan_fit (b : List UInt8) : ∀ (k i : Nat), ∀ p ∈ (scan b k i).1, p.1 + 4 + p.2.val.length ≤ b.length ∧ p.2.ty < 65536
  | 0, i, p, h => by simp [scan] at h
  | k + 1, i, p, h => by
    rw [scan] at h
    split at h
    · rename_i hi
      cases he : (readN b i).2.2 with
      | ok =>
        simp only [he] at h
        rcases List.mem_cons.1 h with rfl | h
        · exact ⟨readN_fit hi he, readN_ty b i⟩
        · exact scan_fit b k _ p h
      | code c => simp [he] at h
      | flt c j => simp [he] at h
    · simp at h
theorem one_step (m c d : Nat) (hc : c = 1 ∨ c = 2) (hd : d ≤ 4) (f : Frm) (i : Nat) (hi : i + 4 + f.val.length ≤ 2 ^ 40)
    (ih : ∀ (c : Nat) (b : List UInt8) (i : Nat), (c = 1 ∨ c = 2) → i + b.length ≤ 2 ^ 40 → PC Tryz.prog 35 [nat c, .sl false 1 (bys b), nat i, nat (d + 1)] (.tup [.sl false 3 (nodesA false (parseF m c b i).1), erA (parseF m c b i).2]))
    (ihl : ∀ (c : Nat) (b : List UInt8) (i : Nat), (parseF m c b i).1.length ≤ b.length) :
    PC Tryz.prog 59 [nat c, frmA false f, nat i, nat d] (.tup [nodeA false (oneF (parseF m) c f i).1, erA (oneF (parseF m) c f i).2]) := by
  obtain ⟨S, hS⟩ : ∃ S, S = shapeOf c f.ty := ⟨_, rfl⟩
  have h4 := shape_kids4 c f.ty
  have hk60 := form_kids c f.ty
  have hdl := dataOf_len c f
  have hO : oneF (parseF m) c f i = oneF (parseF m) c f i := rfl
  conv at hO => rhs; unfold oneF
  rw [← hS] at h4 hk60 hO
  have hdo : dataOf c f = if S.kids ≠ 0 ∧ S.least ≤ f.val.length then f.val.take S.least else f.val := by unfold dataOf; rw [hS]
  have hof := of_c c f.ty hc
  rw [← hS] at hof
  have hfo := form_ok c f.ty
  rw [← hS] at hfo
  generalize oneF (parseF m) c f i = O at hO
  refine PC.of_bodyW (by simp only [push_cast]) Tryz.func59 rfl (by rw [Tryz.ntmps59]; simp) ?_
  refine AWp.regionW ?_
  refine AWp.seqK fun K1 hK1 => ?_
  refine AWp.regionW ?_
  refine AWp.condF ?_ (by simp only [push_cast]; simp; omega)
  refine AWp.skip ?_
  refine hK1 _ ?_
  refine AWp.regionW ?_
  refine AWp.regionM fun K2 hK2 => ?_
  refine ARun2.callM (hof) ?_
  refine ARun2.endm (hK2 _ ?_)
  refine AWp.seqK fun K3 hK3 => ?_
  refine AWp.regionW ?_
  refine AWp.condLM (fun c1 => ?_) (fun c1 => ?_)
  · skip
    have hh : shapeHas c f.ty = false := by simpa using c1
    rw [if_pos hh] at hO
    refine AWp.regionW ?_
    refine AWp.ret ?_
    try simp only [thenQ, blockQ, noGo]
    refine bodyQ.m ?_
    clear hK3 K3 hK2 K2 hK1 K1
    subst hO; simp only [GNode.zero]
    first | done | exact Hand.go
  · skip
    have hh : shapeHas c f.ty = true := by simpa using c1
    rw [if_neg (by rw [hh]; simp)] at hO
    obtain ⟨u1, u2, u3⟩ := hfo hh
    refine AWp.skip ?_
    refine hK3 _ ?_
    refine AWp.seqK fun K4 hK4 => ?_
    refine AWp.regionA fun K5 hK5 => ?_
    refine ARun.segm 4 fun KS hKS => ?_
    refine ARun2.endm (hKS _ ?_); clear hKS KS
    apply ARun.grpM 6 3 true 47 [0, 2, 3, 5, 8, 10, 11, 41]
    · intro g3 KG hKG
      refine ARun2.gom ?_
      exact ARun2.endm (hKG _ Le.grpM)
    refine ARun2.gom ?_
    refine ARun2.endm (hK5 _ ?_)
    refine AWp.condLM (fun c2 => ?_) (fun c2 => ?_)
    · skip
      have hd0 : dataOf c f = f.val.take S.least := by rw [hdo, if_pos (by simp at c2; exact c2)]
      have hle : S.least ≤ f.val.length := by simp at c2; exact c2.2
      refine AWp.regionN fun K6 hK6 => ?_
      refine ARun2.sliceHi3M S.least (by rw [bys_len]; exact hle) ?_
      refine ARun2.endm (hK6 _ ?_)
      rw [← hd0]
      refine hK4 _ ?_
      refine AWp.seqK fun K7 hK7 => ?_
      refine AWp.block ?_
      refine AWp.regionM fun K8 hK8 => ?_
      refine ARun2.callM (fits_c S (dataOf c f).length (by omega) u3 u1 u2) ?_
      refine ARun2.endm (hK8 _ ?_)
      refine AWp.condLM (fun c3 => ?_) (fun c3 => ?_)
      · skip
        have hf : fitsN S (dataOf c f).length = false := by simpa using c3
        rw [if_pos hf] at hO
        refine AWp.regionM fun K9 hK9 => ?_
        refine ARun2.callM (fnew_c 7 i) ?_
        refine ARun2.endm (hK9 _ ?_)
        refine AWp.ret ?_
        try simp only [thenQ, blockQ, noGo]
        refine bodyQ.m ?_
        clear hK9 K9 hK8 K8 hK7 K7 hK6 K6 hK5 K5 hK4 K4 hK3 K3 hK2 K2 hK1 K1
        subst hO; simp only [GNode.zero]
        first | done | exact Hand.go
      · skip
        have hf : fitsN S (dataOf c f).length = true := by simpa using c3
        rw [if_neg (by rw [hf]; simp)] at hO
        refine AWp.regionM fun K10 hK10 => ?_
        refine ARun2.callM (counted_c c f.ty (dataOf c f) (by omega)) ?_
        refine ARun2.endm (hK10 _ ?_)
        refine AWp.condLM (fun c4 => ?_) (fun c4 => ?_)
        · skip
          have hcn := c4
          rw [if_pos hcn] at hO
          refine AWp.regionM fun K11 hK11 => ?_
          refine ARun2.callM (fnew_c 8 (i + 4)) ?_
          refine ARun2.endm (hK11 _ ?_)
          refine AWp.ret ?_
          try simp only [thenQ, blockQ, noGo]
          refine bodyQ.m ?_
          clear hK11 K11 hK10 K10 hK8 K8 hK7 K7 hK6 K6 hK5 K5 hK4 K4 hK3 K3 hK2 K2 hK1 K1
          subst hO; simp only [GNode.zero]
          first | done | exact Hand.go
        · skip
          have hcn := c4
          rw [if_neg (by rw [hcn]; simp)] at hO
          refine AWp.regionW ?_
          refine AWp.condLM (fun c5 => ?_) (fun c5 => ?_)
          · skip
            have hk0 : S.kids = 0 := by simpa using c5
            rw [if_pos hk0] at hO
            refine AWp.regionW ?_
            refine AWp.ret ?_
            try simp only [thenQ, blockQ, noGo]
            refine bodyQ.m ?_
            clear hK10 K10 hK8 K8 hK7 K7 hK6 K6 hK5 K5 hK4 K4 hK3 K3 hK2 K2 hK1 K1
            subst hO; simp only [GNode.zero]
            first | done | exact Hand.go
          · skip
            have hk0 : S.kids ≠ 0 := by simpa using c5
            rw [if_neg hk0] at hO
            have ihr := ih (insideN S.kids).1 (f.val.drop S.least) (i + 4 + S.least) (inside_cls h4 hk0) (by rw [List.length_drop]; omega)
            have ihn := ihl (insideN S.kids).1 (f.val.drop S.least) (i + 4 + S.least)
            rw [List.length_drop] at ihn
            obtain ⟨r, hr⟩ : ∃ r, r = parseF m (insideN S.kids).1 (f.val.drop S.least) (i + 4 + S.least) := ⟨_, rfl⟩
            rw [← hr] at hO ihr ihn
            refine AWp.skip ?_
            refine hK7 _ ?_
            refine AWp.regionM fun K12 hK12 => ?_
            refine ARun2.callM (inside_c S.kids hk60) ?_
            refine ARun2.endm (hK12 _ ?_)
            refine AWp.drS [[(13, none)], [(5, none)], [(92, some 1)], [(11, none)], [(94, some 3)], [(93, some 2), (95, some 4)], [(2, none)], [(97, some 6)], [(11, none)], [(99, some 8)], [(98, some 7), (100, some 9)], [(3, none)], [(102, some 11)], [(91, some 0), (96, some 5), (101, some 10), (103, some 12)], [(104, some 13)], [(90, some 14)], [(90, some 14)], [(105, some 15)], [(106, some 16)]] fun G hG => ?_
            refine Dr.sim ?_
            try simp only [List.cons_append, List.nil_append]
            refine Dr.sim ?_
            try simp only [List.cons_append, List.nil_append]
            refine Dr.sim ?_
            try simp only [List.cons_append, List.nil_append]
            refine Dr.sim ?_
            try simp only [List.cons_append, List.nil_append]
            refine Dr.sim ?_
            try simp only [List.cons_append, List.nil_append]
            refine Dr.sliceLo (S.least) ?_ ?_
            · rw [bys_len]; exact hle
            try simp only [List.cons_append, List.nil_append]
            refine Dr.sim ?_
            try simp only [List.cons_append, List.nil_append]
            refine Dr.sim ?_
            try simp only [List.cons_append, List.nil_append]
            refine Dr.sim ?_
            try simp only [List.cons_append, List.nil_append]
            refine Dr.sim ?_
            try simp only [List.cons_append, List.nil_append]
            refine Dr.sim ?_
            try simp only [List.cons_append, List.nil_append]
            refine Dr.sim ?_
            try simp only [List.cons_append, List.nil_append]
            refine Dr.sim ?_
            try simp only [List.cons_append, List.nil_append]
            refine Dr.call (ihr) ?_
            try simp only [List.cons_append, List.nil_append]
            refine Dr.sim ?_
            try simp only [List.cons_append, List.nil_append]
            refine Dr.sim ?_
            try simp only [List.cons_append, List.nil_append]
            refine Dr.sim ?_
            try simp only [List.cons_append, List.nil_append]
            refine Dr.sim ?_
            try simp only [List.cons_append, List.nil_append]
            refine Dr.sim ?_
            try simp only [List.cons_append, List.nil_append]
            refine Dr.finM (n := 19) [(16, 17), (17, 18)] [2, 8, 10, 11] hG YtmcedkcehcacpaaGreatDoor.Facts.mixed fun KD hKD => ?_
            refine ARun2.endm (hKD _ ?_); clear hKD KD hG G
            refine AWp.seqK fun K13 hK13 => ?_
            refine AWp.regionW ?_
            refine AWp.condLM (fun c6 => ?_) (fun c6 => ?_)
            · skip
              have he : r.2 ≠ .ok := by intro h; rw [h] at c6; cases c6
              rw [if_pos he] at hO
              refine AWp.regionW ?_
              refine AWp.ret ?_
              try simp only [thenQ, blockQ, noGo]
              refine bodyQ.m ?_
              clear hK13 K13 hK12 K12 hK10 K10 hK8 K8 hK7 K7 hK6 K6 hK5 K5 hK4 K4 hK3 K3 hK2 K2 hK1 K1
              subst hO; simp only [GNode.zero]
              first | done | exact Hand.go
            · skip
              have he : r.2 = .ok := by rw [← isOk_iff]; simpa using c6
              rw [if_neg (by simpa using he)] at hO
              refine AWp.skip ?_
              refine hK13 _ ?_
              refine AWp.regionW ?_
              refine AWp.seqK fun K14 hK14 => ?_
              refine AWp.regionM fun K15 hK15 => ?_
              refine ARun2.callM (kids_c S r.1 (by omega) hk60) ?_
              refine ARun2.endm (hK15 _ ?_)
              refine AWp.condLM (fun c7 => ?_) (fun c7 => ?_)
              · skip
                have hkk : kidsOk S r.1 = false := by simpa using c7
                rw [if_pos hkk] at hO
                refine AWp.regionM fun K16 hK16 => ?_
                refine ARun2.callM (fnew_c 7 i) ?_
                refine ARun2.endm (hK16 _ ?_)
                refine AWp.ret ?_
                try simp only [thenQ, blockQ, noGo]
                refine bodyQ.m ?_
                clear hK16 K16 hK15 K15 hK14 K14 hK13 K13 hK12 K12 hK10 K10 hK8 K8 hK7 K7 hK6 K6 hK5 K5 hK4 K4 hK3 K3 hK2 K2 hK1 K1
                subst hO; simp only [GNode.zero]
                first | done | exact Hand.go
              · skip
                have hkk : kidsOk S r.1 = true := by simpa using c7
                rw [if_neg (by rw [hkk]; simp)] at hO
                refine AWp.skip ?_
                refine hK14 _ ?_
                refine AWp.regionW ?_
                refine AWp.ret ?_
                try simp only [thenQ, blockQ, noGo]
                refine bodyQ.m ?_
                clear hK15 K15 hK14 K14 hK13 K13 hK12 K12 hK10 K10 hK8 K8 hK7 K7 hK6 K6 hK5 K5 hK4 K4 hK3 K3 hK2 K2 hK1 K1
                subst hO; simp only [GNode.zero]
                first | done | exact Hand.go
    · skip
      have hd0 : dataOf c f = f.val := by rw [hdo, if_neg (by simp at c2; intro h; have := c2 h.1; omega)]
      rw [hd0] at hO
      refine AWp.skip ?_
      refine hK4 _ ?_
      refine AWp.seqK fun K17 hK17 => ?_
      refine AWp.block ?_
      refine AWp.regionM fun K18 hK18 => ?_
      refine ARun2.callM (fits_c S f.val.length (by omega) u3 u1 u2) ?_
      refine ARun2.endm (hK18 _ ?_)
      refine AWp.condLM (fun c3 => ?_) (fun c3 => ?_)
      · skip
        have hf : fitsN S f.val.length = false := by simpa using c3
        rw [if_pos hf] at hO
        refine AWp.regionM fun K19 hK19 => ?_
        refine ARun2.callM (fnew_c 7 i) ?_
        refine ARun2.endm (hK19 _ ?_)
        refine AWp.ret ?_
        try simp only [thenQ, blockQ, noGo]
        refine bodyQ.m ?_
        clear hK19 K19 hK18 K18 hK17 K17 hK5 K5 hK4 K4 hK3 K3 hK2 K2 hK1 K1
        subst hO; simp only [GNode.zero]
        first | done | exact Hand.go
      · skip
        have hf : fitsN S f.val.length = true := by simpa using c3
        rw [if_neg (by rw [hf]; simp)] at hO
        refine AWp.regionM fun K20 hK20 => ?_
        refine ARun2.callM (counted_c c f.ty f.val (by omega)) ?_
        refine ARun2.endm (hK20 _ ?_)
        refine AWp.condLM (fun c4 => ?_) (fun c4 => ?_)
        · skip
          have hcn := c4
          rw [if_pos hcn] at hO
          refine AWp.regionM fun K21 hK21 => ?_
          refine ARun2.callM (fnew_c 8 (i + 4)) ?_
          refine ARun2.endm (hK21 _ ?_)
          refine AWp.ret ?_
          try simp only [thenQ, blockQ, noGo]
          refine bodyQ.m ?_
          clear hK21 K21 hK20 K20 hK18 K18 hK17 K17 hK5 K5 hK4 K4 hK3 K3 hK2 K2 hK1 K1
          subst hO; simp only [GNode.zero]
          first | done | exact Hand.go
        · skip
          have hcn := c4
          rw [if_neg (by rw [hcn]; simp)] at hO
          refine AWp.regionW ?_
          refine AWp.condLM (fun c5 => ?_) (fun c5 => ?_)
          · skip
            have hk0 : S.kids = 0 := by simpa using c5
            rw [if_pos hk0] at hO
            refine AWp.regionW ?_
            refine AWp.ret ?_
            try simp only [thenQ, blockQ, noGo]
            refine bodyQ.m ?_
            clear hK20 K20 hK18 K18 hK17 K17 hK5 K5 hK4 K4 hK3 K3 hK2 K2 hK1 K1
            subst hO; simp only [GNode.zero]
            first | done | exact Hand.go
          · skip
            have hk0 : S.kids ≠ 0 := by simpa using c5
            have hle := fits_least hf
            simp at c2
            have := c2 hk0
            omega
theorem splitN_er (b : List UInt8) : (splitN b).2 = (scan b b.length 0).2 := by
  unfold splitN; split
  · rename_i h; exact h.symm
  · rfl
theorem readN_at (b : List UInt8) (i : Nat) (hi : i ≤ b.length) : (readN b i).2.2.atOf.1 ≤ b.length := by
  unfold readN
  split
  · split
    · exact Nat.zero_le _
    · split
      · exact Nat.zero_le _
      · show i + _ ≤ _; omega
  · exact hi
theorem scan_at (b : List UInt8) : ∀ (k i : Nat), (scan b k i).2.atOf.1 ≤ b.length
  | 0, i => Nat.zero_le _
  | k + 1, i => by
    rw [scan]
    split
    · rename_i hi
      have h := readN_at b i (by omega)
      cases he : (readN b i).2.2 with
      | ok => exact scan_at b k _
      | code c => rw [he] at h; exact h
      | flt c j => rw [he] at h; exact h
    · exact Nat.zero_le _
theorem scan_len (b : List UInt8) : ∀ (k i : Nat), i ≤ b.length → (scan b k i).1.length ≤ b.length - i
  | 0, i, _ => Nat.zero_le _
  | k + 1, i, hle => by
    rw [scan]
    split
    · rename_i hi
      cases he : (readN b i).2.2 with
      | ok =>
        obtain ⟨n1, n2⟩ := readN_next he
        have := scan_len b k (readN b i).2.1 n2
        simp only [List.length_cons]; omega
      | code c => exact Nat.zero_le _
      | flt c j => exact Nat.zero_le _
    · exact Nat.zero_le _
theorem goF_len (one : Frm → Nat → GNode × Er) (i : Nat) : ∀ l : List (Nat × Frm), (goF one i l).1.length ≤ l.length
  | [] => Nat.zero_le _
  | p :: l => by
    have := goF_len one i l
    simp only [goF]
    split
    · split
      · simp only [List.length_cons]; omega
      · exact Nat.zero_le _
    · exact Nat.zero_le _
theorem parseF_len (m c : Nat) (b : List UInt8) (i : Nat) : (parseF m c b i).1.length ≤ b.length := by
  rw [parseF_eq]
  split
  · exact Nat.le_trans (goF_len _ _ _) (by have := scan_len b b.length 0 (Nat.zero_le _); omega)
  · exact Nat.zero_le _
theorem ysOf_len (l : List (Nat × Frm)) : (ysOf l).length = l.length := by simp [ysOf]
theorem parse_step (m c d : Nat) (hc : c = 1 ∨ c = 2) (hd : d < 2 ^ 60) (b : List UInt8) (i : Nat) (hi : i + b.length ≤ 2 ^ 40)
    (hone : ∀ (f : Frm) (j : Nat), j + 4 + f.val.length ≤ 2 ^ 40 → PC Tryz.prog 59 [nat c, frmA false f, nat j, nat d] (.tup [nodeA false (oneD m c f j).1, erA (oneD m c f j).2])) :
    PC Tryz.prog 35 [nat c, .sl false 1 (bys b), nat i, nat d] (.tup [.sl false 3 (nodesA false (parseF m c b i).1), erA (parseF m c b i).2]) := by
  have hsat := scan_at b b.length 0
  have hsf := scan_fit b b.length 0
  have hsl := scan_len b b.length 0 (Nat.zero_le _)
  have hsp := splitN_er b
  have hall := all_iter b (by omega)
  have hO := parseF_eq m c b i
  generalize parseF m c b i = O at hO
  generalize hfe : (scan b b.length 0).1 = fs at hsf hsl hall hO
  generalize (scan b b.length 0).2 = er at hsat hsp hO
  refine PC.of_bodyW (by simp only [push_cast]) Tryz.func35 rfl (by rw [Tryz.ntmps35]; simp) ?_
  refine AWp.regionW ?_
  refine AWp.seqK fun K1 hK1 => ?_
  refine AWp.regionM fun K2 hK2 => ?_
  refine ARun2.callM (split_c b (by omega)) ?_
  refine ARun2.endm (hK2 _ ?_)
  rw [hsp]
  refine AWp.regionW ?_
  refine AWp.condLM (fun c0 => ?_) (fun c0 => ?_)
  · skip
    have he : er ≠ .ok := by intro h; rw [h] at c0; cases c0
    rw [if_neg he] at hO
    refine AWp.regionM fun K3 hK3 => ?_
    refine ARun2.callM (shift_c er i (by omega) (by omega)) ?_
    refine ARun2.endm (hK3 _ ?_)
    refine AWp.ret ?_
    try simp only [thenQ, blockQ, noGo]
    refine bodyQ.m ?_
    clear hK3 K3 hK2 K2 hK1 K1
    subst hO; try rw [hk1]
    first | done | exact Hand.go
  · skip
    have he : er = .ok := by rw [← isOk_iff]; simpa using c0
    rw [if_pos he] at hO
    refine AWp.skip ?_
    refine hK1 _ ?_
    refine AWp.regionW ?_
    refine AWp.nilBox 5 0 33 3 rfl rfl ?_
    simp only [push_cast, reduceIte, Nat.reduceEqDiff, Nat.reduceLT, Nat.reduceAdd, Nat.reduceSub, Nat.reduceMul, Nat.reduceLeDiff, Nat.reducePow, Int.reduceLT, Int.reduceToNat, reduceCtorEq, Int.reduceNeg, Int.reduceEq, Nat.reduceBEq, Nat.reduceBNe, Int.reduceBEq, Int.reduceBNe, String.reduceEq]
    refine AWp.seqK fun K4 hK4 => ?_
    refine AWp.regionM fun K5 hK5 => ?_
    refine ARun2.callM (all_c b) ?_
    refine ARun2.endm (hK5 _ ?_)
    refine AWp.block ?_
    refine AWp.rangeFuncM (hall) [4, 6, 7, 8, 9, 12] (fun pre ob tr go => (goF (oneD m c) i (fs.take pre.length)).2 = .ok ∧ pre.length ≤ fs.length ∧ ob = [.box 3 [nat c], .box 3 [nat i], .box 3 [nat d], .box 22 [.val (.slice none 0 0)], .box 28 [.val .nilIface], .box 22 [.own 6], .row 33 3 (nodesA false (goF (oneD m c) i (fs.take pre.length)).1)]) (fun e ob tr go => e = .ret ∧ ∃ er l, O = ([], er) ∧ ob = [.box 3 [nat c], .box 3 [nat i], .box 3 [nat d], .box 22 [.val (.slice none 0 0)], .box 28 [erA er], .box 22 [.own 6], .row 33 3 l]) ?_ ?_ ?_ ?_ ?_
    · intro x hx
      simp only [ysOf, List.mem_map] at hx
      obtain ⟨q, _, rfl⟩ := hx
      rfl
    · exact ⟨rfl, Nat.zero_le _, rfl⟩
    · rintro pre x post ob tr go hxs ⟨hk1, hk2, rfl⟩
      have hpl : pre.length < fs.length := by rw [← ysOf_len fs, hxs]; simp
      have hx : (ysOf fs)[pre.length]? = some x := by rw [hxs]; simp
      rw [ysOf, List.getElem?_map, List.getElem?_eq_getElem hpl] at hx
      simp only [Option.map_some, Option.some.injEq] at hx
      subst hx
      obtain ⟨hp1, hp2⟩ := hsf fs[pre.length] (List.getElem_mem hpl)
      have hfd : fs = fs.take pre.length ++ fs[pre.length] :: fs.drop (pre.length + 1) := by rw [← List.drop_eq_getElem_cons hpl, List.take_append_drop]
      have hgl := goF_len (oneD m c) i (fs.take pre.length)
      rw [List.length_take] at hgl
      obtain ⟨q, hqe⟩ : ∃ q, fs[pre.length] = q := ⟨_, rfl⟩
      rw [hqe] at hfd hp1 hp2 ⊢
      refine AWp.regionW ?_
      refine AWp.regionV ?_
      change AWp _ _ _ _
      refine AWp.block ?_
      refine AWp.regionM fun K6 hK6 => ?_
      refine ARun2.callM (hone q.2 (i + q.1) (by omega)) ?_
      refine ARun2.endm (hK6 _ ?_)
      refine AWp.seqK fun K7 hK7 => ?_
      refine AWp.regionW ?_
      refine AWp.condLM (fun c1 => ?_) (fun c1 => ?_)
      · skip
        have hne : (oneD m c q.2 (i + q.1)).2 ≠ .ok := by intro h; rw [h] at c1; cases c1
        have hr : O = ([], (oneD m c q.2 (i + q.1)).2) := by rw [hO, hfd]; exact goF_err hk1 hne
        refine AWp.regionW ?_
        refine AWp.ret ?_
        try simp only [thenQ, blockQ, noGo]
        refine ⟨_, (Le.keep (fr' := []) trivial).trans (Le.cut 7 (by first | exact Nat.le_refl _ | decide) rfl (by simp only [push_cast, reduceIte, Nat.reduceEqDiff, Nat.reduceLT, Nat.reduceAdd, Nat.reduceSub, Nat.reduceMul, Nat.reduceLeDiff, Nat.reducePow, Int.reduceLT, Int.reduceToNat, reduceCtorEq, Int.reduceNeg, Int.reduceEq, Nat.reduceBEq, Nat.reduceBNe, Int.reduceBEq, Int.reduceBNe, String.reduceEq])), ?_⟩
        exact ⟨rfl, _, _, hr, rfl⟩
      · skip
        have heq : (oneD m c q.2 (i + q.1)).2 = .ok := by rw [← isOk_iff]; simpa using c1
        refine AWp.skip ?_
        refine hK7 _ ?_
        refine AWp.drE [[(12, none)], [(15, none)], [(44, some 0)], []] fun G hG => ?_
        refine Dr.sim ?_
        try simp only [List.cons_append, List.nil_append]
        refine Dr.sim ?_
        try simp only [List.cons_append, List.nil_append]
        refine Dr.sim ?_
        try simp only [List.cons_append, List.nil_append]
        refine Dr.build ?_
        try simp only [List.cons_append, List.nil_append]
        refine Dr.finTN (n := 4) 4 [(44, 0), (45, 1), (46, 2), (47, 3)] [8, 9, 12] hG YtmcedkcehcacpaaGreatDoor.Facts.mixed fun KD hKD => ?_
        clear hG G
        refine AAny.one 4 ?_
        refine ARun.opM ?_
        refine ARun2.appendM ?_ ?_ ?_
        · rw [YtmcedkcehcacpaaGreatDoor.Facts.eb22, nodesA_len, List.length_cons, List.length_nil]; omega
        · rw [nodesA_len, List.length_cons, List.length_nil]; omega
        refine ARun2.endm ?_
        refine AAny.two 5 7 ?_ ?_
        ·
          refine ARun.opM ?_
          refine ARun2.indexZM (xs := nodesA false (goF (oneD m c) i (fs.take pre.length)).1 ++ [.agg [.val (.int .u16 0), .val (.slice none 0 0), .val (.slice none 0 0)]]) (goF (oneD m c) i (fs.take pre.length)).1.length (by rw [List.length_append, nodesA_len]; simp) ?_
          refine ARun2.endm ?_
          refine AAny.two 6 7 ?_ ?_
          ·
            refine ARun.opM ?_
            refine ARun2.storeZM (nodesA false (goF (oneD m c) i (fs.take pre.length)).1 ++ [.agg [.val (.int .u16 0), .val (.slice none 0 0), .val (.slice none 0 0)]]) (goF (oneD m c) i (fs.take pre.length)).1.length (nodeA false (oneD m c q.2 (i + q.1)).1) (nodesA false (goF (oneD m c) i (fs.take pre.length)).1 ++ [nodeA false (oneD m c q.2 (i + q.1)).1]) (by rw [List.length_append, nodesA_len]; simp) (by rw [List.set_append_right _ _ (by rw [nodesA_len]; exact Nat.le_refl _), nodesA_len, Nat.sub_self, List.set_cons_zero]) ?_
            refine ARun2.endm ?_
            refine AAny.one 7 ?_
            refine ARun.opM ?_
            refine ARun2.endm ?_
            refine AAny.fin (hKD _ ?_); clear hKD KD
            refine ⟨_, (Le.keep (fr' := []) trivial).trans (Le.cut 7 (by first | exact Nat.le_refl _ | decide) rfl (by simp only [push_cast, reduceIte, Nat.reduceEqDiff, Nat.reduceLT, Nat.reduceAdd, Nat.reduceSub, Nat.reduceMul, Nat.reduceLeDiff, Nat.reducePow, Int.reduceLT, Int.reduceToNat, reduceCtorEq, Int.reduceNeg, Int.reduceEq, Nat.reduceBEq, Nat.reduceBNe, Int.reduceBEq, Int.reduceBNe, String.reduceEq])), ?_⟩
            have ht : fs.take (pre ++ [[nat q.1, frmA true q.2]]).length = fs.take pre.length ++ [q] := by
              rw [List.length_append, List.length_cons, List.length_nil, List.take_succ_eq_append_getElem hpl, hqe]
            have hs := goF_snoc hk1 heq
            rw [← ht] at hs
            refine ⟨by rw [hs], by rw [List.length_append]; simp; omega, ?_⟩
            rw [hs, nodesA_snoc, nodeA_eq]
            rfl
          ·
            refine ARun.opM ?_
            refine ARun2.endm ?_
            refine AAny.one 6 ?_
            refine ARun.opM ?_
            refine ARun2.storeZM (nodesA false (goF (oneD m c) i (fs.take pre.length)).1 ++ [.agg [.val (.int .u16 0), .val (.slice none 0 0), .val (.slice none 0 0)]]) (goF (oneD m c) i (fs.take pre.length)).1.length (nodeA false (oneD m c q.2 (i + q.1)).1) (nodesA false (goF (oneD m c) i (fs.take pre.length)).1 ++ [nodeA false (oneD m c q.2 (i + q.1)).1]) (by rw [List.length_append, nodesA_len]; simp) (by rw [List.set_append_right _ _ (by rw [nodesA_len]; exact Nat.le_refl _), nodesA_len, Nat.sub_self, List.set_cons_zero]) ?_
            refine ARun2.endm ?_
            refine AAny.fin (hKD _ ?_); clear hKD KD
            refine ⟨_, (Le.keep (fr' := []) trivial).trans (Le.cut 7 (by first | exact Nat.le_refl _ | decide) rfl (by simp only [push_cast, reduceIte, Nat.reduceEqDiff, Nat.reduceLT, Nat.reduceAdd, Nat.reduceSub, Nat.reduceMul, Nat.reduceLeDiff, Nat.reducePow, Int.reduceLT, Int.reduceToNat, reduceCtorEq, Int.reduceNeg, Int.reduceEq, Nat.reduceBEq, Nat.reduceBNe, Int.reduceBEq, Int.reduceBNe, String.reduceEq])), ?_⟩
            have ht : fs.take (pre ++ [[nat q.1, frmA true q.2]]).length = fs.take pre.length ++ [q] := by
              rw [List.length_append, List.length_cons, List.length_nil, List.take_succ_eq_append_getElem hpl, hqe]
            have hs := goF_snoc hk1 heq
            rw [← ht] at hs
            refine ⟨by rw [hs], by rw [List.length_append]; simp; omega, ?_⟩
            rw [hs, nodesA_snoc, nodeA_eq]
            rfl
        ·
          refine ARun.opM ?_
          refine ARun2.endm ?_
          refine AAny.one 5 ?_
          refine ARun.opM ?_
          refine ARun2.indexZM (xs := nodesA false (goF (oneD m c) i (fs.take pre.length)).1 ++ [.agg [.val (.int .u16 0), .val (.slice none 0 0), .val (.slice none 0 0)]]) (goF (oneD m c) i (fs.take pre.length)).1.length (by rw [List.length_append, nodesA_len]; simp) ?_
          refine ARun2.endm ?_
          refine AAny.one 6 ?_
          refine ARun.opM ?_
          refine ARun2.storeZM (nodesA false (goF (oneD m c) i (fs.take pre.length)).1 ++ [.agg [.val (.int .u16 0), .val (.slice none 0 0), .val (.slice none 0 0)]]) (goF (oneD m c) i (fs.take pre.length)).1.length (nodeA false (oneD m c q.2 (i + q.1)).1) (nodesA false (goF (oneD m c) i (fs.take pre.length)).1 ++ [nodeA false (oneD m c q.2 (i + q.1)).1]) (by rw [List.length_append, nodesA_len]; simp) (by rw [List.set_append_right _ _ (by rw [nodesA_len]; exact Nat.le_refl _), nodesA_len, Nat.sub_self, List.set_cons_zero]) ?_
          refine ARun2.endm ?_
          refine AAny.fin (hKD _ ?_); clear hKD KD
          refine ⟨_, (Le.keep (fr' := []) trivial).trans (Le.cut 7 (by first | exact Nat.le_refl _ | decide) rfl (by simp only [push_cast, reduceIte, Nat.reduceEqDiff, Nat.reduceLT, Nat.reduceAdd, Nat.reduceSub, Nat.reduceMul, Nat.reduceLeDiff, Nat.reducePow, Int.reduceLT, Int.reduceToNat, reduceCtorEq, Int.reduceNeg, Int.reduceEq, Nat.reduceBEq, Nat.reduceBNe, Int.reduceBEq, Int.reduceBNe, String.reduceEq])), ?_⟩
          have ht : fs.take (pre ++ [[nat q.1, frmA true q.2]]).length = fs.take pre.length ++ [q] := by
            rw [List.length_append, List.length_cons, List.length_nil, List.take_succ_eq_append_getElem hpl, hqe]
          have hs := goF_snoc hk1 heq
          rw [← ht] at hs
          refine ⟨by rw [hs], by rw [List.length_append]; simp; omega, ?_⟩
          rw [hs, nodesA_snoc, nodeA_eq]
          rfl
    · rintro ob tr go df ⟨hk1, _, rfl⟩
      rw [ysOf_len, List.take_length] at hk1 ⊢
      refine hK4 _ ?_
      refine AWp.pubD 6 ?_
      refine AWp.regionW ?_
      refine AWp.ret ?_
      try simp only [thenQ, blockQ, noGo]
      refine bodyQ.m ?_
      clear hK5 K5 hK4 K4 hK2 K2 hK1 K1
      subst hO; try rw [hk1]
      first | done | exact Hand.go
    · rintro e ob tr go df ⟨rfl, er, l, hr, rfl⟩
      try simp only [thenQ, blockQ, noGo]
      refine bodyQ.m ?_
      rw [hr]
      first | done | exact Hand.go
theorem parse_all : ∀ (m d c : Nat) (b : List UInt8) (i : Nat), d + m = 5 → (c = 1 ∨ c = 2) → i + b.length ≤ 2 ^ 40 →
    PC Tryz.prog 35 [nat c, .sl false 1 (bys b), nat i, nat d] (.tup [.sl false 3 (nodesA false (parseF m c b i).1), erA (parseF m c b i).2]) := by
  intro m
  induction m with
  | zero =>
    intro d c b i hdm hc hi
    refine parse_step 0 c d hc (by omega) b i hi fun f j hj => ?_
    exact one_deep c d f j (by omega) (by omega)
  | succ m ih =>
    intro d c b i hdm hc hi
    refine parse_step (m + 1) c d hc (by omega) b i hi fun f j hj => ?_
    exact one_step m c d hc (by omega) f j hj (fun c b i hc hi => ih (d + 1) c b i (by omega) hc hi) (fun c b i => parseF_len m c b i)
theorem parse_c (c : Nat) (b : List UInt8) (hc : c = 1 ∨ c = 2) (hl : b.length ≤ 2 ^ 40) : PC Tryz.prog 15 [nat c, .sl false 1 (bys b)] (.tup [.sl false 3 (nodesA false (parseF 4 c b 0).1), erA (parseF 4 c b 0).2]) := by
  have h := parse_all 4 1 c b 0 rfl hc (by omega)
  refine PC.of_bodyW (by simp only [push_cast]) Tryz.func15 rfl (by rw [Tryz.ntmps15]; simp) ?_
  refine AWp.regionW ?_
  refine AWp.regionM fun K1 hK1 => ?_
  refine ARun2.callM (h) ?_
  refine ARun2.endm (hK1 _ ?_)
  refine AWp.ret ?_
  try simp only [thenQ, blockQ, noGo]
  refine bodyQ.m ?_
  clear hK1 K1
  first | done | exact Hand.go
end Go.Proofs.YtmcedkcehcacpaaGreatDoor.C
/- Nodes written: frames, Encode. -/
set_option linter.unusedVariables false
set_option linter.unusedSimpArgs false
namespace Go.Proofs.YtmcedkcehcacpaaGreatDoor.C
open Go.Abs
mutual
def frameN : GNode → Frm
  | .mk t d k => ⟨t, d ++ joinX (framesN k)⟩
def framesN : List GNode → List Frm
  | [] => []
  | n :: l => frameN n :: framesN l
end
theorem framesN_map : ∀ l : List GNode, framesN l = l.map frameN
  | [] => rfl
  | n :: l => by rw [framesN, framesN_map l]; rfl
theorem frameN_eq (n : GNode) : frameN n = ⟨n.ty, n.data ++ joinX (framesN n.kids)⟩ := by cases n; rw [frameN]; rfl
theorem framesN_len (l : List GNode) : (framesN l).length = l.length := by rw [framesN_map]; simp
theorem upN_mono {a b : Nat} (h : a ≤ b) : upN a ≤ upN b := by unfold upN gapN; omega
theorem sumUp_mono {α : Type} (f g : α → Nat) : ∀ (l : List α) (s s' : Nat), s ≤ s' → (∀ x ∈ l, f x ≤ g x) → sumUp s (l.map f) ≤ sumUp s' (l.map g)
  | [], s, s', h, _ => h
  | x :: l, s, s', h, hl => by
    simp only [List.map_cons, sumUp]
    refine sumUp_mono f g l _ _ ?_ fun y hy => hl y (by simp [hy])
    have := upN_mono h
    have := hl x (by simp)
    omega
theorem framesT_of {l : List GNode} (h : ∀ x ∈ l, (frameN x).val.length ≤ vlen x) : tlvSize ((framesN l).map fun f => f.val.length) ≤ nSize l := by
  unfold nSize tlvSize
  rw [framesN_map, nLens_map, List.map_map, List.map_map, List.map_map]
  exact sumUp_mono _ _ l 0 0 (Nat.le_refl _) fun x hx => by simp only [Function.comp]; have := h x hx; omega
theorem joinX_le (l : List Frm) : (joinX l).length ≤ tlvSize (l.map fun f => f.val.length) := by
  unfold joinX
  split
  · rw [joinF_len]; exact Nat.le_refl _
  · simp
mutual
theorem frameN_le : ∀ n : GNode, (frameN n).val.length ≤ vlen n
  | .mk t d k => by
    have h1 := framesT_of (framesL_le k)
    have h2 := joinX_le (framesN k)
    simp only [frameN, vlen, List.length_append]
    unfold nSize at h1
    omega
theorem framesL_le : ∀ (l : List GNode), ∀ x ∈ l, (frameN x).val.length ≤ vlen x
  | [], x, h => by simp at h
  | n :: l, x, h => (List.mem_cons.1 h).elim (fun e => e ▸ frameN_le n) (fun h => framesL_le l x h)
end
theorem framesT_le (l : List GNode) : tlvSize ((framesN l).map fun f => f.val.length) ≤ nSize l := framesT_of (framesL_le l)
theorem framesN_le (l : List GNode) : (joinX (framesN l)).length ≤ nSize l := Nat.le_trans (joinX_le _) (framesT_le l)
theorem framesN_snoc (l : List GNode) (n : GNode) : framesN (l ++ [n]) = framesN l ++ [frameN n] := by rw [framesN_map, framesN_map]; simp
@[push_cast] theorem errA_zero : errA 0 = .val .nilIface := rfl
theorem frameN_ty (n : GNode) : (frameN n).ty = n.ty := by rw [frameN_eq]
theorem frames_step (w : Nat) (ih : ∀ l : List GNode, wts l < w → nSize l ≤ 2 ^ 30 → tysOk l = true → PC Tryz.prog 32 [.sl false 3 (nodesA false l)] (.sl true 2 (frmsA true (framesN l)))) (l : List GNode) (hw : wts l ≤ w) (hs : nSize l ≤ 2 ^ 30) (ht : tysOk l = true) :
    PC Tryz.prog 32 [.sl false 3 (nodesA false l)] (.sl true 2 (frmsA true (framesN l))) := by
  have hlen := nSize_len l
  refine PC.of_bodyK (by simp only [push_cast]) Tryz.func32 rfl (by rw [Tryz.ntmps32]; simp) ?_
  refine AWp.regionW ?_
  refine AWp.regionW ?_
  refine AWp.seqK fun K1 hK1 => ?_
  refine AWp.regionW ?_
  refine AWp.block ?_
  -- SLOTS THAT TURN AND ARE NOT TOLD: [3]
  refine AWp.nilOwn 3 71 2 (by simp only [push_cast, reduceIte, Nat.reduceEqDiff, Nat.reduceLT, Nat.reduceAdd, Nat.reduceSub, Nat.reduceMul, Nat.reduceLeDiff, Nat.reducePow, Int.reduceLT, Int.reduceToNat, reduceCtorEq, Int.reduceNeg, Int.reduceEq, Nat.reduceBEq, Nat.reduceBNe, Int.reduceBEq, Int.reduceBNe, String.reduceEq]) ?_
  simp only [push_cast, reduceIte, Nat.reduceEqDiff, Nat.reduceLT, Nat.reduceAdd, Nat.reduceSub, Nat.reduceMul, Nat.reduceLeDiff, Nat.reducePow, Int.reduceLT, Int.reduceToNat, reduceCtorEq, Int.reduceNeg, Int.reduceEq, Nat.reduceBEq, Nat.reduceBNe, Int.reduceBEq, Int.reduceBNe, String.reduceEq]
  refine AWp.loopK [3, 8, 9] (fun (i : Nat) => [(10, nat i)]) (fun i => [.row 71 2 (frmsA true (framesN (l.take i)))]) (fun i => i ≤ l.length) (fun i => l.length - i) (0) ?_ (Nat.zero_le _) ?_
  · skip
    refine Le.m 1 ?_ ?_
    · try simp only [push_cast, reduceIte, Nat.reduceEqDiff, Nat.reduceLT, Nat.reduceAdd, Nat.reduceSub, Nat.reduceMul, Nat.reduceLeDiff, Nat.reducePow, Int.reduceLT, Int.reduceToNat, reduceCtorEq, Int.reduceNeg, Int.reduceEq, Nat.reduceBEq, Nat.reduceBNe, Int.reduceBEq, Int.reduceBNe, String.reduceEq]
      try simp (disch := omega) only [w_nat, w_add, w_addl, w_addr, w_sub, w_subl, w_mul, w_mull, w_mulr, w_u32, w_u16, w_u8, w_u32a, N_zero]
      first | done | skip
      rfl
    · first | (simp only [push_cast, reduceIte, Nat.reduceEqDiff, Nat.reduceLT, Nat.reduceAdd, Nat.reduceSub, Nat.reduceMul, Nat.reduceLeDiff, Nat.reducePow, Int.reduceLT, Int.reduceToNat, reduceCtorEq, Int.reduceNeg, Int.reduceEq, Nat.reduceBEq, Nat.reduceBNe, Int.reduceBEq, Int.reduceBNe, String.reduceEq]; first | done | rfl | (simp (disch := omega) only [w_nat, w_add, w_addl, w_addr, w_sub, w_subl, w_mul, w_mull, w_mulr, w_u32, w_u16, w_u8, w_u32a, N_zero]; first | done | rfl))
  · intro i hi K2 hK2
    refine AWp.regionW ?_
    refine AWp.seqK fun K3 hK3 => ?_
    refine AWp.condLM (fun c0 => ?_) (fun c0 => ?_)
    · skip
      have hil : i < l.length := by simpa using c0
      have hm := List.getElem_mem hil
      have hv := vlen_mem hm
      have he := vlen_eq l[i]
      have hk := nSize_kids hm
      have hkl := nSize_len l[i].kids
      have hkt := GNode.tyOk_kids (tysOk_mem ht _ hm)
      have hfl := framesN_le l[i].kids
      refine AWp.skip ?_
      refine hK3 _ ?_
      refine AWp.seqK fun K4 hK4 => ?_
      refine AWp.block ?_
      refine AWp.regionM fun K5 hK5 => ?_
      refine ARun2.indexM (i) (nodeA false l[i]) ?_ ?_
      · exact nodesA_at _ _ _ hil
      refine ARun2.endm (hK5 _ ?_)
      refine AWp.regionM fun K6 hK6 => ?_
      refine ARun2.callM (ih l[i].kids (by have := kids_lt hm; omega) (by omega) hkt) ?_
      refine ARun2.callM (join_c (framesN l[i].kids) (by intro f hf; rw [framesN_map] at hf; obtain ⟨n, hn, rfl⟩ := List.mem_map.1 hf; rw [frameN_ty]; exact GNode.tyOk_ty (tysOk_mem hkt _ hn)) (by have := framesT_le l[i].kids; omega) (by rw [framesN_len]; omega)) ?_
      refine ARun2.endm (hK6 _ ?_)
      have hj := wjoin_c [l[i].data, joinX (framesN l[i].kids)] (by simp [lens]; omega) (by simp)
      rw [show [l[i].data, joinX (framesN l[i].kids)].flatten = l[i].data ++ joinX (framesN l[i].kids) by simp] at hj
      refine AWp.drE [[(3, none)], [(5, none)], [(22, some 1)], [(5, none)], [(24, some 3)], [(6, none)], [(25, some 4), (26, some 5)], [(27, some 6)], [(23, some 2), (28, some 7)], [(29, some 8)]] fun G hG => ?_
      refine Dr.sim ?_
      try simp only [List.cons_append, List.nil_append]
      refine Dr.sim ?_
      try simp only [List.cons_append, List.nil_append]
      refine Dr.sim ?_
      try simp only [List.cons_append, List.nil_append]
      refine Dr.sim ?_
      try simp only [List.cons_append, List.nil_append]
      refine Dr.sim ?_
      try simp only [List.cons_append, List.nil_append]
      refine Dr.sim ?_
      try simp only [List.cons_append, List.nil_append]
      refine Dr.build ?_
      try simp only [List.cons_append, List.nil_append]
      refine Dr.call (hj) ?_
      try simp only [List.cons_append, List.nil_append]
      refine Dr.sim ?_
      try simp only [List.cons_append, List.nil_append]
      refine Dr.build ?_
      try simp only [List.cons_append, List.nil_append]
      refine Dr.finN (n := 10) [(21, 0), (30, 9)] [8, 9, 10] hG YtmcedkcehcacpaaGreatDoor.Facts.mixed fun KD hKD => ?_
      refine ARun2.appendM ?_ ?_ ?_
      · rw [YtmcedkcehcacpaaGreatDoor.Facts.eb68, frmsA_len, framesN_len, List.length_take, List.length_cons, List.length_nil]; omega
      · rw [frmsA_len, framesN_len, List.length_take, List.length_cons, List.length_nil]; omega
      refine ARun2.endm (hKD _ ?_); clear hKD KD hG G
      refine hK4 _ ?_
      refine AWp.regionV ?_
      refine hK2 _ (i + 1) (by omega) (by omega) ?_
      refine Le.m 1 ?_ ?_
      · try simp only [push_cast, reduceIte, Nat.reduceEqDiff, Nat.reduceLT, Nat.reduceAdd, Nat.reduceSub, Nat.reduceMul, Nat.reduceLeDiff, Nat.reducePow, Int.reduceLT, Int.reduceToNat, reduceCtorEq, Int.reduceNeg, Int.reduceEq, Nat.reduceBEq, Nat.reduceBNe, Int.reduceBEq, Int.reduceBNe, String.reduceEq]
        try simp (disch := omega) only [w_nat, w_add, w_addl, w_addr, w_sub, w_subl, w_mul, w_mull, w_mulr, w_u32, w_u16, w_u8, w_u32a, N_zero]
        first | done | skip
        rw [List.take_succ_eq_append_getElem hil, framesN_snoc, frmsA_snoc, frameN_eq l[i]]; rfl
      · first | (simp only [push_cast, reduceIte, Nat.reduceEqDiff, Nat.reduceLT, Nat.reduceAdd, Nat.reduceSub, Nat.reduceMul, Nat.reduceLeDiff, Nat.reducePow, Int.reduceLT, Int.reduceToNat, reduceCtorEq, Int.reduceNeg, Int.reduceEq, Nat.reduceBEq, Nat.reduceBNe, Int.reduceBEq, Int.reduceBNe, String.reduceEq]; first | done | rfl | (simp (disch := omega) only [w_nat, w_add, w_addl, w_addr, w_sub, w_subl, w_mul, w_mull, w_mulr, w_u32, w_u16, w_u8, w_u32a, N_zero]; first | done | rfl))
    · skip
      have hil : i = l.length := by simp at c0; omega
      subst hil
      refine AWp.exit ?_
      try simp only [thenQ, blockQ, noGo, reduceIte, Nat.reduceEqDiff]
      refine hK1 _ ?_
      refine AWp.pubD 0 ?_
      refine AWp.regionW ?_
      refine AWp.ret ?_
      try simp only [thenQ, blockQ, noGo]
      refine bodyQ.m ?_
      clear hK3 K3 hK2 K2 hK1 K1
      rw [List.take_length]
      first | done | exact Wk.go
theorem frames_w : ∀ (w : Nat) (l : List GNode), wts l ≤ w → nSize l ≤ 2 ^ 30 → tysOk l = true → PC Tryz.prog 32 [.sl false 3 (nodesA false l)] (.sl true 2 (frmsA true (framesN l))) := by
  intro w
  induction w with
  | zero => exact frames_step 0 (fun l h => by omega)
  | succ w ih => exact frames_step (w + 1) (fun l h => ih l (by omega))
theorem frames_c (l : List GNode) (hs : nSize l ≤ 2 ^ 30) (ht : tysOk l = true) : PC Tryz.prog 32 [.sl false 3 (nodesA false l)] (.sl true 2 (frmsA true (framesN l))) := frames_w _ l (Nat.le_refl _) hs ht
/-- the bytes of nodes -/
def encN (l : List GNode) : List UInt8 := joinX (framesN l)
theorem encode_c (c : Nat) (l : List GNode) (hc : c = 1 ∨ c = 2) (hs : nSize l ≤ 2 ^ 30) (ht : tysOk l = true) : PC Tryz.prog 12 [nat c, .sl false 3 (nodesA false l)]
    (.tup [.sl true 1 (bys (if checkL c 1 l = 0 then encN l else [])), errA (checkL c 1 l)]) := by
  have hlen := nSize_len l
  refine PC.of_bodyK (by simp only [push_cast]) Tryz.func12 rfl (by rw [Tryz.ntmps12]; simp) ?_
  refine AWp.regionW ?_
  refine AWp.seqK fun K1 hK1 => ?_
  refine AWp.regionW ?_
  refine AWp.block ?_
  refine AWp.loopK0 [0, 1, 11, 12] (fun (i : Nat) => [(13, nat i)]) (fun i => i ≤ l.length ∧ checkL c 1 (l.take i) = 0) (fun i => l.length - i) (0) ?_ ⟨Nat.zero_le _, rfl⟩ ?_
  · skip
    refine Le.m 0 ?_ ?_
    · first | with_reducible rfl | (simp only [push_cast, reduceIte, Nat.reduceEqDiff, Nat.reduceLT, Nat.reduceAdd, Nat.reduceSub, Nat.reduceMul, Nat.reduceLeDiff, Nat.reducePow, Int.reduceLT, Int.reduceToNat, reduceCtorEq, Int.reduceNeg, Int.reduceEq, Nat.reduceBEq, Nat.reduceBNe, Int.reduceBEq, Int.reduceBNe, String.reduceEq]; first | done | rfl | (simp (disch := omega) only [w_nat, w_add, w_addl, w_addr, w_sub, w_subl, w_mul, w_mull, w_mulr, w_u32, w_u16, w_u8, w_u32a, N_zero]; first | done | rfl))
    · first | (simp only [push_cast, reduceIte, Nat.reduceEqDiff, Nat.reduceLT, Nat.reduceAdd, Nat.reduceSub, Nat.reduceMul, Nat.reduceLeDiff, Nat.reducePow, Int.reduceLT, Int.reduceToNat, reduceCtorEq, Int.reduceNeg, Int.reduceEq, Nat.reduceBEq, Nat.reduceBNe, Int.reduceBEq, Int.reduceBNe, String.reduceEq]; first | done | rfl | (simp (disch := omega) only [w_nat, w_add, w_addl, w_addr, w_sub, w_subl, w_mul, w_mull, w_mulr, w_u32, w_u16, w_u8, w_u32a, N_zero]; first | done | rfl))
  · intro i hi K2 hK2
    refine AWp.regionW ?_
    refine AWp.seqK fun K3 hK3 => ?_
    refine AWp.condLM (fun c0 => ?_) (fun c0 => ?_)
    · skip
      have hil : i < l.length := by simpa using c0
      have hm := List.getElem_mem hil
      have hn1 := nSize_one hm
      refine AWp.skip ?_
      refine hK3 _ ?_
      refine AWp.seqK fun K4 hK4 => ?_
      refine AWp.block ?_
      refine AWp.regionM fun K5 hK5 => ?_
      refine ARun2.indexM (i) (nodeA false l[i]) ?_ ?_
      · exact nodesA_at _ _ _ hil
      refine ARun2.endm (hK5 _ ?_)
      refine AWp.regionM fun K6 hK6 => ?_
      refine ARun2.callM (check_c c l[i] hc (by omega)) ?_
      refine ARun2.endm (hK6 _ ?_)
      refine AWp.regionW ?_
      refine AWp.condLM (fun c1 => ?_) (fun c1 => ?_)
      · skip
        have hne : checkN c 1 l[i] ≠ 0 := by simpa using c1
        have hr := checkL_at c 1 l i hil hi.2 hne
        have hr2 : (if checkL c 1 l = 0 then encN l else []) = [] := by rw [hr, if_neg hne]
        refine AWp.regionW ?_
        refine AWp.ret ?_
        try simp only [thenQ, blockQ, noGo]
        refine bodyQ.m ?_
        clear hK6 K6 hK5 K5 hK4 K4 hK3 K3 hK2 K2 hK1 K1
        rw [hr2, hr]; try rw [encN]
        first | done | exact Wk.go
      · skip
        have heq : checkN c 1 l[i] = 0 := by simpa using c1
        refine AWp.skip ?_
        refine hK4 _ ?_
        refine AWp.regionV ?_
        refine hK2 _ (i + 1) (⟨hil, by rw [List.take_succ_eq_append_getElem hil, checkL_snoc, hi.2]; simpa using heq⟩) (by omega) ?_
        refine Le.m 0 ?_ ?_
        · first | with_reducible rfl | (simp only [push_cast, reduceIte, Nat.reduceEqDiff, Nat.reduceLT, Nat.reduceAdd, Nat.reduceSub, Nat.reduceMul, Nat.reduceLeDiff, Nat.reducePow, Int.reduceLT, Int.reduceToNat, reduceCtorEq, Int.reduceNeg, Int.reduceEq, Nat.reduceBEq, Nat.reduceBNe, Int.reduceBEq, Int.reduceBNe, String.reduceEq]; first | done | rfl | (simp (disch := omega) only [w_nat, w_add, w_addl, w_addr, w_sub, w_subl, w_mul, w_mull, w_mulr, w_u32, w_u16, w_u8, w_u32a, N_zero]; first | done | rfl))
        · first | (simp only [push_cast, reduceIte, Nat.reduceEqDiff, Nat.reduceLT, Nat.reduceAdd, Nat.reduceSub, Nat.reduceMul, Nat.reduceLeDiff, Nat.reducePow, Int.reduceLT, Int.reduceToNat, reduceCtorEq, Int.reduceNeg, Int.reduceEq, Nat.reduceBEq, Nat.reduceBNe, Int.reduceBEq, Int.reduceBNe, String.reduceEq]; first | done | rfl | (simp (disch := omega) only [w_nat, w_add, w_addl, w_addr, w_sub, w_subl, w_mul, w_mull, w_mulr, w_u32, w_u16, w_u8, w_u32a, N_zero]; first | done | rfl))
    · skip
      have hil : i = l.length := by have := hi.1; simp at c0; omega
      subst hil
      have hr : checkL c 1 l = 0 := by have := hi.2; rwa [List.take_length] at this
      have hr2 : (if checkL c 1 l = 0 then encN l else []) = encN l := if_pos hr
      refine AWp.exit ?_
      try simp only [thenQ, blockQ, noGo, reduceIte, Nat.reduceEqDiff]
      refine hK1 _ ?_
      refine AWp.regionM fun K7 hK7 => ?_
      refine ARun2.callM (frames_c l hs ht) ?_
      refine ARun2.callM (join_c (framesN l) (by intro f hf; rw [framesN_map] at hf; obtain ⟨n, hn, rfl⟩ := List.mem_map.1 hf; rw [frameN_ty]; exact GNode.tyOk_ty (tysOk_mem ht _ hn)) (by have := framesT_le l; omega) (by rw [framesN_len]; omega)) ?_
      refine ARun2.endm (hK7 _ ?_)
      refine AWp.regionW ?_
      refine AWp.ret ?_
      try simp only [thenQ, blockQ, noGo]
      refine bodyQ.m ?_
      clear hK7 K7 hK3 K3 hK2 K2 hK1 K1
      rw [hr2, hr]; try rw [encN]
      first | done | exact Wk.go
end Go.Proofs.YtmcedkcehcacpaaGreatDoor.C
/- Two values of an interface compared, where one holds a number. No condition. -/
namespace Go.Abs
set_option linter.unusedVariables false
set_option linter.unusedSectionVars false
set_option linter.unusedSimpArgs false
/-- a type of numbers that may be compared -/
def isIn (P : Program) (T : TypeId) : Bool := match P.underlying T, P.info? T with
  | some (.int _), some i => i.comparable
  | _, _ => false
def isIf (P : Program) (T : TypeId) : Bool := match P.underlying T with
  | some (.interface _) => true
  | _ => false
def ifcEq (e : AV) (t : TypeId) (k : IntKind) (n : Int) : Option Bool := match e with
  | .val .nilIface => some false
  | .ifc t' u => if t' = t then (match u with
    | .val (.int k' m) => if k' = k then some (m == n) else none
    | _ => none) else some false
  | _ => none
section
variable {P : Program} {ops : Array Oper} {E : Env} {s s' : AS} {ρ : List Value} {B : Nat → Prop} {a : Act} {w w' : World} {o : Oper} {rest : List Oper} {Q : AS → Prop} {R : Exit → AS → Prop} {nds : List (List (Nat × Option Nat))} {vals : List AV} {G : Prop}
theorem isIn_spec {T : TypeId} (h : isIn P T = true) : ∃ k i, P.underlying T = some (.int k) ∧ P.info? T = some i ∧ i.comparable = true := by
  unfold isIn at h
  split at h
  · rename_i k i h1 h2; exact ⟨k, i, h1, h2, h⟩
  · cases h
theorem isIf_spec {T : TypeId} (h : isIf P T = true) : ∃ ms, P.underlying T = some (.interface ms) := by
  unfold isIf at h
  split at h
  · rename_i ms hm; exact ⟨ms, hm⟩
  · cases h
theorem ifcEq_run {T t : TypeId} {k : IntKind} {n : Int} {e : AV} {v : Value} {b : Bool} (hT : isIf P T = true) (ht : isIn P t = true) (hv : Rel w B E.bs ρ e v) (he : ifcEq e t k n = some b) : (Op.equal T v (.iface t (.int k n))).run P w = .ok b w := by
  obtain ⟨ms, hu⟩ := isIf_spec hT
  obtain ⟨kk, i, h1, h2, h3⟩ := isIn_spec ht
  have key : ∀ d, (Op.equalIn (d + 2) T v (.iface t (.int k n))).run P w = .ok b w := by
    intro d
    unfold ifcEq at he
    split at he
    · cases he
      have : v = .nilIface := hv.val_eq
      subst this
      simp [Op.equalIn, run_underlying hu]
    · rename_i t' u
      cases hv with
      | ifc hv =>
        rename_i v'
        by_cases htt : t' = t
        · subst htt
          rw [if_pos rfl] at he
          split at he
          · rename_i k' m
            split at he
            · rename_i hkk
              subst hkk
              cases he
              have : v' = .int k' m := hv.val_eq
              subst this
              simp [Op.equalIn, run_underlying hu, run_underlying h1, typeInfo, h2, h3]
            · cases he
          · cases he
        · rw [if_neg htt] at he
          cases he
          simp [Op.equalIn, run_underlying hu, htt]
    · cases he
  exact key 9998
theorem AOp.ifcEq {op : BinOp} {T X t : TypeId} {k : IntKind} {n : Int} {e : AV} {x y : Operand} {b : Bool} (ho : o.op = .binOp op T x y X) (hop : op = .eql ∨ op = .neq) (hT : isIf P T = true) (ht : isIn P t = true) (hx : s.ev x = e) (hy : s.ev y = .ifc t (.val (.int k n))) (he : Abs.ifcEq e t k n = some b)
    (K : ARun P ops rest (s.put o.dst (.val (.bool (if op = .eql then b else !b)))) Q) : AOp P ops o rest s Q := by
  refine AOp.pure1 (fun E ρ B a w hs => ⟨.bool (if op = .eql then b else !b), ?_, .val _⟩) K
  have e1 := hx ▸ hs.ev x
  have e2 : a.eval y = .iface t (.int k n) := by
    have key : ∀ u, Rel w B E.bs ρ (.ifc t (.val (.int k n))) u → u = .iface t (.int k n) := by
      intro u h
      cases h with
      | ifc h => rw [h.val_eq]
    exact key _ (hy ▸ hs.ev y)
  have hq := ifcEq_run (E := E) hT ht e1 he
  have hg : (eqGuard op T x y (a.eval x) (.iface t (.int k n))).run P w = .ok () w := by
    rcases hop with rfl | rfl <;> (cases a.eval x <;> simp [eqGuard])
  have hb : ∀ v, (∃ b, Abs.ifcEq e t k n = some b) → Rel w B E.bs ρ e v → (binOp .eql T v (.iface t (.int k n)) = (do pure (.bool (← Op.equal T v (.iface t (.int k n))))) ∧ binOp .neq T v (.iface t (.int k n)) = (do pure (.bool (!(← Op.equal T v (.iface t (.int k n))))))) := by
    intro v hb hv
    cases v <;> first | exact ⟨rfl, rfl⟩ | skip
  obtain ⟨b1, b2⟩ := hb (a.eval x) ⟨b, he⟩ e1
  simp only [execOp, ho, e2]
  rcases hop with rfl | rfl
  · simp [b1, hg, hq]
  · simp [b2, hg, hq]
theorem ARun2.ifcEqM {op : BinOp} {T X t : TypeId} {k : IntKind} {n : Int} {e : AV} {x y : Operand} {p : List Oper × AS} (b : Bool) (he : Abs.ifcEq e t k n = some b) (K : ARun2 P ops p Q) (ho : o.op = .binOp op T x y X := by rfl) (hop : op = .eql ∨ op = .neq := by first | exact .inl rfl | exact .inr rfl) (hT : isIf P T = true := by kernel_rfl) (ht : isIn P t = true := by kernel_rfl)
    (hg : gd ops s o = some true := by first | with_reducible rfl | (simp only [push_cast, reduceIte, Nat.reduceEqDiff, Nat.reduceLT, Nat.reduceAdd, Nat.reduceSub, Nat.reduceMul, Nat.reduceLeDiff, Nat.reducePow, Int.reduceLT, Int.reduceToNat, reduceCtorEq, Int.reduceNeg, Int.reduceEq, Nat.reduceBEq, Nat.reduceBNe, Int.reduceBEq, Int.reduceBNe, String.reduceEq]; first | done | rfl | (simp (disch := omega) only [w_nat, w_add, w_addl, w_addr, w_sub, w_subl, w_mul, w_mull, w_mulr, w_u32, w_u16, w_u8, w_u32a, N_zero]; first | done | rfl | (simp only [push_cast, reduceIte, Nat.reduceEqDiff, Nat.reduceLT, Nat.reduceAdd, Nat.reduceSub, Nat.reduceMul, Nat.reduceLeDiff, Nat.reducePow, Int.reduceLT, Int.reduceToNat, reduceCtorEq, Int.reduceNeg, Int.reduceEq, Nat.reduceBEq, Nat.reduceBNe, Int.reduceBEq, Int.reduceBNe, String.reduceEq]; first | done | rfl)))) (hx : s.ev x = e := by first | with_reducible rfl | (simp only [push_cast, reduceIte, Nat.reduceEqDiff, Nat.reduceLT, Nat.reduceAdd, Nat.reduceSub, Nat.reduceMul, Nat.reduceLeDiff, Nat.reducePow, Int.reduceLT, Int.reduceToNat, reduceCtorEq, Int.reduceNeg, Int.reduceEq, Nat.reduceBEq, Nat.reduceBNe, Int.reduceBEq, Int.reduceBNe, String.reduceEq]; first | done | rfl | (simp (disch := omega) only [w_nat, w_add, w_addl, w_addr, w_sub, w_subl, w_mul, w_mull, w_mulr, w_u32, w_u16, w_u8, w_u32a, N_zero]; first | done | rfl | (simp only [push_cast, reduceIte, Nat.reduceEqDiff, Nat.reduceLT, Nat.reduceAdd, Nat.reduceSub, Nat.reduceMul, Nat.reduceLeDiff, Nat.reducePow, Int.reduceLT, Int.reduceToNat, reduceCtorEq, Int.reduceNeg, Int.reduceEq, Nat.reduceBEq, Nat.reduceBNe, Int.reduceBEq, Int.reduceBNe, String.reduceEq]; first | done | rfl)))) (hy : s.ev y = .ifc t (.val (.int k n)) := by first | with_reducible rfl | (simp only [push_cast, reduceIte, Nat.reduceEqDiff, Nat.reduceLT, Nat.reduceAdd, Nat.reduceSub, Nat.reduceMul, Nat.reduceLeDiff, Nat.reducePow, Int.reduceLT, Int.reduceToNat, reduceCtorEq, Int.reduceNeg, Int.reduceEq, Nat.reduceBEq, Nat.reduceBNe, Int.reduceBEq, Int.reduceBNe, String.reduceEq]; first | done | rfl | (simp (disch := omega) only [w_nat, w_add, w_addl, w_addr, w_sub, w_subl, w_mul, w_mull, w_mulr, w_u32, w_u16, w_u8, w_u32a, N_zero]; first | done | rfl | (simp only [push_cast, reduceIte, Nat.reduceEqDiff, Nat.reduceLT, Nat.reduceAdd, Nat.reduceSub, Nat.reduceMul, Nat.reduceLeDiff, Nat.reducePow, Int.reduceLT, Int.reduceToNat, reduceCtorEq, Int.reduceNeg, Int.reduceEq, Nat.reduceBEq, Nat.reduceBNe, Int.reduceBEq, Int.reduceBNe, String.reduceEq]; first | done | rfl))))
    (h : srun P ops rest (s.put o.dst (.val (.bool (if op = .eql then b else !b)))) = p := by
        try simp only [push_cast, reduceIte, Nat.reduceEqDiff, Nat.reduceLT, Nat.reduceAdd, Nat.reduceSub, Nat.reduceMul, Nat.reduceLeDiff, Nat.reducePow, Int.reduceLT, Int.reduceToNat, reduceCtorEq, Int.reduceNeg, Int.reduceEq, Nat.reduceBEq, Nat.reduceBNe, Int.reduceBEq, Int.reduceBNe, String.reduceEq]
        try simp (disch := omega) only [w_nat, w_add, w_addl, w_addr, w_sub, w_subl, w_mul, w_mull, w_mulr, w_u32, w_u16, w_u8, w_u32a, N_zero]
        try simp only [push_cast, reduceIte, Nat.reduceEqDiff, Nat.reduceLT, Nat.reduceAdd, Nat.reduceSub, Nat.reduceMul, Nat.reduceLeDiff, Nat.reducePow, Int.reduceLT, Int.reduceToNat, reduceCtorEq, Int.reduceNeg, Int.reduceEq, Nat.reduceBEq, Nat.reduceBNe, Int.reduceBEq, Int.reduceBNe, String.reduceEq]
        rfl) : ARun2 P ops (o :: rest, s) Q :=
  ARun.exec hg (AOp.ifcEq ho hop hT ht hx hy he (ARun.srun (h ▸ K)))
end
end Go.Abs
/- cause: right, Number, Value, Missing, Types, Chunk. -/
set_option linter.unusedVariables false
set_option linter.unusedSimpArgs false
namespace Go.Abs
@[push_cast] theorem GNode.ty_mk (t : Nat) (d : List UInt8) (k : List GNode) : (GNode.mk t d k).ty = t := rfl
@[push_cast] theorem GNode.data_mk (t : Nat) (d : List UInt8) (k : List GNode) : (GNode.mk t d k).data = d := rfl
@[push_cast] theorem GNode.kids_mk (t : Nat) (d : List UInt8) (k : List GNode) : (GNode.mk t d k).kids = k := rfl
@[push_cast] theorem GNode.zero_mk : GNode.zero = .mk 0 [] [] := rfl
end Go.Abs
namespace Go.Proofs.YtmcedkcehcacpaaGreatDoor.C
open Go.Abs
theorem tlv_le : ∀ (l : List Nat) (s : Nat), sumUp s (l.map (4 + ·)) ≤ s + l.sum + 7 * l.length
  | [], s => by simp [sumUp]
  | n :: l, s => by
    have := tlv_le l (upN s + (4 + n))
    have h := gapN_le s
    simp only [List.map_cons, sumUp, List.length_cons, List.sum_cons, upN] at *
    omega
mutual
theorem vlen_sz : ∀ n : GNode, vlen n + 7 ≤ 8 * n.sz
  | .mk t d k => by
    have h1 := nLens_sz k
    have h2 := tlv_le (nLens k) 0
    have h3 : (nLens k).length = k.length := by rw [nLens_map]; simp
    simp only [vlen, GNode.sz, tlvSize] at *
    omega
theorem nLens_sz : ∀ l : List GNode, (nLens l).sum + 7 * l.length ≤ 8 * szs l
  | [] => by simp [nLens, szs]
  | n :: l => by
    have h1 := vlen_sz n
    have h2 := nLens_sz l
    simp only [nLens, szs, List.sum_cons, List.length_cons] at *
    omega
end
theorem nSize_sz (n : GNode) : nSize [n] ≤ 8 * n.sz := by
  have h := vlen_sz n
  have e : nSize [n] = 4 + vlen n := by simp [nSize, nLens, tlvSize, sumUp, upN, gapN]
  omega
end Go.Proofs.YtmcedkcehcacpaaGreatDoor.C
/- cause: Value, Missing, Types, Chunk. -/
set_option linter.unusedVariables false
set_option linter.unusedSimpArgs false
namespace Go.Proofs.YtmcedkcehcacpaaGreatDoor.C
open Go.Abs
theorem beN_lt2 (l : List UInt8) (k : Nat) (h : l.length ≤ k) : beN l < 256 ^ k := by
  have := beN_lt l
  exact Nat.lt_of_lt_of_le this (Nat.pow_le_pow_right (by omega) h)
@[push_cast] theorem plL_app (l m : List AV) : AV.plL (l ++ m) = (AV.plL l && AV.plL m) := by
  rw [Bool.eq_iff_iff, Bool.and_eq_true, AV.plL_iff, AV.plL_iff, AV.plL_iff]
  simp only [List.mem_append]
  exact ⟨fun h => ⟨fun x hx => h x (.inl hx), fun x hx => h x (.inr hx)⟩, fun h x hx => hx.elim (h.1 x) (h.2 x)⟩
end Go.Proofs.YtmcedkcehcacpaaGreatDoor.C
/- cause: Missing, Types, Chunk. -/
set_option linter.unusedVariables false
set_option linter.unusedSimpArgs false
namespace Go.Proofs.YtmcedkcehcacpaaGreatDoor.C
open Go.Abs
end Go.Proofs.YtmcedkcehcacpaaGreatDoor.C
/- The reference: Same, Missing. -/
set_option linter.unusedVariables false
set_option linter.unusedSimpArgs false
namespace Go.Proofs.YtmcedkcehcacpaaGreatDoor.C
open Go.Abs
theorem take_step {α : Type} {l m : List α} {i : Nat} (hl : i < l.length) (hm : i < m.length) (h0 : l.take i = m.take i) (h : l[i] = m[i]) : l.take (i + 1) = m.take (i + 1) := by
  rw [List.take_succ_eq_append_getElem hl, List.take_succ_eq_append_getElem hm, h0, h]
theorem ne_at {α : Type} {l m : List α} {i : Nat} (hl : i < l.length) (hm : i < m.length) (h : l[i] ≠ m[i]) : l ≠ m := by
  rintro rfl; exact h rfl
theorem bys_at (l : List UInt8) (i : Nat) (h : i < l.length) : (bys l)[i]? = some (.val (.int .u8 (N l[i].toNat))) := by simp [bys, h]
theorem same01_c (l m : List UInt8) (hl : l.length ≤ 2 ^ 40) : PC Tryz.prog 16 [.sl false 1 (bys l), .sl false 1 (bys m)] (bool (decide (l = m))) := by
  refine PC.of_bodyW (by simp only [push_cast]) Tryz.func16 rfl (by rw [Tryz.ntmps16]; simp) ?_
  refine AWp.regionW ?_
  refine AWp.seqK fun K1 hK1 => ?_
  refine AWp.regionW ?_
  refine AWp.condLM (fun c0 => ?_) (fun c0 => ?_)
  · skip
    have hne : decide (l = m) = false := decide_eq_false (by rintro rfl; simp at c0)
    refine AWp.regionW ?_
    refine AWp.ret ?_
    try simp only [thenQ, blockQ, noGo]
    refine bodyQ.m ?_
    clear hK1 K1
    rw [hne]
    first | done | exact Hand.go
  · skip
    have he : l.length = m.length := by simpa using c0
    refine AWp.skip ?_
    refine hK1 _ ?_
    refine AWp.seqK fun K2 hK2 => ?_
    refine AWp.regionW ?_
    refine AWp.block ?_
    refine AWp.loopK0 [0, 1] (fun (i : Nat) => [(5, nat i)]) (fun i => i ≤ l.length ∧ l.take i = m.take i) (fun i => l.length - i) (0) ?_ ⟨Nat.zero_le _, rfl⟩ ?_
    · skip
      refine Le.m 0 ?_ ?_
      · first | with_reducible rfl | (simp only [push_cast, reduceIte, Nat.reduceEqDiff, Nat.reduceLT, Nat.reduceAdd, Nat.reduceSub, Nat.reduceMul, Nat.reduceLeDiff, Nat.reducePow, Int.reduceLT, Int.reduceToNat, reduceCtorEq, Int.reduceNeg, Int.reduceEq, Nat.reduceBEq, Nat.reduceBNe, Int.reduceBEq, Int.reduceBNe, String.reduceEq]; first | done | rfl | (simp (disch := omega) only [w_nat, w_add, w_addl, w_addr, w_sub, w_subl, w_mul, w_mull, w_mulr, w_u32, w_u16, w_u8, w_u32a, N_zero]; first | done | rfl))
      · first | (simp only [push_cast, reduceIte, Nat.reduceEqDiff, Nat.reduceLT, Nat.reduceAdd, Nat.reduceSub, Nat.reduceMul, Nat.reduceLeDiff, Nat.reducePow, Int.reduceLT, Int.reduceToNat, reduceCtorEq, Int.reduceNeg, Int.reduceEq, Nat.reduceBEq, Nat.reduceBNe, Int.reduceBEq, Int.reduceBNe, String.reduceEq]; first | done | rfl | (simp (disch := omega) only [w_nat, w_add, w_addl, w_addr, w_sub, w_subl, w_mul, w_mull, w_mulr, w_u32, w_u16, w_u8, w_u32a, N_zero]; first | done | rfl))
    · intro i hi K3 hK3
      refine AWp.seqK fun K4 hK4 => ?_
      refine AWp.regionW ?_
      refine AWp.condLM (fun c1 => ?_) (fun c1 => ?_)
      · skip
        have hil : i < l.length := by simpa using c1
        have hir : i < m.length := by omega
        refine AWp.skip ?_
        refine hK4 _ ?_
        refine AWp.seqK fun K5 hK5 => ?_
        refine AWp.block ?_
        refine AWp.drS [[(0, none)], [(5, none)], [(17, some 0), (18, some 1)], [(19, some 2)], [(1, none)], [(5, none)], [(21, some 4), (22, some 5)], [(23, some 6)], [(20, some 3), (24, some 7)]] fun G hG => ?_
        refine Dr.sim ?_
        try simp only [List.cons_append, List.nil_append]
        refine Dr.sim ?_
        try simp only [List.cons_append, List.nil_append]
        refine Dr.idx (i) (.val (.int .u8 (N l[i].toNat))) ?_ ?_
        · exact bys_at _ _ hil
        try simp only [List.cons_append, List.nil_append]
        refine Dr.sim ?_
        try simp only [List.cons_append, List.nil_append]
        refine Dr.sim ?_
        try simp only [List.cons_append, List.nil_append]
        refine Dr.sim ?_
        try simp only [List.cons_append, List.nil_append]
        refine Dr.idx (i) (.val (.int .u8 (N m[i].toNat))) ?_ ?_
        · exact bys_at _ _ hir
        try simp only [List.cons_append, List.nil_append]
        refine Dr.sim ?_
        try simp only [List.cons_append, List.nil_append]
        refine Dr.sim ?_
        try simp only [List.cons_append, List.nil_append]
        refine Dr.finM (n := 9) [(25, 8)] [0, 1, 5] hG YtmcedkcehcacpaaGreatDoor.Facts.mixed fun KD hKD => ?_
        refine ARun2.endm (hKD _ ?_); clear hKD KD hG G
        refine AWp.condLM (fun c2 => ?_) (fun c2 => ?_)
        · skip
          have hne : decide (l = m) = false := decide_eq_false (ne_at hil hir (by intro e; rw [e] at c2; simp at c2))
          refine AWp.regionW ?_
          refine AWp.ret ?_
          try simp only [thenQ, blockQ, noGo]
          refine bodyQ.m ?_
          clear hK5 K5 hK4 K4 hK3 K3 hK2 K2 hK1 K1
          rw [hne]
          first | done | exact Hand.go
        · skip
          have hx : l[i] = m[i] := by apply UInt8.toNat_inj.1; simpa using c2
          refine AWp.skip ?_
          refine hK5 _ ?_
          refine AWp.regionV ?_
          refine hK3 _ (i + 1) (⟨by omega, take_step hil hir hi.2 hx⟩) (by omega) ?_
          refine Le.m 0 ?_ ?_
          · first | with_reducible rfl | (simp only [push_cast, reduceIte, Nat.reduceEqDiff, Nat.reduceLT, Nat.reduceAdd, Nat.reduceSub, Nat.reduceMul, Nat.reduceLeDiff, Nat.reducePow, Int.reduceLT, Int.reduceToNat, reduceCtorEq, Int.reduceNeg, Int.reduceEq, Nat.reduceBEq, Nat.reduceBNe, Int.reduceBEq, Int.reduceBNe, String.reduceEq]; first | done | rfl | (simp (disch := omega) only [w_nat, w_add, w_addl, w_addr, w_sub, w_subl, w_mul, w_mull, w_mulr, w_u32, w_u16, w_u8, w_u32a, N_zero]; first | done | rfl))
          · first | (simp only [push_cast, reduceIte, Nat.reduceEqDiff, Nat.reduceLT, Nat.reduceAdd, Nat.reduceSub, Nat.reduceMul, Nat.reduceLeDiff, Nat.reducePow, Int.reduceLT, Int.reduceToNat, reduceCtorEq, Int.reduceNeg, Int.reduceEq, Nat.reduceBEq, Nat.reduceBNe, Int.reduceBEq, Int.reduceBNe, String.reduceEq]; first | done | rfl | (simp (disch := omega) only [w_nat, w_add, w_addl, w_addr, w_sub, w_subl, w_mul, w_mull, w_mulr, w_u32, w_u16, w_u8, w_u32a, N_zero]; first | done | rfl))
      · skip
        have hil : i = l.length := by have := hi.1; simp at c1; omega
        have hq : decide (l = m) = true := decide_eq_true (by have := hi.2; rwa [hil, List.take_length, he, List.take_length] at this)
        refine AWp.exit ?_
        try simp only [thenQ, blockQ, noGo, reduceIte, Nat.reduceEqDiff]
        refine hK2 _ ?_
        refine AWp.regionW ?_
        refine AWp.ret ?_
        try simp only [thenQ, blockQ, noGo]
        refine bodyQ.m ?_
        clear hK4 K4 hK3 K3 hK2 K2 hK1 K1
        rw [hq]
        first | done | exact Hand.go
theorem same08_step (l r : List GNode) (hs : szs l ≤ 2 ^ 40) (ih : ∀ a ∈ l, ∀ b : GNode, PC Tryz.prog 18 [.sl false 3 (nodesA false a.kids), .sl false 3 (nodesA false b.kids)] (bool (sameL a.kids b.kids))) :
    PC Tryz.prog 18 [.sl false 3 (nodesA false l), .sl false 3 (nodesA false r)] (bool (sameL l r)) := by
  have hlen := szs_len l
  refine PC.of_bodyW (by simp only [push_cast]) Tryz.func18 rfl (by rw [Tryz.ntmps18]; simp) ?_
  refine AWp.regionW ?_
  refine AWp.seqK fun K1 hK1 => ?_
  refine AWp.regionW ?_
  refine AWp.condLM (fun c0 => ?_) (fun c0 => ?_)
  · skip
    have hne : l.length ≠ r.length := by simpa using c0
    refine AWp.regionW ?_
    refine AWp.ret ?_
    try simp only [thenQ, blockQ, noGo]
    refine bodyQ.m ?_
    clear hK1 K1
    rw [sameL_len hne]
    first | done | exact Hand.go
  · skip
    have he : l.length = r.length := by simpa using c0
    refine AWp.skip ?_
    refine hK1 _ ?_
    refine AWp.seqK fun K2 hK2 => ?_
    refine AWp.regionW ?_
    refine AWp.block ?_
    refine AWp.loopK0 [0, 1] (fun (i : Nat) => [(5, nat i)]) (fun i => i ≤ l.length ∧ sameL (l.take i) (r.take i) = true) (fun i => l.length - i) (0) ?_ ⟨Nat.zero_le _, rfl⟩ ?_
    · skip
      refine Le.m 0 ?_ ?_
      · first | with_reducible rfl | (simp only [push_cast, reduceIte, Nat.reduceEqDiff, Nat.reduceLT, Nat.reduceAdd, Nat.reduceSub, Nat.reduceMul, Nat.reduceLeDiff, Nat.reducePow, Int.reduceLT, Int.reduceToNat, reduceCtorEq, Int.reduceNeg, Int.reduceEq, Nat.reduceBEq, Nat.reduceBNe, Int.reduceBEq, Int.reduceBNe, String.reduceEq]; first | done | rfl | (simp (disch := omega) only [w_nat, w_add, w_addl, w_addr, w_sub, w_subl, w_mul, w_mull, w_mulr, w_u32, w_u16, w_u8, w_u32a, N_zero]; first | done | rfl))
      · first | (simp only [push_cast, reduceIte, Nat.reduceEqDiff, Nat.reduceLT, Nat.reduceAdd, Nat.reduceSub, Nat.reduceMul, Nat.reduceLeDiff, Nat.reducePow, Int.reduceLT, Int.reduceToNat, reduceCtorEq, Int.reduceNeg, Int.reduceEq, Nat.reduceBEq, Nat.reduceBNe, Int.reduceBEq, Int.reduceBNe, String.reduceEq]; first | done | rfl | (simp (disch := omega) only [w_nat, w_add, w_addl, w_addr, w_sub, w_subl, w_mul, w_mull, w_mulr, w_u32, w_u16, w_u8, w_u32a, N_zero]; first | done | rfl))
    · intro i hi K3 hK3
      refine AWp.seqK fun K4 hK4 => ?_
      refine AWp.regionW ?_
      refine AWp.condLM (fun c1 => ?_) (fun c1 => ?_)
      · skip
        have hil : i < l.length := by simpa using c1
        have hir : i < r.length := by omega
        have hm := List.getElem_mem hil
        have hsz := szs_mem hm
        have hse := GNode.sz_eq l[i]
        refine AWp.skip ?_
        refine hK4 _ ?_
        refine AWp.seqK fun K5 hK5 => ?_
        refine AWp.block ?_
        refine AWp.drS [[(0, none)], [(5, none)], [(17, some 0), (18, some 1)], [(19, some 2)], [(20, some 3)], [(1, none)], [(5, none)], [(22, some 5), (23, some 6)], [(24, some 7)], [(25, some 8)], [(21, some 4), (26, some 9)], [(27, some 10)], [(0, none), (28, some 11)], [(5, none), (28, some 11)], [(29, some 12), (30, some 13), (28, some 11)], [(31, some 14), (28, some 11)], [(32, some 15), (28, some 11)], [(1, none), (28, some 11)], [(5, none), (28, some 11)], [(34, some 17), (35, some 18), (28, some 11)], [(36, some 19), (28, some 11)], [(37, some 20), (28, some 11)], [(33, some 16), (38, some 21), (28, some 11)], [(39, some 22), (28, some 11)], [(28, some 11), (40, some 23)], [(41, some 24)], [(0, none), (42, some 25)], [(5, none), (42, some 25)], [(43, some 26), (44, some 27), (42, some 25)], [(45, some 28), (42, some 25)], [(46, some 29), (42, some 25)], [(1, none), (42, some 25)], [(5, none), (42, some 25)], [(48, some 31), (49, some 32), (42, some 25)], [(50, some 33), (42, some 25)], [(51, some 34), (42, some 25)], [(47, some 30), (52, some 35), (42, some 25)], [(53, some 36), (42, some 25)], [(42, some 25), (54, some 37)]] fun G hG => ?_
        refine Dr.sim ?_
        try simp only [List.cons_append, List.nil_append]
        refine Dr.sim ?_
        try simp only [List.cons_append, List.nil_append]
        refine Dr.idx (i) (nodeA false l[i]) ?_ ?_
        · exact nodesA_at _ _ _ hil
        try simp only [List.cons_append, List.nil_append]
        refine Dr.sim ?_
        try simp only [List.cons_append, List.nil_append]
        refine Dr.sim ?_
        try simp only [List.cons_append, List.nil_append]
        refine Dr.sim ?_
        try simp only [List.cons_append, List.nil_append]
        refine Dr.sim ?_
        try simp only [List.cons_append, List.nil_append]
        refine Dr.idx (i) (nodeA false r[i]) ?_ ?_
        · exact nodesA_at _ _ _ hir
        try simp only [List.cons_append, List.nil_append]
        refine Dr.sim ?_
        try simp only [List.cons_append, List.nil_append]
        refine Dr.sim ?_
        try simp only [List.cons_append, List.nil_append]
        refine Dr.sim ?_
        try simp only [List.cons_append, List.nil_append]
        refine Dr.sim ?_
        try simp only [List.cons_append, List.nil_append]
        refine Dr.simg ?_
        try simp only [List.cons_append, List.nil_append]
        refine Dr.simg ?_
        try simp only [List.cons_append, List.nil_append]
        refine Dr.idxg (i) (nodeA false l[i]) ?_ ?_
        · intro g11
          exact nodesA_at _ _ _ hil
        try simp only [List.cons_append, List.nil_append]
        refine Dr.simg ?_
        try simp only [List.cons_append, List.nil_append]
        refine Dr.simg ?_
        try simp only [List.cons_append, List.nil_append]
        refine Dr.simg ?_
        try simp only [List.cons_append, List.nil_append]
        refine Dr.simg ?_
        try simp only [List.cons_append, List.nil_append]
        refine Dr.idxg (i) (nodeA false r[i]) ?_ ?_
        · intro g11
          exact nodesA_at _ _ _ hir
        try simp only [List.cons_append, List.nil_append]
        refine Dr.simg ?_
        try simp only [List.cons_append, List.nil_append]
        refine Dr.simg ?_
        try simp only [List.cons_append, List.nil_append]
        refine Dr.callg (fun g11 => same01_c l[i].data r[i].data (by omega)) ?_
        try simp only [List.cons_append, List.nil_append]
        refine Dr.simg ?_
        try simp only [List.cons_append, List.nil_append]
        refine Dr.sim ?_
        try simp only [List.cons_append, List.nil_append]
        refine Dr.sim ?_
        try simp only [List.cons_append, List.nil_append]
        refine Dr.simg ?_
        try simp only [List.cons_append, List.nil_append]
        refine Dr.simg ?_
        try simp only [List.cons_append, List.nil_append]
        refine Dr.idxg (i) (nodeA false l[i]) ?_ ?_
        · intro g25
          exact nodesA_at _ _ _ hil
        try simp only [List.cons_append, List.nil_append]
        refine Dr.simg ?_
        try simp only [List.cons_append, List.nil_append]
        refine Dr.simg ?_
        try simp only [List.cons_append, List.nil_append]
        refine Dr.simg ?_
        try simp only [List.cons_append, List.nil_append]
        refine Dr.simg ?_
        try simp only [List.cons_append, List.nil_append]
        refine Dr.idxg (i) (nodeA false r[i]) ?_ ?_
        · intro g25
          exact nodesA_at _ _ _ hir
        try simp only [List.cons_append, List.nil_append]
        refine Dr.simg ?_
        try simp only [List.cons_append, List.nil_append]
        refine Dr.simg ?_
        try simp only [List.cons_append, List.nil_append]
        refine Dr.callg (fun g25 => ih l[i] hm r[i]) ?_
        try simp only [List.cons_append, List.nil_append]
        refine Dr.simg ?_
        try simp only [List.cons_append, List.nil_append]
        refine Dr.sim ?_
        try simp only [List.cons_append, List.nil_append]
        refine Dr.finM (n := 39) [(55, 38)] [0, 1, 5] hG YtmcedkcehcacpaaGreatDoor.Facts.mixed fun KD hKD => ?_
        refine ARun2.endm (hKD _ ?_); clear hKD KD hG G
        refine AWp.condLM (fun c2 => ?_) (fun c2 => ?_)
        · skip
          have h5 : sameN l[i] r[i] = false := by rw [sameN_eq]; revert c2; cases h1 : l[i].ty == r[i].ty <;> cases h2 : decide (l[i].data = r[i].data) <;> cases h3 : sameL l[i].kids r[i].kids <;> simp_all
          refine AWp.regionW ?_
          refine AWp.ret ?_
          try simp only [thenQ, blockQ, noGo]
          refine bodyQ.m ?_
          clear hK5 K5 hK4 K4 hK3 K3 hK2 K2 hK1 K1
          rw [sameL_at hil hir h5]
          first | done | exact Hand.go
        · skip
          have h5 : sameN l[i] r[i] = true := by rw [sameN_eq]; revert c2; cases h1 : l[i].ty == r[i].ty <;> cases h2 : decide (l[i].data = r[i].data) <;> cases h3 : sameL l[i].kids r[i].kids <;> simp_all
          refine AWp.skip ?_
          refine hK5 _ ?_
          refine AWp.regionV ?_
          refine hK3 _ (i + 1) (⟨by omega, sameL_take hil hir hi.2 h5⟩) (by omega) ?_
          refine Le.m 0 ?_ ?_
          · first | with_reducible rfl | (simp only [push_cast, reduceIte, Nat.reduceEqDiff, Nat.reduceLT, Nat.reduceAdd, Nat.reduceSub, Nat.reduceMul, Nat.reduceLeDiff, Nat.reducePow, Int.reduceLT, Int.reduceToNat, reduceCtorEq, Int.reduceNeg, Int.reduceEq, Nat.reduceBEq, Nat.reduceBNe, Int.reduceBEq, Int.reduceBNe, String.reduceEq]; first | done | rfl | (simp (disch := omega) only [w_nat, w_add, w_addl, w_addr, w_sub, w_subl, w_mul, w_mull, w_mulr, w_u32, w_u16, w_u8, w_u32a, N_zero]; first | done | rfl))
          · first | (simp only [push_cast, reduceIte, Nat.reduceEqDiff, Nat.reduceLT, Nat.reduceAdd, Nat.reduceSub, Nat.reduceMul, Nat.reduceLeDiff, Nat.reducePow, Int.reduceLT, Int.reduceToNat, reduceCtorEq, Int.reduceNeg, Int.reduceEq, Nat.reduceBEq, Nat.reduceBNe, Int.reduceBEq, Int.reduceBNe, String.reduceEq]; first | done | rfl | (simp (disch := omega) only [w_nat, w_add, w_addl, w_addr, w_sub, w_subl, w_mul, w_mull, w_mulr, w_u32, w_u16, w_u8, w_u32a, N_zero]; first | done | rfl))
      · skip
        have hil : i = l.length := by have := hi.1; simp at c1; omega
        have hs : sameL l r = true := by have := hi.2; rwa [hil, List.take_length, he, List.take_length] at this
        refine AWp.exit ?_
        try simp only [thenQ, blockQ, noGo, reduceIte, Nat.reduceEqDiff]
        refine hK2 _ ?_
        refine AWp.regionW ?_
        refine AWp.ret ?_
        try simp only [thenQ, blockQ, noGo]
        refine bodyQ.m ?_
        clear hK4 K4 hK3 K3 hK2 K2 hK1 K1
        rw [hs]
        first | done | exact Hand.go
theorem same08_w : ∀ (w : Nat) (l r : List GNode), szs l ≤ w → szs l ≤ 2 ^ 40 → PC Tryz.prog 18 [.sl false 3 (nodesA false l), .sl false 3 (nodesA false r)] (bool (sameL l r)) := by
  have kl : ∀ (a : GNode) (l : List GNode), a ∈ l → szs a.kids < szs l := by
    intro a l ha
    have := szs_mem ha; rw [GNode.sz_eq] at this; omega
  intro w
  induction w with
  | zero => exact fun l r hw hs => same08_step l r hs (fun a ha b => by have := kl a l ha; omega)
  | succ w ih => exact fun l r hw hs => same08_step l r hs (fun a ha b => by have := kl a l ha; exact ih _ _ (by omega) (by omega))
theorem same08_c (l r : List GNode) (hs : szs l ≤ 2 ^ 40) : PC Tryz.prog 18 [.sl false 3 (nodesA false l), .sl false 3 (nodesA false r)] (bool (sameL l r)) := same08_w _ l r (Nat.le_refl _) hs
end Go.Proofs.YtmcedkcehcacpaaGreatDoor.C
/- wharflaw08: coded, told, node.Walk (the iterator itself), awake. -/
set_option linter.unusedVariables false
set_option linter.unusedSimpArgs false
namespace Go.Proofs.YtmcedkcehcacpaaGreatDoor.C
open Go.Abs
theorem ifcEq_err (e c : Nat) (hc : c ≠ 0) : ifcEq (errA e) 57 .i64 (N c) = some (e == c) := by
  unfold errA
  by_cases he : e = 0
  · subst he
    have : (0 == c) = false := by simpa using Ne.symm hc
    rw [this]; rfl
  · have h1 : (e == 0) = false := by simpa using he
    rw [h1]
    simp only [cond_false, ifcEq, if_true, Option.some.injEq, N]
    rw [Bool.eq_iff_iff]; simp; omega
theorem coded_c (e c : Nat) : PC Tryz.prog 8 [errA e, nat c] (bool (e == c)) := by
  refine PC.of_bodyW (by simp only [push_cast]) Tryz.func8 rfl (by rw [Tryz.ntmps8]; simp) ?_
  refine AWp.regionW ?_
  refine AWp.seqK fun K1 hK1 => ?_
  refine AWp.regionW ?_
  refine AWp.condLM (fun c0 => ?_) (fun c0 => ?_)
  · skip
    have hc : c = 0 := by simpa using c0
    subst hc
    refine AWp.regionW ?_
    refine AWp.ret ?_
    try simp only [thenQ, blockQ, noGo]
    refine bodyQ.m ?_
    clear hK1 K1
    first | done | exact Hand.go
  · skip
    have hc : c ≠ 0 := by simpa using c0
    refine AWp.skip ?_
    refine hK1 _ ?_
    refine AWp.regionM fun K2 hK2 => ?_
    refine ARun2.ifcEqM (e == c) (ifcEq_err e c hc) ?_
    refine ARun2.endm (hK2 _ ?_)
    refine AWp.ret ?_
    try simp only [thenQ, blockQ, noGo]
    refine bodyQ.m ?_
    clear hK2 K2 hK1 K1
    first | done | exact Hand.go
def toldN (e : Er) (c i : Nat) : Bool := bif c == 0 then e.isOk else (e.codeOf.2 && e.codeOf.1 == c && e.atOf.2 && e.atOf.1 == i)
theorem told_c (e : Er) (c i : Nat) : PC Tryz.prog 20 [erA e, nat c, nat i] (bool (toldN e c i)) := by
  have hT : toldN e c i = toldN e c i := rfl
  conv at hT => rhs; unfold toldN
  generalize toldN e c i = T at hT
  have h1 := code_c e
  have h2 := at_c e
  generalize e.codeOf.1 = x at h1 hT
  generalize e.codeOf.2 = y at h1 hT
  generalize e.atOf.1 = u at h2 hT
  generalize e.atOf.2 = v at h2 hT
  refine PC.of_bodyW (by simp only [push_cast]) Tryz.func20 rfl (by rw [Tryz.ntmps20]; simp) ?_
  refine AWp.regionW ?_
  refine AWp.seqK fun K1 hK1 => ?_
  refine AWp.regionW ?_
  refine AWp.condLM (fun c0 => ?_) (fun c0 => ?_)
  · skip
    have hc : (c == 0) = true := by simpa using c0
    rw [hc] at hT
    refine AWp.regionW ?_
    refine AWp.ret ?_
    try simp only [thenQ, blockQ, noGo]
    refine bodyQ.m ?_
    clear hK1 K1
    subst hT; simp only [cond_true, cond_false]
    first | done | exact Hand.go
  · skip
    have hc : (c == 0) = false := by simpa using c0
    rw [hc] at hT
    refine AWp.skip ?_
    refine hK1 _ ?_
    refine AWp.regionM fun K2 hK2 => ?_
    refine ARun2.callM (h1) ?_
    refine ARun2.endm (hK2 _ ?_)
    refine AWp.regionM fun K3 hK3 => ?_
    refine ARun2.callM (h2) ?_
    refine ARun2.endm (hK3 _ ?_)
    refine AWp.regionA fun K4 hK4 => ?_
    refine ARun.segm 2 fun KS hKS => ?_
    refine ARun2.endm (hKS _ ?_); clear hKS KS
    apply ARun.grpM 3 1 true 29 [2, 9, 10, 26]
    · intro g1 KG hKG
      refine ARun2.gom ?_
      exact ARun2.endm (hKG _ Le.grpM)
    refine ARun.segm 2 fun KS hKS => ?_
    refine ARun2.endm (hKS _ ?_); clear hKS KS
    apply ARun.grpM 1 6 true 32 [2, 9, 31]
    · intro g6 KG hKG
      refine ARun2.gom ?_
      exact ARun2.endm (hKG _ Le.grpM)
    refine ARun.segm 2 fun KS hKS => ?_
    refine ARun2.endm (hKS _ ?_); clear hKS KS
    apply ARun.grpM 3 9 true 37 [34]
    · intro g9 KG hKG
      refine ARun2.gom ?_
      exact ARun2.endm (hKG _ Le.grpM)
    refine ARun2.gom ?_
    refine ARun2.endm (hK4 _ ?_)
    refine AWp.ret ?_
    try simp only [thenQ, blockQ, noGo]
    refine bodyQ.m ?_
    clear hK4 K4 hK3 K3 hK2 K2 hK1 K1
    subst hT; simp only [cond_true, cond_false]
    first | done | exact Hand.go
theorem nwalk_c (l : List GNode) : PC Tryz.prog 23 [.sl false 3 (nodesA false l)] (.fn (.func 43) [] [.ref true (.agg [.sl false 3 (nodesA false l)])]) := by
  refine PC.of_body (by simp only [push_cast]) Tryz.func23 rfl (by rw [Tryz.ntmps23]; simp) ?_
  refine AWp.regionW ?_
  refine AWp.regionW ?_
  refine AWp.pubBox 0 rfl (Nat.le_refl _) rfl (by simp) ?_
  simp only [push_cast, reduceIte, Nat.reduceEqDiff, Nat.reduceLT, Nat.reduceAdd, Nat.reduceSub, Nat.reduceMul, Nat.reduceLeDiff, Nat.reducePow, Int.reduceLT, Int.reduceToNat, reduceCtorEq, Int.reduceNeg, Int.reduceEq, Nat.reduceBEq, Nat.reduceBNe, Int.reduceBEq, Int.reduceBNe, String.reduceEq]
  refine AWp.ret ?_
  try simp only [thenQ, blockQ, noGo]
  refine bodyQ.m ?_
  rfl
theorem awake08_c : PC Tryz.prog 5 [] (bool true) := by
  have e1 : PC Tryz.prog 12 [nat 1, .sl false 3 (nodesA false [.mk 8 [] [.mk 32768 [] []]])] (.tup [.sl true 1 (bys [0, 8, 0, 8, 128, 0, 0, 4]), .val .nilIface]) := encode_c 1 [.mk 8 [] [.mk 32768 [] []]] (.inl rfl) (by decide) (by decide)
  have e2 : PC Tryz.prog 15 [nat 1, .sl false 1 (bys [0, 8, 0, 8, 128, 0, 0, 4])] (.tup [.sl false 3 (nodesA false [.mk 8 [] [.mk 32768 [] []]]), .val .nilIface]) := by
    have h := parse_c 1 [0, 8, 0, 8, 128, 0, 0, 4] (.inl rfl) (by decide)
    have p : parseF 4 1 [0, 8, 0, 8, 128, 0, 0, 4] 0 = ([.mk 8 [] [.mk 32768 [] []]], .ok) := by kernel_rfl
    rw [p] at h
    exact h
  have e3 : PC Tryz.prog 15 [nat 1, .sl false 1 [u8 0, u8 8, u8 0, u8 4]] (.tup [.sl false 3 [], erA (.flt 7 0)]) := by
    have h := parse_c 1 [0, 8, 0, 4] (.inl rfl) (by decide)
    have p : parseF 4 1 [0, 8, 0, 4] 0 = ([], .flt 7 0) := by kernel_rfl
    rw [p] at h
    exact h
  have e4 : PC Tryz.prog 16 [.sl false 1 (bys [0, 8, 0, 8, 128, 0, 0, 4]), .sl false 1 [u8 0, u8 8, u8 0, u8 8, u8 128, u8 0, u8 0, u8 4]] (bool true) := same01_c [0, 8, 0, 8, 128, 0, 0, 4] [0, 8, 0, 8, 128, 0, 0, 4] (by decide)
  have e5 : PC Tryz.prog 21 [nodeA false (.mk 8 [] [.mk 32768 [] []]), nodeA false (.mk 8 [] [.mk 32768 [] []])] (bool true) := same_c (.mk 8 [] [.mk 32768 [] []]) (.mk 8 [] [.mk 32768 [] []]) (by decide)
  have e6 : PC Tryz.prog 20 [erA (.flt 7 0), nat 7, nat 0] (bool true) := told_c (.flt 7 0) 7 0
  have e7 : PC Tryz.prog 9 [nat 1, nodeA false (.mk 8 [] [.mk 32768 [] []])] (.val .nilIface) := check_c 1 (.mk 8 [] [.mk 32768 [] []]) (.inl rfl) (by decide)
  have e8 : PC Tryz.prog 9 [nat 1, nodeA false (.mk 5 [] [])] (errA 7) := check_c 1 (.mk 5 [] []) (.inl rfl) (by decide)
  have e9 : PC Tryz.prog 8 [errA 7, nat 7] (bool true) := coded_c 7 7
  have e10 : PC Tryz.prog 13 [.sl false 3 (nodesA false [.mk 8 [] [.mk 32768 [] []]])] (nat 8) := size_c [.mk 8 [] [.mk 32768 [] []]] (by decide)
  have e11 : PC Tryz.prog 22 [nodeA false (.mk 8 [] [.mk 32768 [] []])] (nodeA false (.mk 8 [] [.mk 32768 [] []])) := nclone_c _ (by decide)
  have e12 := nwalk_c [.mk 8 [] [.mk 32768 [] []]]
  refine PC.of_bodyW (by simp only [push_cast]) Tryz.func5 rfl (by rw [Tryz.ntmps5]; simp) ?_
  refine AWp.regionW ?_
  refine AWp.regionW ?_
  refine AWp.regionM fun K1 hK1 => ?_
  refine ARun2.callM (e1) ?_
  refine ARun2.endm (hK1 _ ?_)
  refine AWp.regionM fun K2 hK2 => ?_
  refine ARun2.callM (e2) ?_
  refine ARun2.endm (hK2 _ ?_)
  refine AWp.regionM fun K3 hK3 => ?_
  refine ARun2.callM (e3) ?_
  refine ARun2.endm (hK3 _ ?_)
  refine AWp.seqK fun K4 hK4 => ?_
  refine AWp.regionW ?_
  refine AWp.condF ?_
  refine AWp.skip ?_
  refine hK4 _ ?_
  refine AWp.drS [[(2, none)], [], [(30, some 0), (31, some 1)], [(32, some 2)], [(3, none), (33, some 3)], [(34, some 4), (33, some 3)], [(33, some 3), (35, some 5)], [(36, some 6)], [(5, none), (37, some 7)], [(38, some 8), (37, some 7)], [(37, some 7), (39, some 9)], [(40, some 10)], [(4, none), (41, some 11)], [(42, some 12), (41, some 11)], [(43, some 13), (41, some 11)], [(1, none), (41, some 11)], [(44, some 14), (45, some 15), (41, some 11)], [(41, some 11), (46, some 16)], [(47, some 17)], [(7, none), (48, some 18)], [(49, some 19), (48, some 18)], [(48, some 18), (50, some 20)], [(51, some 21)], [(1, none), (52, some 22)], [(53, some 23), (52, some 22)], [(54, some 24), (52, some 22)], [(52, some 22), (55, some 25)], [(56, some 26)], [(57, some 27)], [(58, some 28), (57, some 27)], [(59, some 29), (57, some 27)], [(57, some 27), (60, some 30)], [(61, some 31)], [(1, none), (62, some 32)], [(63, some 33), (62, some 32)], [(64, some 34), (62, some 32)], [(65, some 35), (62, some 32)], [(62, some 32), (66, some 36)], [(67, some 37)], [(1, none), (68, some 38)], [(69, some 39), (68, some 38)], [(1, none), (68, some 38)], [(70, some 40), (71, some 41), (68, some 38)], [(68, some 38), (72, some 42)], [(73, some 43)], [(1, none), (74, some 44)], [(75, some 45), (74, some 44)], [(76, some 46), (74, some 44)], [(77, some 47), (74, some 44)], [(74, some 44), (78, some 48)], [(79, some 49)]] fun G hG => ?_
  refine Dr.sim ?_
  try simp only [List.cons_append, List.nil_append]
  refine Dr.build ?_
  try simp only [List.cons_append, List.nil_append]
  refine Dr.call (e4) ?_
  try simp only [List.cons_append, List.nil_append]
  refine Dr.sim ?_
  try simp only [List.cons_append, List.nil_append]
  refine Dr.sim ?_
  try simp only [List.cons_append, List.nil_append]
  refine Dr.sim ?_
  try simp only [List.cons_append, List.nil_append]
  refine Dr.sim ?_
  try simp only [List.cons_append, List.nil_append]
  refine Dr.sim ?_
  try simp only [List.cons_append, List.nil_append]
  refine Dr.sim ?_
  try simp only [List.cons_append, List.nil_append]
  refine Dr.sim ?_
  try simp only [List.cons_append, List.nil_append]
  refine Dr.sim ?_
  try simp only [List.cons_append, List.nil_append]
  refine Dr.sim ?_
  try simp only [List.cons_append, List.nil_append]
  refine Dr.sim ?_
  try simp only [List.cons_append, List.nil_append]
  refine Dr.idx (0) (nodeA false (.mk 8 [] [.mk 32768 [] []])) ?_ ?_
  · exact rfl
  try simp only [List.cons_append, List.nil_append]
  refine Dr.sim ?_
  try simp only [List.cons_append, List.nil_append]
  refine Dr.sim ?_
  try simp only [List.cons_append, List.nil_append]
  refine Dr.call (e5) ?_
  try simp only [List.cons_append, List.nil_append]
  refine Dr.sim ?_
  try simp only [List.cons_append, List.nil_append]
  refine Dr.sim ?_
  try simp only [List.cons_append, List.nil_append]
  refine Dr.sim ?_
  try simp only [List.cons_append, List.nil_append]
  refine Dr.call (e6) ?_
  try simp only [List.cons_append, List.nil_append]
  refine Dr.sim ?_
  try simp only [List.cons_append, List.nil_append]
  refine Dr.sim ?_
  try simp only [List.cons_append, List.nil_append]
  refine Dr.sim ?_
  try simp only [List.cons_append, List.nil_append]
  refine Dr.call (e7) ?_
  try simp only [List.cons_append, List.nil_append]
  refine Dr.sim ?_
  try simp only [List.cons_append, List.nil_append]
  refine Dr.sim ?_
  try simp only [List.cons_append, List.nil_append]
  refine Dr.sim ?_
  try simp only [List.cons_append, List.nil_append]
  refine Dr.sim ?_
  try simp only [List.cons_append, List.nil_append]
  refine Dr.call (e8) ?_
  try simp only [List.cons_append, List.nil_append]
  refine Dr.call (e9) ?_
  try simp only [List.cons_append, List.nil_append]
  refine Dr.sim ?_
  try simp only [List.cons_append, List.nil_append]
  refine Dr.sim ?_
  try simp only [List.cons_append, List.nil_append]
  refine Dr.sim ?_
  try simp only [List.cons_append, List.nil_append]
  refine Dr.build ?_
  try simp only [List.cons_append, List.nil_append]
  refine Dr.call (e10) ?_
  try simp only [List.cons_append, List.nil_append]
  refine Dr.sim ?_
  try simp only [List.cons_append, List.nil_append]
  refine Dr.sim ?_
  try simp only [List.cons_append, List.nil_append]
  refine Dr.sim ?_
  try simp only [List.cons_append, List.nil_append]
  refine Dr.sim ?_
  try simp only [List.cons_append, List.nil_append]
  refine Dr.call (e11) ?_
  try simp only [List.cons_append, List.nil_append]
  refine Dr.sim ?_
  try simp only [List.cons_append, List.nil_append]
  refine Dr.call (e5) ?_
  try simp only [List.cons_append, List.nil_append]
  refine Dr.sim ?_
  try simp only [List.cons_append, List.nil_append]
  refine Dr.sim ?_
  try simp only [List.cons_append, List.nil_append]
  refine Dr.sim ?_
  try simp only [List.cons_append, List.nil_append]
  refine Dr.build ?_
  try simp only [List.cons_append, List.nil_append]
  refine Dr.call (e12) ?_
  try simp only [List.cons_append, List.nil_append]
  refine Dr.sim ?_
  try simp only [List.cons_append, List.nil_append]
  refine Dr.sim ?_
  try simp only [List.cons_append, List.nil_append]
  refine Dr.sim ?_
  try simp only [List.cons_append, List.nil_append]
  refine Dr.finM (n := 51) [(0, 50)] [] hG YtmcedkcehcacpaaGreatDoor.Facts.mixed fun KD hKD => ?_
  refine ARun2.endm (hKD _ ?_); clear hKD KD hG G
  refine AWp.ret ?_
  try simp only [thenQ, blockQ, noGo]
  refine bodyQ.m ?_
  clear hK4 K4 hK3 K3 hK2 K2 hK1 K1
  first | done | exact Hand.go
end Go.Proofs.YtmcedkcehcacpaaGreatDoor.C
/- Plain laws on causes. -/
set_option linter.unusedVariables false
set_option linter.unusedSimpArgs false
namespace Go.Proofs.YtmcedkcehcacpaaGreatDoor.C
open Go.Abs
end Go.Proofs.YtmcedkcehcacpaaGreatDoor.C
/- The reference: Gap, Number, Counted, Inside, Fits, wanted, Table, Of. -/
set_option linter.unusedVariables false
set_option linter.unusedSimpArgs false
namespace Go.Proofs.YtmcedkcehcacpaaGreatDoor.C
open Go.Abs
theorem gap03_c (n : Nat) (h : n < 2 ^ 60) : PC Tryz.prog 34 [nat n] (nat (gapN n)) := by
  refine PC.of_bodyW (by simp only [push_cast]) Tryz.func34 rfl (by rw [Tryz.ntmps34]; simp) ?_
  refine AWp.regionW ?_
  refine AWp.regionW ?_
  refine AWp.seqK fun K1 hK1 => ?_
  refine AWp.block ?_
  refine AWp.loopK0 [0] (fun (i : Nat) => [(3, nat i)]) (fun i => i ≤ gapN n ∧ i ≤ 3) (fun i => gapN n - i) (0) ?_ ⟨Nat.zero_le _, by omega⟩ ?_
  · skip
    refine Le.m 0 ?_ ?_
    · first | with_reducible rfl | (simp only [push_cast, reduceIte, Nat.reduceEqDiff, Nat.reduceLT, Nat.reduceAdd, Nat.reduceSub, Nat.reduceMul, Nat.reduceLeDiff, Nat.reducePow, Int.reduceLT, Int.reduceToNat, reduceCtorEq, Int.reduceNeg, Int.reduceEq, Nat.reduceBEq, Nat.reduceBNe, Int.reduceBEq, Int.reduceBNe, String.reduceEq]; first | done | rfl | (simp (disch := omega) only [w_nat, w_add, w_addl, w_addr, w_sub, w_subl, w_mul, w_mull, w_mulr, w_u32, w_u16, w_u8, w_u32a, N_zero]; first | done | rfl))
    · first | (simp only [push_cast, reduceIte, Nat.reduceEqDiff, Nat.reduceLT, Nat.reduceAdd, Nat.reduceSub, Nat.reduceMul, Nat.reduceLeDiff, Nat.reducePow, Int.reduceLT, Int.reduceToNat, reduceCtorEq, Int.reduceNeg, Int.reduceEq, Nat.reduceBEq, Nat.reduceBNe, Int.reduceBEq, Int.reduceBNe, String.reduceEq]; first | done | rfl | (simp (disch := omega) only [w_nat, w_add, w_addl, w_addr, w_sub, w_subl, w_mul, w_mull, w_mulr, w_u32, w_u16, w_u8, w_u32a, N_zero]; first | done | rfl))
  · intro i hi K2 hK2
    refine AWp.seqK fun K3 hK3 => ?_
    refine AWp.regionW ?_
    refine AWp.condLM (fun c0 => ?_) (fun c0 => ?_)
    · skip
      have h0 : i < gapN n := by have := hi.1; simp at c0; unfold gapN at *; omega
      refine AWp.skip ?_
      refine hK3 _ ?_
      refine AWp.block ?_
      refine AWp.regionV ?_
      refine hK2 _ (i + 1) (⟨h0, by have := gapN_le n; omega⟩) (by omega) ?_
      refine Le.m 0 ?_ ?_
      · first | with_reducible rfl | (simp only [push_cast, reduceIte, Nat.reduceEqDiff, Nat.reduceLT, Nat.reduceAdd, Nat.reduceSub, Nat.reduceMul, Nat.reduceLeDiff, Nat.reducePow, Int.reduceLT, Int.reduceToNat, reduceCtorEq, Int.reduceNeg, Int.reduceEq, Nat.reduceBEq, Nat.reduceBNe, Int.reduceBEq, Int.reduceBNe, String.reduceEq]; first | done | rfl | (simp (disch := omega) only [w_nat, w_add, w_addl, w_addr, w_sub, w_subl, w_mul, w_mull, w_mulr, w_u32, w_u16, w_u8, w_u32a, N_zero]; first | done | rfl))
      · first | (simp only [push_cast, reduceIte, Nat.reduceEqDiff, Nat.reduceLT, Nat.reduceAdd, Nat.reduceSub, Nat.reduceMul, Nat.reduceLeDiff, Nat.reducePow, Int.reduceLT, Int.reduceToNat, reduceCtorEq, Int.reduceNeg, Int.reduceEq, Nat.reduceBEq, Nat.reduceBNe, Int.reduceBEq, Int.reduceBNe, String.reduceEq]; first | done | rfl | (simp (disch := omega) only [w_nat, w_add, w_addl, w_addr, w_sub, w_subl, w_mul, w_mull, w_mulr, w_u32, w_u16, w_u8, w_u32a, N_zero]; first | done | rfl))
    · skip
      have h0 : i = gapN n := by have := hi.1; simp at c0; unfold gapN at *; omega
      refine AWp.exit ?_
      try simp only [thenQ, blockQ, noGo, reduceIte, Nat.reduceEqDiff]
      refine hK1 _ ?_
      refine AWp.regionW ?_
      refine AWp.ret ?_
      try simp only [thenQ, blockQ, noGo]
      refine bodyQ.m ?_
      clear hK3 K3 hK2 K2 hK1 K1
      rw [h0]
      first | done | exact Hand.go
theorem right01_c (k : Nat) : PC Tryz.prog 65 [nat k] (bool (k == 1 || k == 2 || k == 4)) := by
  refine PC.of_bodyW (by simp only [push_cast]) Tryz.func65 rfl (by rw [Tryz.ntmps65]; simp) ?_
  refine AWp.regionW ?_
  refine AWp.regionA fun K1 hK1 => ?_
  refine ARun.segm 3 fun KS hKS => ?_
  refine ARun2.endm (hKS _ ?_); clear hKS KS
  apply ARun.grpM 2 2 false 7 [0, 5]
  · intro g2 KG hKG
    refine ARun2.gom ?_
    exact ARun2.endm (hKG _ Le.grpM)
  refine ARun.segm 2 fun KS hKS => ?_
  refine ARun2.endm (hKS _ ?_); clear hKS KS
  apply ARun.grpM 2 6 false 11 [9]
  · intro g6 KG hKG
    refine ARun2.gom ?_
    exact ARun2.endm (hKG _ Le.grpM)
  refine ARun2.gom ?_
  refine ARun2.endm (hK1 _ ?_)
  refine AWp.ret ?_
  try simp only [thenQ, blockQ, noGo]
  refine bodyQ.m ?_
  clear hK1 K1
  simp only [Bool.or_assoc]
  first | done | exact Hand.go
theorem mul8 {x : Nat} {b : UInt8} (h : x < 2 ^ 24) : IntKind.u32.wrap (IntKind.u32.wrap (N x * 256) + N b.toNat) = N (x * 256 + b.toNat) := by
  have := b.toNat_lt
  rw [IntKind.wrap_u32, IntKind.wrap_u32]; unfold N; omega
theorem number01_c (k : Nat) (l : List UInt8) (i : Nat) (hk : k = 1 ∨ k = 2 ∨ k = 4) (hl : l.length ≤ 2 ^ 40) (hi : i ≤ 2 ^ 40) :
    PC Tryz.prog 51 [.sl false 1 (bys l), nat i, nat k] (.tup [u32 (peekN k l i), bool (decide (i + k ≤ l.length))]) := by
  have hr : (k == 1 || k == 2 || k == 4) = true := by rcases hk with rfl | rfl | rfl <;> rfl
  refine PC.of_bodyW (by simp only [push_cast]) Tryz.func51 rfl (by rw [Tryz.ntmps51]; simp) ?_
  refine AWp.regionW ?_
  refine AWp.seqK fun K1 hK1 => ?_
  refine AWp.regionM fun K2 hK2 => ?_
  refine ARun2.callM (hr ▸ right01_c k) ?_
  refine ARun2.endm (hK2 _ ?_)
  refine AWp.condLM (fun c0 => ?_) (fun c0 => ?_)
  · skip
    have h0 : ¬ i + k ≤ l.length := by simpa using c0
    have e : peekN k l i = 0 := if_neg h0
    have e2 : decide (i + k ≤ l.length) = false := decide_eq_false h0
    refine AWp.regionW ?_
    refine AWp.ret ?_
    try simp only [thenQ, blockQ, noGo]
    refine bodyQ.m ?_
    clear hK2 K2 hK1 K1
    rw [e, e2]
    first | done | exact Hand.go
  · skip
    have h0 : i + k ≤ l.length := by simpa using c0
    have e : peekN k l i = beN ((l.drop i).take k) := if_pos h0
    have e2 : decide (i + k ≤ l.length) = true := decide_eq_true h0
    refine AWp.skip ?_
    refine hK1 _ ?_
    refine AWp.regionW ?_
    refine AWp.seqK fun K3 hK3 => ?_
    refine AWp.regionW ?_
    refine AWp.block ?_
    refine AWp.loopK0 [0, 1, 2] (fun (j : Nat) => [(9, nat j), (8, u32 (beN ((l.drop i).take j)))]) (fun j => j ≤ k) (fun j => k - j) (0) ?_ (Nat.zero_le _) ?_
    · skip
      refine Le.m 0 ?_ ?_
      · first | with_reducible rfl | (simp only [push_cast, reduceIte, Nat.reduceEqDiff, Nat.reduceLT, Nat.reduceAdd, Nat.reduceSub, Nat.reduceMul, Nat.reduceLeDiff, Nat.reducePow, Int.reduceLT, Int.reduceToNat, reduceCtorEq, Int.reduceNeg, Int.reduceEq, Nat.reduceBEq, Nat.reduceBNe, Int.reduceBEq, Int.reduceBNe, String.reduceEq]; first | done | rfl | (simp (disch := omega) only [w_nat, w_add, w_addl, w_addr, w_sub, w_subl, w_mul, w_mull, w_mulr, w_u32, w_u16, w_u8, w_u32a, N_zero]; first | done | rfl))
      · first | (simp only [push_cast, reduceIte, Nat.reduceEqDiff, Nat.reduceLT, Nat.reduceAdd, Nat.reduceSub, Nat.reduceMul, Nat.reduceLeDiff, Nat.reducePow, Int.reduceLT, Int.reduceToNat, reduceCtorEq, Int.reduceNeg, Int.reduceEq, Nat.reduceBEq, Nat.reduceBNe, Int.reduceBEq, Int.reduceBNe, String.reduceEq]; first | done | rfl | (simp (disch := omega) only [w_nat, w_add, w_addl, w_addr, w_sub, w_subl, w_mul, w_mull, w_mulr, w_u32, w_u16, w_u8, w_u32a, N_zero]; first | done | rfl))
    · intro j hj K4 hK4
      refine AWp.seqK fun K5 hK5 => ?_
      refine AWp.regionW ?_
      refine AWp.condLM (fun c1 => ?_) (fun c1 => ?_)
      · skip
        have hjk : j < k := by simpa using c1
        have hlt : i + j < l.length := by omega
        have hjd : j < (l.drop i).length := by rw [List.length_drop]; omega
        have hx : beN ((l.drop i).take j) < 2 ^ 24 := Nat.lt_of_lt_of_le (beN_lt2 _ 3 (Nat.le_trans (List.length_take_le _ _) (by omega))) (by decide)
        have hs : beN ((l.drop i).take (j + 1)) = beN ((l.drop i).take j) * 256 + l[i + j].toNat := by
          rw [List.take_succ_eq_append_getElem hjd, beN_snoc, List.getElem_drop]
        refine AWp.skip ?_
        refine hK5 _ ?_
        refine AWp.seqK fun K6 hK6 => ?_
        refine AWp.block ?_
        refine AWp.regionN fun K7 hK7 => ?_
        refine ARun2.indexM (i + j) (.val (.int .u8 (N l[i + j].toNat))) ?_ ?_
        · exact bys_at _ _ hlt
        refine ARun2.endm (hK7 _ ?_)
        refine hK6 _ ?_
        refine AWp.regionV ?_
        refine hK4 _ (j + 1) (by omega) (by omega) ?_
        refine Le.m 0 ?_ ?_
        · first | with_reducible rfl | (simp only [push_cast, reduceIte, Nat.reduceEqDiff, Nat.reduceLT, Nat.reduceAdd, Nat.reduceSub, Nat.reduceMul, Nat.reduceLeDiff, Nat.reducePow, Int.reduceLT, Int.reduceToNat, reduceCtorEq, Int.reduceNeg, Int.reduceEq, Nat.reduceBEq, Nat.reduceBNe, Int.reduceBEq, Int.reduceBNe, String.reduceEq]; first | done | rfl | (simp (disch := omega) only [w_nat, w_add, w_addl, w_addr, w_sub, w_subl, w_mul, w_mull, w_mulr, w_u32, w_u16, w_u8, w_u32a, N_zero]; first | done | rfl))
        · simp only [push_cast, reduceIte, Nat.reduceEqDiff, Nat.reduceLT, Nat.reduceAdd, Nat.reduceSub, Nat.reduceMul, Nat.reduceLeDiff, Nat.reducePow, Int.reduceLT, Int.reduceToNat, reduceCtorEq, Int.reduceNeg, Int.reduceEq, Nat.reduceBEq, Nat.reduceBNe, Int.reduceBEq, Int.reduceBNe, String.reduceEq]
          try simp (disch := omega) only [w_nat, w_add, w_addl, w_addr, w_sub, w_subl, w_mul, w_mull, w_mulr, w_u32, w_u16, w_u8, w_u32a, N_zero]
          rw [mul8 hx, hs]
      · skip
        have hjk : j = k := by simp at c1; omega
        subst hjk
        refine AWp.exit ?_
        try simp only [thenQ, blockQ, noGo, reduceIte, Nat.reduceEqDiff]
        refine hK3 _ ?_
        refine AWp.regionW ?_
        refine AWp.ret ?_
        try simp only [thenQ, blockQ, noGo]
        refine bodyQ.m ?_
        clear hK5 K5 hK4 K4 hK3 K3 hK2 K2 hK1 K1
        rw [e, e2]
        first | done | exact Hand.go
/-- is the number in the data right? -/
def countedR (d : List UInt8) : Bool := decide (4 ≤ d.length ∧ 2 * peekN 4 d 0 = d.length - 4)
theorem counted08_c (d : List UInt8) (hl : d.length ≤ 2 ^ 40) : PC Tryz.prog 29 [.sl false 1 (bys d)] (bool (countedR d)) := by
  have hp := peekN_lt 4 d 0 (by omega)
  have hc : (N (2 * peekN 4 d 0) == IntKind.i64.wrap (N d.length - 4)) = countedR d := by
    unfold countedR
    rw [IntKind.wrap_i64, Bool.eq_iff_iff, beq_iff_eq, decide_eq_true_iff]
    unfold N; omega
  refine PC.of_bodyW (by simp only [push_cast]) Tryz.func29 rfl (by rw [Tryz.ntmps29]; simp) ?_
  refine AWp.regionW ?_
  refine AWp.regionM fun K1 hK1 => ?_
  refine ARun2.callM (number01_c 4 d 0 (by omega) hl (by omega)) ?_
  refine ARun2.endm (hK1 _ ?_)
  refine AWp.regionW ?_
  refine AWp.ret ?_
  try simp only [thenQ, blockQ, noGo]
  refine bodyQ.m ?_
  clear hK1 K1
  rw [hc]
  first | done | exact Hand.go
theorem inside08_c (k : Nat) (hk : k ≤ 4) : PC Tryz.prog 30 [nat k] (nat (insideN k).1) := by
  have hq : (insideN k).1 = if k = 3 then 2 else if k = 0 then 0 else 1 := by
    have h : k = 0 ∨ k = 1 ∨ k = 2 ∨ k = 3 ∨ k = 4 := by omega
    rcases h with rfl | rfl | rfl | rfl | rfl <;> rfl
  refine PC.of_bodyW (by simp only [push_cast]) Tryz.func30 rfl (by rw [Tryz.ntmps30]; simp) ?_
  refine AWp.regionW ?_
  refine AWp.seqK fun K1 hK1 => ?_
  refine AWp.regionW ?_
  refine AWp.condLM (fun c0 => ?_) (fun c0 => ?_)
  · skip
    refine AWp.regionW ?_
    refine AWp.ret ?_
    try simp only [thenQ, blockQ, noGo]
    refine bodyQ.m ?_
    clear hK1 K1
    rw [hq, if_pos (by simpa using c0)]
    first | done | exact Hand.go
  · skip
    refine AWp.skip ?_
    refine hK1 _ ?_
    refine AWp.seqK fun K2 hK2 => ?_
    refine AWp.regionW ?_
    refine AWp.condLM (fun c1 => ?_) (fun c1 => ?_)
    · skip
      refine AWp.regionW ?_
      refine AWp.ret ?_
      try simp only [thenQ, blockQ, noGo]
      refine bodyQ.m ?_
      clear hK2 K2 hK1 K1
      rw [hq, if_neg (by simpa using c0), if_pos (by simpa using c1)]
      first | done | exact Hand.go
    · skip
      refine AWp.skip ?_
      refine hK2 _ ?_
      refine AWp.regionW ?_
      refine AWp.ret ?_
      try simp only [thenQ, blockQ, noGo]
      refine bodyQ.m ?_
      clear hK2 K2 hK1 K1
      rw [hq, if_neg (by simpa using c0), if_neg (by simpa using c1)]
      first | done | exact Hand.go
theorem fits07_c (f : ShForm) (n : Nat) (hn : n < 2 ^ 40) (hl : f.least < 2 ^ 40) (hm : f.most < 2 ^ 40) (hu : 0 < f.unit) (hu2 : f.unit < 2 ^ 40) : PC Tryz.prog 27 [formA f, nat n] (bool (fitsN f n)) := by
  refine PC.of_bodyW (by simp only [push_cast]) Tryz.func27 rfl (by rw [Tryz.ntmps27]; simp) ?_
  refine AWp.regionW ?_
  refine AWp.seqK fun K1 hK1 => ?_
  refine AWp.regionW ?_
  refine AWp.block ?_
  refine AWp.loopK [1, 2] (fun (i : Nat) => [(5, nat (f.least + i * f.unit))]) (fun i => [.box 60 [nat f.cls, u16 f.ty, .val (.string f.name), nat f.least, nat f.most, nat f.unit, nat f.kids]]) (fun i => ∀ j, j < i → f.least + j * f.unit ≠ n) (fun i => f.most + 1 - (f.least + i * f.unit)) (0) ?_ (fun j h => by omega) ?_
  · skip
    refine Le.m 1 ?_ ?_
    · first | with_reducible rfl | (simp only [push_cast, reduceIte, Nat.reduceEqDiff, Nat.reduceLT, Nat.reduceAdd, Nat.reduceSub, Nat.reduceMul, Nat.reduceLeDiff, Nat.reducePow, Int.reduceLT, Int.reduceToNat, reduceCtorEq, Int.reduceNeg, Int.reduceEq, Nat.reduceBEq, Nat.reduceBNe, Int.reduceBEq, Int.reduceBNe, String.reduceEq]; first | done | rfl | (simp (disch := omega) only [w_nat, w_add, w_addl, w_addr, w_sub, w_subl, w_mul, w_mull, w_mulr, w_u32, w_u16, w_u8, w_u32a, N_zero]; first | done | rfl))
    · simp only [push_cast, reduceIte, Nat.reduceEqDiff, Nat.reduceLT, Nat.reduceAdd, Nat.reduceSub, Nat.reduceMul, Nat.reduceLeDiff, Nat.reducePow, Int.reduceLT, Int.reduceToNat, reduceCtorEq, Int.reduceNeg, Int.reduceEq, Nat.reduceBEq, Nat.reduceBNe, Int.reduceBEq, Int.reduceBNe, String.reduceEq]
      try simp (disch := omega) only [w_nat, w_add, w_addl, w_addr, w_sub, w_subl, w_mul, w_mull, w_mulr, w_u32, w_u16, w_u8, w_u32a, N_zero]
      simp only [Nat.zero_mul, Nat.add_zero]
  · intro i hi K2 hK2
    refine AWp.seqK fun K3 hK3 => ?_
    refine AWp.regionW ?_
    refine AWp.condLM (fun c0 => ?_) (fun c0 => ?_)
    · skip
      have h0 : f.least + i * f.unit ≤ f.most := by simpa using c0
      have hs : (i + 1) * f.unit = i * f.unit + f.unit := by rw [Nat.add_mul, Nat.one_mul]
      refine AWp.skip ?_
      refine hK3 _ ?_
      refine AWp.seqK fun K4 hK4 => ?_
      refine AWp.block ?_
      refine AWp.regionW ?_
      refine AWp.condLM (fun c1 => ?_) (fun c1 => ?_)
      · skip
        have h1 : f.least + i * f.unit = n := by simpa using c1
        have hf : fitsN f n = true := by
          have e : n - f.least = i * f.unit := by omega
          unfold fitsN
          rw [e, Nat.mul_mod_left]
          simp
          omega
        refine AWp.regionW ?_
        refine AWp.ret ?_
        try simp only [thenQ, blockQ, noGo]
        refine bodyQ.m ?_
        clear hK4 K4 hK3 K3 hK2 K2 hK1 K1
        rw [hf]
        first | done | exact Hand.go
      · skip
        have h1 : f.least + i * f.unit ≠ n := by simpa using c1
        refine AWp.skip ?_
        refine hK4 _ ?_
        refine AWp.regionV ?_
        refine hK2 _ (i + 1) ((fun j hj => (Nat.lt_or_ge j i).elim (fun h => hi j h) (fun h => (show j = i by omega) ▸ h1))) (by omega) ?_
        refine Le.m 1 ?_ ?_
        · first | with_reducible rfl | (simp only [push_cast, reduceIte, Nat.reduceEqDiff, Nat.reduceLT, Nat.reduceAdd, Nat.reduceSub, Nat.reduceMul, Nat.reduceLeDiff, Nat.reducePow, Int.reduceLT, Int.reduceToNat, reduceCtorEq, Int.reduceNeg, Int.reduceEq, Nat.reduceBEq, Nat.reduceBNe, Int.reduceBEq, Int.reduceBNe, String.reduceEq]; first | done | rfl | (simp (disch := omega) only [w_nat, w_add, w_addl, w_addr, w_sub, w_subl, w_mul, w_mull, w_mulr, w_u32, w_u16, w_u8, w_u32a, N_zero]; first | done | rfl))
        · simp only [push_cast, reduceIte, Nat.reduceEqDiff, Nat.reduceLT, Nat.reduceAdd, Nat.reduceSub, Nat.reduceMul, Nat.reduceLeDiff, Nat.reducePow, Int.reduceLT, Int.reduceToNat, reduceCtorEq, Int.reduceNeg, Int.reduceEq, Nat.reduceBEq, Nat.reduceBNe, Int.reduceBEq, Int.reduceBNe, String.reduceEq]
          try simp (disch := omega) only [w_nat, w_add, w_addl, w_addr, w_sub, w_subl, w_mul, w_mull, w_mulr, w_u32, w_u16, w_u8, w_u32a, N_zero]
          rw [hs, ← Nat.add_assoc]
    · skip
      have h0 : f.most < f.least + i * f.unit := by simpa using c0
      have hf : fitsN f n = false := by
        unfold fitsN
        by_cases h2 : f.least ≤ n ∧ n ≤ f.most
        · have h3 : (n - f.least) % f.unit ≠ 0 := by
            intro h3
            obtain ⟨j, hj⟩ := Nat.dvd_of_mod_eq_zero h3
            rw [Nat.mul_comm] at hj
            have hlt : j < i := by
              rcases Nat.lt_or_ge j i with h | h
              · exact h
              · have := Nat.mul_le_mul_right f.unit h
                omega
            exact hi j hlt (by omega)
          simp [h3]
        · rcases Nat.lt_or_ge n f.least with h4 | h4
          · simp; omega
          · simp; omega
      refine AWp.exit ?_
      try simp only [thenQ, blockQ, noGo, reduceIte, Nat.reduceEqDiff]
      refine hK1 _ ?_
      refine AWp.regionW ?_
      refine AWp.ret ?_
      try simp only [thenQ, blockQ, noGo]
      refine bodyQ.m ?_
      clear hK3 K3 hK2 K2 hK1 K1
      rw [hf]
      first | done | exact Hand.go
end Go.Proofs.YtmcedkcehcacpaaGreatDoor.C
/- The reference: wanted, Table, Of, Size. -/
set_option linter.unusedVariables false
set_option linter.unusedSimpArgs false
namespace Go.Proofs.YtmcedkcehcacpaaGreatDoor.C
open Go.Abs
theorem kidsOk_eq (f : ShForm) (l : List GNode) (hf : f.kids ≤ 4) : kidsOk f l =
    if f.kids = 0 then l.length == 0 else if f.kids = 1 then l.length == 1 else if f.kids = 4 then (l.length == 1 && ((l.headD default).ty == 5 || (l.headD default).ty == 6)) else (decide (1 ≤ l.length) && decide (l.length ≤ 16384)) := by
  have key : ∀ k n : Nat, k ≤ 4 → ∀ b : Bool, (decide ((insideN k).2.1 ≤ n) && decide (n ≤ (insideN k).2.2) && (k != 4 || b)) = if k = 0 then n == 0 else if k = 1 then n == 1 else if k = 4 then (n == 1 && b) else (decide (1 ≤ n) && decide (n ≤ 16384)) := by
    intro k n hk b
    have h : k = 0 ∨ k = 1 ∨ k = 2 ∨ k = 3 ∨ k = 4 := by omega
    have h1 : (decide (1 ≤ n) && decide (n ≤ 1)) = (n == 1) := by rw [Bool.eq_iff_iff]; simp; omega
    rcases h with rfl | rfl | rfl | rfl | rfl
    · rw [Bool.eq_iff_iff]; simp [insideN]
    · rw [Bool.eq_iff_iff]; simp [insideN]; omega
    · simp [insideN]
    · simp [insideN]
    · simp [insideN, ← h1]
  unfold kidsOk
  rw [Bool.or_assoc]
  exact key _ _ hf _
theorem wanted_c (f : ShForm) (l : List GNode) (hl : l.length ≤ 2 ^ 40) (hf : f.kids ≤ 4) : PC Tryz.prog 28 [formA f, .sl false 3 (nodesA false l)] (bool (kidsOk f l)) := by
  have hq := kidsOk_eq f l hf
  refine PC.of_bodyW (by simp only [push_cast]) Tryz.func28 rfl (by rw [Tryz.ntmps28]; simp) ?_
  refine AWp.regionW ?_
  refine AWp.seqK fun K1 hK1 => ?_
  refine AWp.regionW ?_
  refine AWp.block ?_
  refine AWp.regionW ?_
  refine AWp.condLM (fun c0 => ?_) (fun c0 => ?_)
  · skip
    have h0 : f.kids = 0 := by simpa using c0
    refine AWp.regionW ?_
    refine AWp.ret ?_
    try simp only [thenQ, blockQ, noGo]
    refine bodyQ.m ?_
    clear hK1 K1
    rw [hq, if_pos h0]
    first | done | exact Hand.go
  · skip
    have h0 : ¬ f.kids = 0 := by simpa using c0
    refine AWp.regionW ?_
    refine AWp.condLM (fun c1 => ?_) (fun c1 => ?_)
    · skip
      have h1 : f.kids = 1 := by simpa using c1
      refine AWp.regionW ?_
      refine AWp.ret ?_
      try simp only [thenQ, blockQ, noGo]
      refine bodyQ.m ?_
      clear hK1 K1
      rw [hq, if_neg h0, if_pos h1]
      first | done | exact Hand.go
    · skip
      have h1 : ¬ f.kids = 1 := by simpa using c1
      refine AWp.regionW ?_
      refine AWp.condLM (fun c2 => ?_) (fun c2 => ?_)
      · skip
        have h2 : f.kids = 4 := by simpa using c2
        refine AWp.regionA fun K2 hK2 => ?_
        refine ARun.segm 4 fun KS hKS => ?_
        refine ARun2.endm (hKS _ ?_); clear hKS KS
        apply ARun.grpM 12 3 true 34 [22]
        · intro g3 KG hKG
          have hne : 0 < l.length := by have := beq_iff_eq.1 g3; omega
          refine ARun.segm 6 fun KS hKS => ?_
          refine ARun2.indexM (0) (nodeA false (l.headD default)) ?_ ?_
          · exact nodesA_head _ _ hne
          refine ARun2.endm (hKS _ ?_); clear hKS KS
          apply ARun.grpM 5 9 false 33 [22, 28]
          · intro g9 KG hKG
            refine ARun2.gom ?_
            refine ARun2.indexM (0) (nodeA false (l.headD default)) ?_ ?_
            · exact nodesA_head _ _ hne
            exact ARun2.endm (hKG _ Le.grpM)
          refine ARun2.gom ?_
          exact ARun2.endm (hKG _ Le.grpM)
        refine ARun2.gom ?_
        refine ARun2.endm (hK2 _ ?_)
        refine AWp.ret ?_
        try simp only [thenQ, blockQ, noGo]
        refine bodyQ.m ?_
        clear hK2 K2 hK1 K1
        rw [hq, if_neg h0, if_neg h1, if_pos h2]
        first | done | exact Hand.go
      · skip
        have h2 : ¬ f.kids = 4 := by simpa using c2
        refine AWp.skip ?_
        refine hK1 _ ?_
        refine AWp.regionA fun K3 hK3 => ?_
        refine ARun.segm 4 fun KS hKS => ?_
        refine ARun2.endm (hKS _ ?_); clear hKS KS
        apply ARun.grpM 3 3 true 42 [39]
        · intro g3 KG hKG
          refine ARun2.gom ?_
          exact ARun2.endm (hKG _ Le.grpM)
        refine ARun2.gom ?_
        refine ARun2.endm (hK3 _ ?_)
        refine AWp.ret ?_
        try simp only [thenQ, blockQ, noGo]
        refine bodyQ.m ?_
        clear hK3 K3 hK1 K1
        rw [hq, if_neg h0, if_neg h1, if_neg h2]
        first | done | exact Hand.go
def refForms : List ShForm := paramForms.map (fun f => { f with cls := 1 }) ++ causeForms.map (fun f => { f with cls := 2 })
set_option maxRecDepth 100000 in
set_option maxHeartbeats 1000000 in
theorem table07_c : PC Tryz.prog 50 [] (.sl false 7 (formsA refForms)) := by
  refine PC.of_bodyW (by simp only [push_cast]) Tryz.func50 rfl (by rw [Tryz.ntmps50]; simp) ?_
  refine AWp.regionW ?_
  refine AWp.regionW ?_
  refine AWp.regionW ?_
  refine AWp.ret ?_
  try simp only [thenQ, blockQ, noGo]
  refine bodyQ.m ?_
  simp only [refForms, formsA, paramForms, causeForms, List.map_cons, List.map_nil, List.cons_append, List.nil_append]
  first | done | exact Hand.go
theorem refOf_eq (c t : Nat) (hc : c = 1 ∨ c = 2) : (refForms.find? fun f => f.cls == c && f.ty == t).getD zeroForm = shapeOf c t := by
  have key : ∀ (l : List ShForm) (c' : Nat), (l.map (fun f => { f with cls := c' })).find? (fun f => f.cls == c && f.ty == t) = if c' = c then (l.find? fun f => f.ty == t).map (fun f => { f with cls := c' }) else none := by
    intro l c'
    induction l with
    | nil => simp
    | cons a l ih =>
      by_cases h : c' = c
      · subst h
        simp only [if_true] at ih
        by_cases ht : a.ty = t
        · simp [List.find?_cons, ht]
        · have ht' : (a.ty == t) = false := by simpa using ht
          simp [List.find?_cons, ht', ih]
      · have hcc : (c' == c) = false := by simpa using h
        simp only [if_neg h] at ih ⊢
        simp [List.find?_cons, hcc, ih]
  unfold refForms shapeOf
  rw [List.find?_append, key, key]
  rcases hc with rfl | rfl
  · simp [formsN]
  · simp [formsN]
theorem of07_c (c t : Nat) (hc : c = 1 ∨ c = 2) : PC Tryz.prog 26 [nat c, u16 t] (formA (shapeOf c t)) := by
  have hlen : refForms.length ≤ 2 ^ 40 := by decide
  have hq := refOf_eq c t hc
  refine PC.of_bodyW (by simp only [push_cast]) Tryz.func26 rfl (by rw [Tryz.ntmps26]; simp) ?_
  refine AWp.regionW ?_
  refine AWp.regionM fun K1 hK1 => ?_
  refine ARun2.callM (table07_c) ?_
  refine ARun2.endm (hK1 _ ?_)
  refine AWp.seqK fun K2 hK2 => ?_
  refine AWp.regionW ?_
  refine AWp.block ?_
  refine AWp.loopK0 [0, 1, 4, 5] (fun (i : Nat) => [(6, nat i)]) (fun i => i ≤ refForms.length ∧ refForms.find? (fun f => f.cls == c && f.ty == t) = (refForms.drop i).find? fun f => f.cls == c && f.ty == t) (fun i => refForms.length - i) (0) ?_ ⟨Nat.zero_le _, rfl⟩ ?_
  · skip
    refine Le.m 1 ?_ ?_
    · first | with_reducible rfl | (simp only [push_cast, reduceIte, Nat.reduceEqDiff, Nat.reduceLT, Nat.reduceAdd, Nat.reduceSub, Nat.reduceMul, Nat.reduceLeDiff, Nat.reducePow, Int.reduceLT, Int.reduceToNat, reduceCtorEq, Int.reduceNeg, Int.reduceEq, Nat.reduceBEq, Nat.reduceBNe, Int.reduceBEq, Int.reduceBNe, String.reduceEq]; first | done | rfl | (simp (disch := omega) only [w_nat, w_add, w_addl, w_addr, w_sub, w_subl, w_mul, w_mull, w_mulr, w_u32, w_u16, w_u8, w_u32a, N_zero]; first | done | rfl))
    · first | (simp only [push_cast, reduceIte, Nat.reduceEqDiff, Nat.reduceLT, Nat.reduceAdd, Nat.reduceSub, Nat.reduceMul, Nat.reduceLeDiff, Nat.reducePow, Int.reduceLT, Int.reduceToNat, reduceCtorEq, Int.reduceNeg, Int.reduceEq, Nat.reduceBEq, Nat.reduceBNe, Int.reduceBEq, Int.reduceBNe, String.reduceEq]; first | done | rfl | (simp (disch := omega) only [w_nat, w_add, w_addl, w_addr, w_sub, w_subl, w_mul, w_mull, w_mulr, w_u32, w_u16, w_u8, w_u32a, N_zero]; first | done | rfl))
  · intro i hi K3 hK3
    refine AWp.seqK fun K4 hK4 => ?_
    refine AWp.regionW ?_
    refine AWp.condLM (fun c0 => ?_) (fun c0 => ?_)
    · skip
      have hil : i < refForms.length := by simpa using c0
      have hd : refForms.drop i = refForms[i] :: refForms.drop (i + 1) := List.drop_eq_getElem_cons hil
      refine AWp.skip ?_
      refine hK4 _ ?_
      refine AWp.seqK fun K5 hK5 => ?_
      refine AWp.block ?_
      refine AWp.regionA fun K6 hK6 => ?_
      refine ARun.segm 8 fun KS hKS => ?_
      refine ARun2.indexM (i) (formA refForms[i]) ?_ ?_
      · exact formsA_at _ _ hil
      refine ARun2.endm (hKS _ ?_); clear hKS KS
      apply ARun.grpM 7 7 true 28 [0, 1, 4, 5, 6, 21]
      · intro g7 KG hKG
        refine ARun2.gom ?_
        refine ARun2.indexM (i) (formA refForms[i]) ?_ ?_
        · exact formsA_at _ _ hil
        exact ARun2.endm (hKG _ Le.grpM)
      refine ARun2.gom ?_
      refine ARun2.endm (hK6 _ ?_)
      refine AWp.condLM (fun c1 => ?_) (fun c1 => ?_)
      · skip
        have h1 : (refForms[i].cls == c && refForms[i].ty == t) = true := by simpa using c1
        have hv : shapeOf c t = refForms[i] := by rw [← hq, hi.2, hd, List.find?_cons, h1]; rfl
        refine AWp.regionM fun K7 hK7 => ?_
        refine ARun2.indexM (i) (formA refForms[i]) ?_ ?_
        · exact formsA_at _ _ hil
        refine ARun2.endm (hK7 _ ?_)
        refine AWp.ret ?_
        try simp only [thenQ, blockQ, noGo]
        refine bodyQ.m ?_
        clear hK7 K7 hK6 K6 hK5 K5 hK4 K4 hK3 K3 hK2 K2 hK1 K1
        rw [hv]
        first | done | exact Hand.go
      · skip
        have h1 : (refForms[i].cls == c && refForms[i].ty == t) = false := by simpa using c1
        refine AWp.skip ?_
        refine hK5 _ ?_
        refine AWp.regionV ?_
        refine hK3 _ (i + 1) (⟨by omega, by rw [hi.2, hd, List.find?_cons, h1]⟩) (by omega) ?_
        refine Le.m 1 ?_ ?_
        · first | with_reducible rfl | (simp only [push_cast, reduceIte, Nat.reduceEqDiff, Nat.reduceLT, Nat.reduceAdd, Nat.reduceSub, Nat.reduceMul, Nat.reduceLeDiff, Nat.reducePow, Int.reduceLT, Int.reduceToNat, reduceCtorEq, Int.reduceNeg, Int.reduceEq, Nat.reduceBEq, Nat.reduceBNe, Int.reduceBEq, Int.reduceBNe, String.reduceEq]; first | done | rfl | (simp (disch := omega) only [w_nat, w_add, w_addl, w_addr, w_sub, w_subl, w_mul, w_mull, w_mulr, w_u32, w_u16, w_u8, w_u32a, N_zero]; first | done | rfl))
        · first | (simp only [push_cast, reduceIte, Nat.reduceEqDiff, Nat.reduceLT, Nat.reduceAdd, Nat.reduceSub, Nat.reduceMul, Nat.reduceLeDiff, Nat.reducePow, Int.reduceLT, Int.reduceToNat, reduceCtorEq, Int.reduceNeg, Int.reduceEq, Nat.reduceBEq, Nat.reduceBNe, Int.reduceBEq, Int.reduceBNe, String.reduceEq]; first | done | rfl | (simp (disch := omega) only [w_nat, w_add, w_addl, w_addr, w_sub, w_subl, w_mul, w_mull, w_mulr, w_u32, w_u16, w_u8, w_u32a, N_zero]; first | done | rfl))
    · skip
      have hil : refForms.length ≤ i := by simpa using c0
      have hv : shapeOf c t = zeroForm := by rw [← hq, hi.2, List.drop_of_length_le hil]; rfl
      refine AWp.exit ?_
      try simp only [thenQ, blockQ, noGo, reduceIte, Nat.reduceEqDiff]
      refine hK2 _ ?_
      refine AWp.regionW ?_
      refine AWp.ret ?_
      try simp only [thenQ, blockQ, noGo]
      refine bodyQ.m ?_
      clear hK4 K4 hK3 K3 hK2 K2 hK1 K1
      rw [hv]
      first | done | exact Hand.go
theorem sumUp_le (l : List GNode) (i : Nat) : sumUp 0 ((nLens (l.take i)).map (4 + ·)) ≤ nSize l := by
  have e : (nLens (l.take i)).map (4 + ·) = ((nLens l).map (4 + ·)).take i := by
    rw [nLens_map, nLens_map, List.map_take, List.map_take]
  rw [e]; exact sumUp_take _ i
/-- the size as the reference has it behind i nodes -/
def szR (l : List GNode) (i : Nat) : Nat := if i < l.length then upN (sumUp 0 ((nLens (l.take i)).map (4 + ·))) else nSize l
theorem upN_mod (n : Nat) : upN n % 4 = 0 := by unfold upN gapN; omega
theorem szR_step (l : List GNode) (i : Nat) (h : i < l.length) : szR l (i + 1) = if i < l.length - 1 then szR l i + (4 + vlen l[i]) + gapN (4 + vlen l[i]) else szR l i + (4 + vlen l[i]) := by
  have e : sumUp 0 ((nLens (l.take (i + 1))).map (4 + ·)) = upN (sumUp 0 ((nLens (l.take i)).map (4 + ·))) + (4 + vlen l[i]) := by
    rw [List.take_succ_eq_append_getElem h]
    have : nLens (l.take i ++ [l[i]]) = nLens (l.take i) ++ [vlen l[i]] := by rw [nLens_map, nLens_map, List.map_append]; rfl
    rw [this, List.map_append]
    exact sumUp_append _ _ _
  have hu := upN_mod (sumUp 0 ((nLens (l.take i)).map (4 + ·)))
  unfold szR
  rw [if_pos h]
  by_cases h2 : i < l.length - 1
  · rw [if_pos (by omega), if_pos h2, e]
    generalize upN (sumUp 0 ((nLens (l.take i)).map (4 + ·))) = u at hu
    unfold upN gapN; omega
  · rw [if_neg (by omega), if_neg h2, ← e]
    have : i + 1 = l.length := by omega
    rw [this, List.take_length]; rfl
theorem szR_le (l : List GNode) (i : Nat) : szR l i ≤ nSize l + 3 := by
  unfold szR
  split
  · have h1 := sumUp_le l i
    have h2 := gapN_le (sumUp 0 ((nLens (l.take i)).map (4 + ·)))
    unfold upN; omega
  · omega
theorem szR_zero (l : List GNode) : szR l 0 = 0 := by
  unfold szR
  split
  · simp [nLens, sumUp, upN, gapN]
  · have : l = [] := by cases l <;> simp_all
    subst this; rfl
theorem size08_step (l : List GNode) (hs : nSize l ≤ 2 ^ 30) (ih : ∀ a ∈ l, PC Tryz.prog 14 [.sl false 3 (nodesA false a.kids)] (nat (nSize a.kids))) :
    PC Tryz.prog 14 [.sl false 3 (nodesA false l)] (nat (nSize l)) := by
  have hlen := nSize_len l
  refine PC.of_bodyW (by simp only [push_cast]) Tryz.func14 rfl (by rw [Tryz.ntmps14]; simp) ?_
  refine AWp.regionW ?_
  refine AWp.regionW ?_
  refine AWp.seqK fun K1 hK1 => ?_
  refine AWp.regionW ?_
  refine AWp.block ?_
  refine AWp.loopK0 [0] (fun (i : Nat) => [(4, nat i), (3, nat (szR l i))]) (fun i => i ≤ l.length) (fun i => l.length - i) (0) ?_ (Nat.zero_le _) ?_
  · skip
    refine Le.m 0 ?_ ?_
    · first | with_reducible rfl | (simp only [push_cast, reduceIte, Nat.reduceEqDiff, Nat.reduceLT, Nat.reduceAdd, Nat.reduceSub, Nat.reduceMul, Nat.reduceLeDiff, Nat.reducePow, Int.reduceLT, Int.reduceToNat, reduceCtorEq, Int.reduceNeg, Int.reduceEq, Nat.reduceBEq, Nat.reduceBNe, Int.reduceBEq, Int.reduceBNe, String.reduceEq]; first | done | rfl | (simp (disch := omega) only [w_nat, w_add, w_addl, w_addr, w_sub, w_subl, w_mul, w_mull, w_mulr, w_u32, w_u16, w_u8, w_u32a, N_zero]; first | done | rfl))
    · simp only [push_cast, reduceIte, Nat.reduceEqDiff, Nat.reduceLT, Nat.reduceAdd, Nat.reduceSub, Nat.reduceMul, Nat.reduceLeDiff, Nat.reducePow, Int.reduceLT, Int.reduceToNat, reduceCtorEq, Int.reduceNeg, Int.reduceEq, Nat.reduceBEq, Nat.reduceBNe, Int.reduceBEq, Int.reduceBNe, String.reduceEq]
      try simp (disch := omega) only [w_nat, w_add, w_addl, w_addr, w_sub, w_subl, w_mul, w_mull, w_mulr, w_u32, w_u16, w_u8, w_u32a, N_zero]
      rw [szR_zero]; rfl
  · intro i hi K2 hK2
    refine AWp.seqK fun K3 hK3 => ?_
    refine AWp.regionW ?_
    refine AWp.condLM (fun c0 => ?_) (fun c0 => ?_)
    · skip
      have hil : i < l.length := by simpa using c0
      have hm := List.getElem_mem hil
      have hv := vlen_mem hm
      have he := vlen_eq l[i]
      have hst := szR_step l i hil
      have hle := szR_le l i
      have hg := gapN_le (4 + vlen l[i])
      refine AWp.skip ?_
      refine hK3 _ ?_
      refine AWp.seqK fun K4 hK4 => ?_
      refine AWp.block ?_
      refine AWp.drS [[(0, none)], [(4, none)], [(12, some 0), (13, some 1)], [(14, some 2)], [(15, some 3)], [(16, some 4)], [(17, some 5)], [(0, none)], [(4, none)], [(19, some 7), (20, some 8)], [(21, some 9)], [(22, some 10)], [(23, some 11)], [(18, some 6), (24, some 12)], [(25, some 13)]] fun G hG => ?_
      refine Dr.sim ?_
      try simp only [List.cons_append, List.nil_append]
      refine Dr.sim ?_
      try simp only [List.cons_append, List.nil_append]
      refine Dr.idx (i) (nodeA false l[i]) ?_ ?_
      · exact nodesA_at _ _ _ hil
      try simp only [List.cons_append, List.nil_append]
      refine Dr.sim ?_
      try simp only [List.cons_append, List.nil_append]
      refine Dr.sim ?_
      try simp only [List.cons_append, List.nil_append]
      refine Dr.sim ?_
      try simp only [List.cons_append, List.nil_append]
      refine Dr.sim ?_
      try simp only [List.cons_append, List.nil_append]
      refine Dr.sim ?_
      try simp only [List.cons_append, List.nil_append]
      refine Dr.sim ?_
      try simp only [List.cons_append, List.nil_append]
      refine Dr.idx (i) (nodeA false l[i]) ?_ ?_
      · exact nodesA_at _ _ _ hil
      try simp only [List.cons_append, List.nil_append]
      refine Dr.sim ?_
      try simp only [List.cons_append, List.nil_append]
      refine Dr.sim ?_
      try simp only [List.cons_append, List.nil_append]
      refine Dr.call (ih l[i] hm) ?_
      try simp only [List.cons_append, List.nil_append]
      refine Dr.sim ?_
      try simp only [List.cons_append, List.nil_append]
      refine Dr.sim ?_
      try simp only [List.cons_append, List.nil_append]
      refine Dr.finM (n := 15) [(5, 14)] [0, 3, 4] hG YtmcedkcehcacpaaGreatDoor.Facts.mixed fun KD hKD => ?_
      refine ARun2.endm (hKD _ ?_); clear hKD KD hG G
      refine AWp.regionW ?_
      refine AWp.regionW ?_
      refine AWp.condLM (fun c1 => ?_) (fun c1 => ?_)
      · skip
        have h1 : i < l.length - 1 := by simpa using c1
        rw [if_pos h1] at hst
        refine AWp.regionN fun K5 hK5 => ?_
        rw [show 4 + l[i].data.length + nSize l[i].kids = 4 + vlen l[i] by omega]
        refine ARun2.callM (gap03_c (4 + vlen l[i]) (by omega)) ?_
        refine ARun2.endm (hK5 _ ?_)
        refine hK4 _ ?_
        refine AWp.regionV ?_
        refine hK2 _ (i + 1) (by omega) (by omega) ?_
        refine Le.m 0 ?_ ?_
        · first | with_reducible rfl | (simp only [push_cast, reduceIte, Nat.reduceEqDiff, Nat.reduceLT, Nat.reduceAdd, Nat.reduceSub, Nat.reduceMul, Nat.reduceLeDiff, Nat.reducePow, Int.reduceLT, Int.reduceToNat, reduceCtorEq, Int.reduceNeg, Int.reduceEq, Nat.reduceBEq, Nat.reduceBNe, Int.reduceBEq, Int.reduceBNe, String.reduceEq]; first | done | rfl | (simp (disch := omega) only [w_nat, w_add, w_addl, w_addr, w_sub, w_subl, w_mul, w_mull, w_mulr, w_u32, w_u16, w_u8, w_u32a, N_zero]; first | done | rfl))
        · simp only [push_cast, reduceIte, Nat.reduceEqDiff, Nat.reduceLT, Nat.reduceAdd, Nat.reduceSub, Nat.reduceMul, Nat.reduceLeDiff, Nat.reducePow, Int.reduceLT, Int.reduceToNat, reduceCtorEq, Int.reduceNeg, Int.reduceEq, Nat.reduceBEq, Nat.reduceBNe, Int.reduceBEq, Int.reduceBNe, String.reduceEq]
          try simp (disch := omega) only [w_nat, w_add, w_addl, w_addr, w_sub, w_subl, w_mul, w_mull, w_mulr, w_u32, w_u16, w_u8, w_u32a, N_zero]
          first | (rw [hst]; done) | (rw [hst]; congr 3; omega)
      · skip
        have h1 : ¬ i < l.length - 1 := by simpa using c1
        rw [if_neg h1] at hst
        refine AWp.skip ?_
        refine hK4 _ ?_
        refine AWp.regionV ?_
        refine hK2 _ (i + 1) (by omega) (by omega) ?_
        refine Le.m 0 ?_ ?_
        · first | with_reducible rfl | (simp only [push_cast, reduceIte, Nat.reduceEqDiff, Nat.reduceLT, Nat.reduceAdd, Nat.reduceSub, Nat.reduceMul, Nat.reduceLeDiff, Nat.reducePow, Int.reduceLT, Int.reduceToNat, reduceCtorEq, Int.reduceNeg, Int.reduceEq, Nat.reduceBEq, Nat.reduceBNe, Int.reduceBEq, Int.reduceBNe, String.reduceEq]; first | done | rfl | (simp (disch := omega) only [w_nat, w_add, w_addl, w_addr, w_sub, w_subl, w_mul, w_mull, w_mulr, w_u32, w_u16, w_u8, w_u32a, N_zero]; first | done | rfl))
        · simp only [push_cast, reduceIte, Nat.reduceEqDiff, Nat.reduceLT, Nat.reduceAdd, Nat.reduceSub, Nat.reduceMul, Nat.reduceLeDiff, Nat.reducePow, Int.reduceLT, Int.reduceToNat, reduceCtorEq, Int.reduceNeg, Int.reduceEq, Nat.reduceBEq, Nat.reduceBNe, Int.reduceBEq, Int.reduceBNe, String.reduceEq]
          try simp (disch := omega) only [w_nat, w_add, w_addl, w_addr, w_sub, w_subl, w_mul, w_mull, w_mulr, w_u32, w_u16, w_u8, w_u32a, N_zero]
          first | (rw [hst]; done) | (rw [hst]; congr 3; omega)
    · skip
      have hil : i = l.length := by simp at c0; omega
      subst hil
      refine AWp.exit ?_
      try simp only [thenQ, blockQ, noGo, reduceIte, Nat.reduceEqDiff]
      refine hK1 _ ?_
      refine AWp.regionW ?_
      refine AWp.ret ?_
      try simp only [thenQ, blockQ, noGo]
      refine bodyQ.m ?_
      clear hK3 K3 hK2 K2 hK1 K1
      unfold szR; rw [if_neg (Nat.lt_irrefl _)]
      first | done | exact Hand.go
theorem size08_w : ∀ (w : Nat) (l : List GNode), szs l ≤ w → nSize l ≤ 2 ^ 30 → PC Tryz.prog 14 [.sl false 3 (nodesA false l)] (nat (nSize l)) := by
  have kl : ∀ (a : GNode) (l : List GNode), a ∈ l → szs a.kids < szs l := by
    intro a l ha
    have := szs_mem ha; rw [GNode.sz_eq] at this; omega
  intro w
  induction w with
  | zero => exact fun l hw hs => size08_step l hs (fun a ha => by have := kl a l ha; omega)
  | succ w ih => exact fun l hw hs => size08_step l hs (fun a ha => by have := kl a l ha; have := nSize_kids ha; exact ih _ (by omega) (by omega))
theorem size08_c (l : List GNode) (hs : nSize l ≤ 2 ^ 30) : PC Tryz.prog 14 [.sl false 3 (nodesA false l)] (nat (nSize l)) := size08_w _ l (Nat.le_refl _) hs
end Go.Proofs.YtmcedkcehcacpaaGreatDoor.C
/- The reference: Check, Count, Value, Types. -/
set_option linter.unusedVariables false
set_option linter.unusedSimpArgs false
namespace Go.Proofs.YtmcedkcehcacpaaGreatDoor.C
open Go.Abs
theorem form_small (c t : Nat) : (shapeOf c t).kids ≤ 4 ∧ (shapeOf c t).least < 2 ^ 40 ∧ (shapeOf c t).most < 2 ^ 40 ∧ (shapeOf c t).unit < 2 ^ 40 ∧ (shapeHas c t = true → (shapeOf c t).cls = c ∧ 0 < (shapeOf c t).unit) ∧ (shapeHas c t = false → shapeOf c t = zeroForm) := by
  have key : ∀ l : List ShForm, (∀ f ∈ l, f.kids ≤ 4 ∧ f.least < 2 ^ 40 ∧ f.most < 2 ^ 40 ∧ f.unit < 2 ^ 40 ∧ 0 < f.unit) →
      let g := (((l.find? fun f => f.ty == t).map fun f => { f with cls := c }).getD zeroForm)
      g.kids ≤ 4 ∧ g.least < 2 ^ 40 ∧ g.most < 2 ^ 40 ∧ g.unit < 2 ^ 40 ∧ ((l.find? fun f => f.ty == t).isSome = true → g.cls = c ∧ 0 < g.unit) ∧ ((l.find? fun f => f.ty == t).isSome = false → g = zeroForm) := by
    intro l hl
    cases hf : l.find? (fun f => f.ty == t) with
    | none => simp [zeroForm]
    | some f =>
      have := hl f (List.mem_of_find?_eq_some hf)
      simp
      omega
  refine key (formsN c) ?_
  match c with
  | 0 => intro f hf; simp [formsN] at hf
  | 1 => decide
  | 2 => decide
  | _ + 3 => intro f hf; simp [formsN] at hf
theorem counted_eq (c t : Nat) (d : List UInt8) (k : List GNode) (h : badN c t d.length k = false) (hc : c = 2) (ht : t = 2) : (!countedR d) = countedN c t d := by
  subst hc; subst ht
  have hf : fitsN (shapeOf 2 2) d.length = true := by
    unfold badN at h
    have : shapeHas 2 2 = true := rfl
    rw [this] at h
    cases hq : fitsN (shapeOf 2 2) d.length with
    | true => rfl
    | false => rw [hq] at h; simp at h
  have hl : 6 ≤ d.length ∧ (d.length - 6) % 2 = 0 := by
    have e : shapeOf 2 2 = ⟨2, 2, ⟨#[109, 105, 115, 115, 105, 110, 103, 45, 112, 97, 114, 97, 109, 101, 116, 101, 114]⟩, 6, 65531, 2, 0⟩ := rfl
    rw [e] at hf
    unfold fitsN at hf
    simp only [Bool.and_eq_true, decide_eq_true_eq, beq_iff_eq] at hf
    exact ⟨hf.1.1, hf.2⟩
  unfold countedR countedN
  rw [Bool.eq_iff_iff]
  simp
  omega
theorem check08_step (c dp : Nat) (n : GNode) (hc : c = 1 ∨ c = 2) (hdp : dp < 2 ^ 60) (hs : nSize [n] ≤ 2 ^ 30)
    (ih : ∀ (c dp : Nat) (a : GNode), a ∈ n.kids → (c = 1 ∨ c = 2) → dp < 2 ^ 60 → nSize [a] ≤ 2 ^ 30 → PC Tryz.prog 10 [nat c, nodeA false a, nat dp] (nat (checkN c dp a))) :
    PC Tryz.prog 10 [nat c, nodeA false n, nat dp] (nat (checkN c dp n)) := by
  have hkl := nSize_len n.kids
  have hk1 := nSize_kids1 n
  have hdl := nSize_data n
  obtain ⟨f1, f2, f3, f4, f5, f6⟩ := form_small c n.ty
  have hcl : (shapeOf c n.ty).cls = if shapeHas c n.ty = true then c else 0 := by
    cases h : shapeHas c n.ty with
    | true => exact (f5 h).1
    | false => rw [f6 h]; rfl
  have hc0 : ((shapeOf c n.ty).cls == 0) = !shapeHas c n.ty := by
    rw [hcl]; cases shapeHas c n.ty <;> simp; omega
  have hc1 : decide (0 < (shapeOf c n.ty).cls) = shapeHas c n.ty := by
    rw [hcl]; cases shapeHas c n.ty <;> simp; omega
  refine PC.of_bodyW (by simp only [push_cast]) Tryz.func10 rfl (by rw [Tryz.ntmps10]; simp) ?_
  refine AWp.regionW ?_
  refine AWp.seqK fun K1 hK1 => ?_
  refine AWp.regionW ?_
  refine AWp.condLM (fun c0 => ?_) (fun c0 => ?_)
  · skip
    have h0 : 4 < dp := by simpa using c0
    refine AWp.regionW ?_
    refine AWp.ret ?_
    try simp only [thenQ, blockQ, noGo]
    refine bodyQ.m ?_
    clear hK1 K1
    rw [checkN_eq, if_pos h0]
    first | done | exact Hand.go
  · skip
    have h0 : ¬ 4 < dp := by simpa using c0
    refine AWp.skip ?_
    refine hK1 _ ?_
    refine AWp.regionM fun K2 hK2 => ?_
    refine ARun2.callM (of07_c c n.ty hc) ?_
    refine ARun2.endm (hK2 _ ?_)
    refine AWp.seqK fun K3 hK3 => ?_
    refine AWp.regionA fun K4 hK4 => ?_
    refine ARun.segm 4 fun KS hKS => ?_
    refine ARun2.endm (hKS _ ?_); clear hKS KS
    apply ARun.grpM 4 3 true 23 [0, 2, 4, 7, 19]
    · intro g3 KG hKG
      refine ARun2.gom ?_
      exact ARun2.endm (hKG _ Le.grpM)
    refine ARun2.gom ?_
    refine ARun2.endm (hK4 _ ?_)
    refine AWp.condLM (fun c1 => ?_) (fun c1 => ?_)
    · skip
      rw [hc0] at c1
      have hb : badN c n.ty n.data.length n.kids = true := by unfold badN; rw [c1]; rfl
      refine AWp.regionW ?_
      refine AWp.ret ?_
      try simp only [thenQ, blockQ, noGo]
      refine bodyQ.m ?_
      clear hK4 K4 hK3 K3 hK2 K2 hK1 K1
      rw [checkN_eq, if_neg h0, if_pos hb]
      first | done | exact Hand.go
    · skip
      rw [hc0] at c1
      refine AWp.skip ?_
      refine hK3 _ ?_
      refine AWp.seqK fun K5 hK5 => ?_
      refine AWp.regionA fun K6 hK6 => ?_
      refine ARun.segm 4 fun KS hKS => ?_
      refine ARun2.endm (hKS _ ?_); clear hKS KS
      apply ARun.grpM 13 3 true 41 [0, 2, 4, 7, 28]
      · intro g3 KG hKG
        rw [hc1] at g3
        refine ARun.segm 7 fun KS hKS => ?_
        refine ARun2.callM (fits07_c (shapeOf c n.ty) n.data.length (by omega) f2 f3 (f5 g3).2 f4) ?_
        refine ARun2.endm (hKS _ ?_); clear hKS KS
        apply ARun.grpM 5 10 false 40 [0, 2, 4, 7, 28, 35]
        · intro g10 KG hKG
          refine ARun2.gom ?_
          refine ARun2.callM (wanted_c (shapeOf c n.ty) n.kids (by omega) f1) ?_
          exact ARun2.endm (hKG _ Le.grpM)
        refine ARun2.gom ?_
        exact ARun2.endm (hKG _ Le.grpM)
      refine ARun2.gom ?_
      refine ARun2.endm (hK6 _ ?_)
      refine AWp.condLM (fun c2 => ?_) (fun c2 => ?_)
      · skip
        rw [hc1] at c2
        have hb : badN c n.ty n.data.length n.kids = true := by
          unfold badN; revert c1 c2
          cases shapeHas c n.ty <;> cases fitsN (shapeOf c n.ty) n.data.length <;> cases kidsOk (shapeOf c n.ty) n.kids <;> simp
        refine AWp.regionW ?_
        refine AWp.ret ?_
        try simp only [thenQ, blockQ, noGo]
        refine bodyQ.m ?_
        clear hK6 K6 hK5 K5 hK4 K4 hK3 K3 hK2 K2 hK1 K1
        rw [checkN_eq, if_neg h0, if_pos hb]
        first | done | exact Hand.go
      · skip
        rw [hc1] at c2
        have hb : badN c n.ty n.data.length n.kids = false := by
          unfold badN; revert c1 c2
          cases shapeHas c n.ty <;> cases fitsN (shapeOf c n.ty) n.data.length <;> cases kidsOk (shapeOf c n.ty) n.kids <;> simp
        have hb' : ¬ badN c n.ty n.data.length n.kids = true := by rw [hb]; simp
        refine AWp.skip ?_
        refine hK5 _ ?_
        refine AWp.seqK fun K7 hK7 => ?_
        refine AWp.regionA fun K8 hK8 => ?_
        refine ARun.segm 3 fun KS hKS => ?_
        refine ARun2.endm (hKS _ ?_); clear hKS KS
        apply ARun.grpM 3 2 true 48 [2, 4, 7, 45]
        · intro g2 KG hKG
          refine ARun2.gom ?_
          exact ARun2.endm (hKG _ Le.grpM)
        refine ARun.segm 2 fun KS hKS => ?_
        refine ARun2.endm (hKS _ ?_); clear hKS KS
        apply ARun.grpM 4 7 true 54 [2, 4, 7, 50]
        · intro g7 KG hKG
          refine ARun2.gom ?_
          refine ARun2.callM (counted08_c n.data (by omega)) ?_
          exact ARun2.endm (hKG _ Le.grpM)
        refine ARun2.gom ?_
        refine ARun2.endm (hK8 _ ?_)
        refine AWp.condLM (fun c3 => ?_) (fun c3 => ?_)
        · skip
          have h3 : countedN c n.ty n.data = true := by
            simp only [Bool.and_eq_true, beq_iff_eq] at c3
            rw [← counted_eq c n.ty n.data n.kids hb c3.1.1 c3.1.2]; exact c3.2
          refine AWp.regionW ?_
          refine AWp.ret ?_
          try simp only [thenQ, blockQ, noGo]
          refine bodyQ.m ?_
          clear hK8 K8 hK7 K7 hK6 K6 hK5 K5 hK4 K4 hK3 K3 hK2 K2 hK1 K1
          rw [checkN_eq, if_neg h0, if_neg hb', if_pos h3]
          first | done | exact Hand.go
        · skip
          have h3 : ¬ countedN c n.ty n.data = true := by
            intro h3
            have e : c = 2 ∧ n.ty = 2 := by unfold countedN at h3; simp only [Bool.and_eq_true, beq_iff_eq] at h3; exact ⟨h3.1, h3.2.1⟩
            rw [← counted_eq c n.ty n.data n.kids hb e.1 e.2] at h3
            rw [e.1, e.2, h3] at c3
            simp at c3
          refine AWp.skip ?_
          refine hK7 _ ?_
          refine AWp.seqK fun K9 hK9 => ?_
          refine AWp.regionW ?_
          refine AWp.block ?_
          refine AWp.loopK0 [2, 4, 7] (fun (i : Nat) => [(8, nat i)]) (fun i => i ≤ n.kids.length ∧ checkL (insideN (shapeOf c n.ty).kids).1 (dp + 1) (n.kids.take i) = 0) (fun i => n.kids.length - i) (0) ?_ ⟨Nat.zero_le _, rfl⟩ ?_
          · skip
            refine Le.m 2 ?_ ?_
            · first | with_reducible rfl | (simp only [push_cast, reduceIte, Nat.reduceEqDiff, Nat.reduceLT, Nat.reduceAdd, Nat.reduceSub, Nat.reduceMul, Nat.reduceLeDiff, Nat.reducePow, Int.reduceLT, Int.reduceToNat, reduceCtorEq, Int.reduceNeg, Int.reduceEq, Nat.reduceBEq, Nat.reduceBNe, Int.reduceBEq, Int.reduceBNe, String.reduceEq]; first | done | rfl | (simp (disch := omega) only [w_nat, w_add, w_addl, w_addr, w_sub, w_subl, w_mul, w_mull, w_mulr, w_u32, w_u16, w_u8, w_u32a, N_zero]; first | done | rfl))
            · first | (simp only [push_cast, reduceIte, Nat.reduceEqDiff, Nat.reduceLT, Nat.reduceAdd, Nat.reduceSub, Nat.reduceMul, Nat.reduceLeDiff, Nat.reducePow, Int.reduceLT, Int.reduceToNat, reduceCtorEq, Int.reduceNeg, Int.reduceEq, Nat.reduceBEq, Nat.reduceBNe, Int.reduceBEq, Int.reduceBNe, String.reduceEq]; first | done | rfl | (simp (disch := omega) only [w_nat, w_add, w_addl, w_addr, w_sub, w_subl, w_mul, w_mull, w_mulr, w_u32, w_u16, w_u8, w_u32a, N_zero]; first | done | rfl))
          · intro i hi K10 hK10
            refine AWp.seqK fun K11 hK11 => ?_
            refine AWp.regionW ?_
            refine AWp.condLM (fun c4 => ?_) (fun c4 => ?_)
            · skip
              have hil : i < n.kids.length := by simpa using c4
              have hm := List.getElem_mem hil
              have hci := inside_class c n.ty n.data.length n.kids hb (by omega)
              refine AWp.skip ?_
              refine hK11 _ ?_
              refine AWp.seqK fun K12 hK12 => ?_
              refine AWp.block ?_
              refine AWp.drS [[(7, none)], [(63, some 0)], [(64, some 1)], [(4, none)], [(66, some 3)], [(8, none)], [(67, some 4), (68, some 5)], [(69, some 6)], [(2, none)], [(71, some 8)], [(65, some 2), (70, some 7), (72, some 9)], [(73, some 10)]] fun G hG => ?_
              refine Dr.sim ?_
              try simp only [List.cons_append, List.nil_append]
              refine Dr.sim ?_
              try simp only [List.cons_append, List.nil_append]
              refine Dr.call (inside08_c (shapeOf c n.ty).kids f1) ?_
              try simp only [List.cons_append, List.nil_append]
              refine Dr.sim ?_
              try simp only [List.cons_append, List.nil_append]
              refine Dr.sim ?_
              try simp only [List.cons_append, List.nil_append]
              refine Dr.sim ?_
              try simp only [List.cons_append, List.nil_append]
              refine Dr.idx (i) (nodeA false n.kids[i]) ?_ ?_
              · exact nodesA_at _ _ _ hil
              try simp only [List.cons_append, List.nil_append]
              refine Dr.sim ?_
              try simp only [List.cons_append, List.nil_append]
              refine Dr.sim ?_
              try simp only [List.cons_append, List.nil_append]
              refine Dr.sim ?_
              try simp only [List.cons_append, List.nil_append]
              refine Dr.call (ih (insideN (shapeOf c n.ty).kids).1 (dp + 1) n.kids[i] hm hci (by omega) (by have := nSize_one hm; omega)) ?_
              try simp only [List.cons_append, List.nil_append]
              refine Dr.sim ?_
              try simp only [List.cons_append, List.nil_append]
              refine Dr.finM (n := 12) [(9, 11)] [2, 4, 7, 8] hG YtmcedkcehcacpaaGreatDoor.Facts.mixed fun KD hKD => ?_
              refine ARun2.endm (hKD _ ?_); clear hKD KD hG G
              refine AWp.regionW ?_
              refine AWp.condLM (fun c5 => ?_) (fun c5 => ?_)
              · skip
                have h5 : checkN (insideN (shapeOf c n.ty).kids).1 (dp + 1) n.kids[i] ≠ 0 := by simpa using c5
                refine AWp.regionW ?_
                refine AWp.ret ?_
                try simp only [thenQ, blockQ, noGo]
                refine bodyQ.m ?_
                clear hK12 K12 hK11 K11 hK10 K10 hK9 K9 hK8 K8 hK7 K7 hK6 K6 hK5 K5 hK4 K4 hK3 K3 hK2 K2 hK1 K1
                have hL := checkL_at _ _ n.kids i hil hi.2 h5
                rw [checkN_eq c dp n, if_neg h0, if_neg hb', if_neg h3, if_pos (by rw [hL]; exact h5), hL]
                first | done | exact Hand.go
              · skip
                have h5 : checkN (insideN (shapeOf c n.ty).kids).1 (dp + 1) n.kids[i] = 0 := by simpa using c5
                refine AWp.skip ?_
                refine hK12 _ ?_
                refine AWp.regionV ?_
                refine hK10 _ (i + 1) (⟨by omega, by rw [List.take_succ_eq_append_getElem hil, checkL_snoc, hi.2]; simpa using h5⟩) (by omega) ?_
                refine Le.m 2 ?_ ?_
                · first | with_reducible rfl | (simp only [push_cast, reduceIte, Nat.reduceEqDiff, Nat.reduceLT, Nat.reduceAdd, Nat.reduceSub, Nat.reduceMul, Nat.reduceLeDiff, Nat.reducePow, Int.reduceLT, Int.reduceToNat, reduceCtorEq, Int.reduceNeg, Int.reduceEq, Nat.reduceBEq, Nat.reduceBNe, Int.reduceBEq, Int.reduceBNe, String.reduceEq]; first | done | rfl | (simp (disch := omega) only [w_nat, w_add, w_addl, w_addr, w_sub, w_subl, w_mul, w_mull, w_mulr, w_u32, w_u16, w_u8, w_u32a, N_zero]; first | done | rfl))
                · first | (simp only [push_cast, reduceIte, Nat.reduceEqDiff, Nat.reduceLT, Nat.reduceAdd, Nat.reduceSub, Nat.reduceMul, Nat.reduceLeDiff, Nat.reducePow, Int.reduceLT, Int.reduceToNat, reduceCtorEq, Int.reduceNeg, Int.reduceEq, Nat.reduceBEq, Nat.reduceBNe, Int.reduceBEq, Int.reduceBNe, String.reduceEq]; first | done | rfl | (simp (disch := omega) only [w_nat, w_add, w_addl, w_addr, w_sub, w_subl, w_mul, w_mull, w_mulr, w_u32, w_u16, w_u8, w_u32a, N_zero]; first | done | rfl))
            · skip
              have hil : i = n.kids.length := by have := hi.1; simp at c4; omega
              have hL : checkL (insideN (shapeOf c n.ty).kids).1 (dp + 1) n.kids = 0 := by have := hi.2; rwa [hil, List.take_length] at this
              subst hil
              refine AWp.exit ?_
              try simp only [thenQ, blockQ, noGo, reduceIte, Nat.reduceEqDiff]
              refine hK9 _ ?_
              refine AWp.seqK fun K13 hK13 => ?_
              refine AWp.regionM fun K14 hK14 => ?_
              refine ARun2.callM (size08_c [n] hs) ?_
              refine ARun2.endm (hK14 _ ?_)
              refine AWp.condLM (fun c6 => ?_) (fun c6 => ?_)
              · skip
                have h6 : 65535 < nSize [n] := by simpa using c6
                refine AWp.regionW ?_
                refine AWp.ret ?_
                try simp only [thenQ, blockQ, noGo]
                refine bodyQ.m ?_
                clear hK14 K14 hK13 K13 hK11 K11 hK10 K10 hK9 K9 hK8 K8 hK7 K7 hK6 K6 hK5 K5 hK4 K4 hK3 K3 hK2 K2 hK1 K1
                rw [checkN_eq, if_neg h0, if_neg hb', if_neg h3, if_neg (by rw [hL]; simp), if_pos h6]
                first | done | exact Hand.go
              · skip
                have h6 : ¬ 65535 < nSize [n] := by simpa using c6
                refine AWp.skip ?_
                refine hK13 _ ?_
                refine AWp.regionW ?_
                refine AWp.ret ?_
                try simp only [thenQ, blockQ, noGo]
                refine bodyQ.m ?_
                clear hK14 K14 hK13 K13 hK11 K11 hK10 K10 hK9 K9 hK8 K8 hK7 K7 hK6 K6 hK5 K5 hK4 K4 hK3 K3 hK2 K2 hK1 K1
                rw [checkN_eq, if_neg h0, if_neg hb', if_neg h3, if_neg (by rw [hL]; simp), if_neg h6]
                first | done | exact Hand.go
theorem check08_w : ∀ (w c dp : Nat) (n : GNode), n.sz ≤ w → (c = 1 ∨ c = 2) → dp < 2 ^ 60 → nSize [n] ≤ 2 ^ 30 → PC Tryz.prog 10 [nat c, nodeA false n, nat dp] (nat (checkN c dp n)) := by
  intro w
  induction w with
  | zero => intro c dp n h; have := n.sz_eq; omega
  | succ w ih => exact fun c dp n hw hc hdp hs => check08_step c dp n hc hdp hs (fun c dp a ha hc hdp hs => ih c dp a (by have := szs_lt ha; omega) hc hdp hs)
theorem check08_c (c dp : Nat) (n : GNode) (hc : c = 1 ∨ c = 2) (hdp : dp < 2 ^ 60) (hs : nSize [n] ≤ 2 ^ 30) : PC Tryz.prog 10 [nat c, nodeA false n, nat dp] (nat (checkN c dp n)) := check08_w _ c dp n (Nat.le_refl _) hc hdp hs
end Go.Proofs.YtmcedkcehcacpaaGreatDoor.C
/- The reference: Count, Few, Value, Types. -/
set_option linter.unusedVariables false
set_option linter.unusedSimpArgs false
namespace Go.Proofs.YtmcedkcehcacpaaGreatDoor.C
open Go.Abs
/-- the loop of Count -/
def cntL (g : GNode → Nat) : List GNode → Nat → Nat
  | [], s => s
  | n :: l, s => if s < 1000 then cntL g l (s + 1 + n.data.length / 1000 + g n) else s
/-- how many nodes there are, up to a bound; f: how much deeper it may go -/
def countF : Nat → List GNode → Nat
  | 0, _ => 1000
  | f + 1, l => cntL (fun n => countF f n.kids) l 0
theorem cntL_le (g : GNode → Nat) (hg : ∀ n, g n ≤ 1000 + 2000 * szs n.kids) : ∀ (l : List GNode) (s : Nat), cntL g l s ≤ s + 2000 * szs l
  | [], s => by simp [cntL, szs]
  | n :: l, s => by
    have h1 := n.sz_eq
    have h2 := hg n
    have h3 := cntL_le g hg l (s + 1 + n.data.length / 1000 + g n)
    simp only [cntL, szs]
    split <;> omega
theorem countF_le : ∀ (f : Nat) (l : List GNode), countF f l ≤ 1000 + 2000 * szs l
  | 0, l => by simp [countF]
  | f + 1, l => by
    have := cntL_le (fun n => countF f n.kids) (fun n => countF_le f n.kids) l 0
    simp only [countF]; omega
theorem szs_take (l : List GNode) (i : Nat) (h : i < l.length) : szs (l.take (i + 1)) = szs (l.take i) + l[i].sz := by
  rw [List.take_succ_eq_append_getElem h]
  generalize l.take i = a
  induction a with
  | nil => simp [szs]
  | cons x a ih => simp only [List.cons_append, szs, ih]; omega
theorem count_step (f dp : Nat) (hf : f + dp = 21) (l : List GNode) (hs : szs l ≤ 2 ^ 30) (ih : ∀ a ∈ l, 0 < f → PC Tryz.prog 24 [.sl false 3 (nodesA false a.kids), nat (dp + 1)] (nat (countF (f - 1) a.kids))) :
    PC Tryz.prog 24 [.sl false 3 (nodesA false l), nat dp] (nat (countF f l)) := by
  have hlen := szs_len l
  refine PC.of_bodyW (by simp only [push_cast]) Tryz.func24 rfl (by rw [Tryz.ntmps24]; simp) ?_
  refine AWp.regionW ?_
  refine AWp.regionW ?_
  refine AWp.seqK fun K1 hK1 => ?_
  refine AWp.regionW ?_
  refine AWp.condLM (fun c0 => ?_) (fun c0 => ?_)
  · skip
    have h0 : f = 0 := by have := of_decide_eq_true c0; omega
    refine AWp.regionW ?_
    refine AWp.ret ?_
    try simp only [thenQ, blockQ, noGo]
    refine bodyQ.m ?_
    clear hK1 K1
    rw [h0, countF]
    first | done | exact Hand.go
  · skip
    obtain ⟨e, rfl⟩ : ∃ e, f = e + 1 := ⟨f - 1, by have : ¬ 20 < dp := of_decide_eq_false c0; omega⟩
    rw [Nat.add_sub_cancel] at ih
    have hq : countF (e + 1) l = cntL (fun n => countF e n.kids) l 0 := rfl
    refine AWp.skip ?_
    refine hK1 _ ?_
    refine AWp.seqK fun K2 hK2 => ?_
    refine AWp.regionW ?_
    refine AWp.block ?_
    refine AWp.loopK0 [0, 1] (fun (x : Nat × Nat) => [(6, nat x.1), (5, nat x.2)]) (fun x => x.1 ≤ l.length ∧ cntL (fun n => countF e n.kids) (l.drop x.1) x.2 = countF (e + 1) l ∧ x.2 ≤ 2000 * szs (l.take x.1)) (fun x => l.length - x.1) ((0, 0)) ?_ ⟨Nat.zero_le _, rfl, Nat.zero_le _⟩ ?_
    · skip
      refine Le.m 0 ?_ ?_
      · first | with_reducible rfl | (simp only [push_cast, reduceIte, Nat.reduceEqDiff, Nat.reduceLT, Nat.reduceAdd, Nat.reduceSub, Nat.reduceMul, Nat.reduceLeDiff, Nat.reducePow, Int.reduceLT, Int.reduceToNat, reduceCtorEq, Int.reduceNeg, Int.reduceEq, Nat.reduceBEq, Nat.reduceBNe, Int.reduceBEq, Int.reduceBNe, String.reduceEq]; first | done | rfl | (simp (disch := omega) only [w_nat, w_add, w_addl, w_addr, w_sub, w_subl, w_mul, w_mull, w_mulr, w_u32, w_u16, w_u8, w_u32a, N_zero]; first | done | rfl))
      · first | (simp only [push_cast, reduceIte, Nat.reduceEqDiff, Nat.reduceLT, Nat.reduceAdd, Nat.reduceSub, Nat.reduceMul, Nat.reduceLeDiff, Nat.reducePow, Int.reduceLT, Int.reduceToNat, reduceCtorEq, Int.reduceNeg, Int.reduceEq, Nat.reduceBEq, Nat.reduceBNe, Int.reduceBEq, Int.reduceBNe, String.reduceEq]; first | done | rfl | (simp (disch := omega) only [w_nat, w_add, w_addl, w_addr, w_sub, w_subl, w_mul, w_mull, w_mulr, w_u32, w_u16, w_u8, w_u32a, N_zero]; first | done | rfl))
    · intro x hx K3 hK3
      obtain ⟨i, s⟩ := x
      obtain ⟨hi, hc, hb⟩ := hx
      simp only at hi hc hb
      refine AWp.seqK fun K4 hK4 => ?_
      refine AWp.regionA fun K5 hK5 => ?_
      refine ARun.segm 5 fun KS hKS => ?_
      refine ARun2.endm (hKS _ ?_); clear hKS KS
      apply ARun.grpM 2 4 true 15 [0, 1, 5, 6, 13]
      · intro g4 KG hKG
        refine ARun2.gom ?_
        exact ARun2.endm (hKG _ Le.grpM)
      refine ARun2.gom ?_
      refine ARun2.endm (hK5 _ ?_)
      refine AWp.condLM (fun c1 => ?_) (fun c1 => ?_)
      · skip
        have h1 : i < l.length ∧ s < 1000 := by simpa using c1
        have hil := h1.1
        have hm := List.getElem_mem hil
        have hsm := szs_mem hm
        have hse := GNode.sz_eq l[i]
        have hcl := countF_le e l[i].kids
        have hst := szs_take l i hil
        have hd : l.drop i = l[i] :: l.drop (i + 1) := List.drop_eq_getElem_cons hil
        refine AWp.skip ?_
        refine hK4 _ ?_
        refine AWp.seqK fun K6 hK6 => ?_
        refine AWp.block ?_
        refine AWp.drE [[(5, none)], [(19, some 0)], [(0, none)], [(6, none)], [(21, some 2), (22, some 3)], [(23, some 4)], [(24, some 5)], [(25, some 6)], [(26, some 7)], [(20, some 1), (27, some 8)], [(0, none)], [(6, none)], [(29, some 10), (30, some 11)], [(31, some 12)], [(32, some 13)], [(1, none)], [(34, some 15)], [(33, some 14), (35, some 16)], [(28, some 9), (36, some 17)], [(37, some 18)]] fun G hG => ?_
        refine Dr.sim ?_
        try simp only [List.cons_append, List.nil_append]
        refine Dr.sim ?_
        try simp only [List.cons_append, List.nil_append]
        refine Dr.sim ?_
        try simp only [List.cons_append, List.nil_append]
        refine Dr.sim ?_
        try simp only [List.cons_append, List.nil_append]
        refine Dr.idx (i) (nodeA false l[i]) ?_ ?_
        · exact nodesA_at _ _ _ hil
        try simp only [List.cons_append, List.nil_append]
        refine Dr.sim ?_
        try simp only [List.cons_append, List.nil_append]
        refine Dr.sim ?_
        try simp only [List.cons_append, List.nil_append]
        refine Dr.sim ?_
        try simp only [List.cons_append, List.nil_append]
        refine Dr.sim ?_
        try simp only [List.cons_append, List.nil_append]
        refine Dr.sim ?_
        try simp only [List.cons_append, List.nil_append]
        refine Dr.sim ?_
        try simp only [List.cons_append, List.nil_append]
        refine Dr.sim ?_
        try simp only [List.cons_append, List.nil_append]
        refine Dr.idx (i) (nodeA false l[i]) ?_ ?_
        · exact nodesA_at _ _ _ hil
        try simp only [List.cons_append, List.nil_append]
        refine Dr.sim ?_
        try simp only [List.cons_append, List.nil_append]
        refine Dr.sim ?_
        try simp only [List.cons_append, List.nil_append]
        refine Dr.sim ?_
        try simp only [List.cons_append, List.nil_append]
        refine Dr.sim ?_
        try simp only [List.cons_append, List.nil_append]
        refine Dr.call (ih l[i] hm (by omega)) ?_
        try simp only [List.cons_append, List.nil_append]
        refine Dr.sim ?_
        try simp only [List.cons_append, List.nil_append]
        refine Dr.sim ?_
        try simp only [List.cons_append, List.nil_append]
        refine Dr.finN (n := 20) [(5, 19)] [0, 1, 6] hG YtmcedkcehcacpaaGreatDoor.Facts.mixed fun KD hKD => ?_
        refine ARun2.endm (hKD _ ?_); clear hKD KD hG G
        refine hK6 _ ?_
        refine AWp.regionV ?_
        refine hK3 _ ((i + 1, s + 1 + l[i].data.length / 1000 + countF e l[i].kids)) (⟨hil, by rw [← hc, hd, cntL, if_pos h1.2], by simp only; omega⟩) (by simp only; omega) ?_
        refine Le.m 0 ?_ ?_
        · first | with_reducible rfl | (simp only [push_cast, reduceIte, Nat.reduceEqDiff, Nat.reduceLT, Nat.reduceAdd, Nat.reduceSub, Nat.reduceMul, Nat.reduceLeDiff, Nat.reducePow, Int.reduceLT, Int.reduceToNat, reduceCtorEq, Int.reduceNeg, Int.reduceEq, Nat.reduceBEq, Nat.reduceBNe, Int.reduceBEq, Int.reduceBNe, String.reduceEq]; first | done | rfl | (simp (disch := omega) only [w_nat, w_add, w_addl, w_addr, w_sub, w_subl, w_mul, w_mull, w_mulr, w_u32, w_u16, w_u8, w_u32a, N_zero]; first | done | rfl))
        · first | (simp only [push_cast, reduceIte, Nat.reduceEqDiff, Nat.reduceLT, Nat.reduceAdd, Nat.reduceSub, Nat.reduceMul, Nat.reduceLeDiff, Nat.reducePow, Int.reduceLT, Int.reduceToNat, reduceCtorEq, Int.reduceNeg, Int.reduceEq, Nat.reduceBEq, Nat.reduceBNe, Int.reduceBEq, Int.reduceBNe, String.reduceEq]; first | done | rfl | (simp (disch := omega) only [w_nat, w_add, w_addl, w_addr, w_sub, w_subl, w_mul, w_mull, w_mulr, w_u32, w_u16, w_u8, w_u32a, N_zero]; first | done | rfl))
      · skip
        have h1 : ¬ (i < l.length ∧ s < 1000) := by intro h; simp [h.1, h.2] at c1
        have hr : countF (e + 1) l = s := by
          rw [← hc]
          rcases Nat.lt_or_ge i l.length with h | h
          · rw [List.drop_eq_getElem_cons h, cntL, if_neg (fun h2 => h1 ⟨h, h2⟩)]
          · rw [List.drop_of_length_le h, cntL]
        refine AWp.exit ?_
        try simp only [thenQ, blockQ, noGo, reduceIte, Nat.reduceEqDiff]
        refine hK2 _ ?_
        refine AWp.regionW ?_
        refine AWp.ret ?_
        try simp only [thenQ, blockQ, noGo]
        refine bodyQ.m ?_
        clear hK5 K5 hK4 K4 hK3 K3 hK2 K2 hK1 K1
        rw [hr]
        first | done | exact Hand.go
theorem count_w : ∀ (f dp : Nat) (l : List GNode), f + dp = 21 → szs l ≤ 2 ^ 30 → PC Tryz.prog 24 [.sl false 3 (nodesA false l), nat dp] (nat (countF f l)) := by
  intro f
  induction f with
  | zero => exact fun dp l h hs => count_step 0 dp h l hs (fun a _ h => by omega)
  | succ f ih => exact fun dp l h hs => count_step (f + 1) dp h l hs (fun a ha _ => ih (dp + 1) a.kids (by omega) (by have := szs_mem ha; rw [GNode.sz_eq] at this; omega))
/-- are there few nodes? -/
def fewN (l : List GNode) : Bool := decide (countF 21 l ≤ 200)
theorem few_c (l : List GNode) (hs : szs l ≤ 2 ^ 30) : PC Tryz.prog 7 [.sl false 3 (nodesA false l)] (bool (fewN l)) := by
  refine PC.of_bodyW (by simp only [push_cast]) Tryz.func7 rfl (by rw [Tryz.ntmps7]; simp) ?_
  refine AWp.regionW ?_
  refine AWp.regionM fun K1 hK1 => ?_
  refine ARun2.callM (count_w 21 0 l rfl hs) ?_
  refine ARun2.endm (hK1 _ ?_)
  refine AWp.ret ?_
  try simp only [thenQ, blockQ, noGo]
  refine bodyQ.m ?_
  clear hK1 K1
  rw [fewN]
  first | done | exact Hand.go
end Go.Proofs.YtmcedkcehcacpaaGreatDoor.C
/- Regions that draw their order, in whose head a row of the call's own is made and grown. No condition. -/
namespace Go.Abs
set_option linter.unusedVariables false
set_option linter.unusedSectionVars false
set_option linter.unusedSimpArgs false
set_option linter.unnecessarySimpa false
theorem Chg.rfl' (D B : Nat → Prop) (w : World) : Chg D B w D B w :=
  ⟨rfl, rfl, rfl, Nat.le_refl _, fun _ _ _ => rfl, fun _ h => .inl h, fun _ h => h, fun _ h => .inl h⟩
theorem Chg.trans' {D B D1 B1 D2 B2 : Nat → Prop} {w w1 w2 : World} (h : Chg D B w D1 B1 w1) (k : Chg D1 B1 w1 D2 B2 w2) : Chg D B w D2 B2 w2 := by
  refine ⟨k.os.trans h.os, k.tape.trans h.tape, k.output.trans h.output, Nat.le_trans h.size k.size, fun b hb hd => ?_, fun b hb => ?_, fun b hb => k.bsub b (h.bsub b hb), fun b hb => ?_⟩
  · refine (k.block b (Nat.lt_of_lt_of_le hb h.size) fun hd1 => ?_).trans (h.block b hb hd)
    rcases h.dsub b hd1 with h' | h'
    · exact hd h'
    · omega
  · rcases k.dsub b hb with h' | h'
    · exact h.dsub b h'
    · exact .inr (Nat.le_trans h.size h')
  · rcases k.bnew b hb with h' | h' | h'
    · exact h.bnew b h'
    · exact .inr (h.dsub b h')
    · exact .inr (.inr (Nat.le_trans h.size h'))
/-- who looks on sees besides what was changed since -/
def Env.spy (E : Env) (D0 B0 : Nat → Prop) (w : World) : Env := { E with J := fun tr go D B w' => E.J tr go D B w' ∧ Chg D0 B0 w D B w' }
section
variable {P : Program} {ops : Array Oper} {E : Env} {s s' : AS} {ρ ρ' : List Value} {B B' : Nat → Prop} {a a' : Act} {w w' : World} {o : Oper} {rest : List Oper} {Q : AS → Prop} {R : Exit → AS → Prop} {nds : List (List (Nat × Option Nat))} {vals : List AV} {G : Prop}
theorem RW.spied {D0 B0 : Nat → Prop} {w0 : World} {ob : List Ob} (h : RW E ob ρ B w) : RW (E.spy D0 B0 w0) ob ρ B w :=
  ⟨h.os, h.tape, h.output, h.size, h.block, h.pre, h.bsub, h.bnew, h.blt, h.len, h.obs, h.dis, h.prv⟩
theorem RW.unspied {D0 B0 : Nat → Prop} {w0 : World} {ob : List Ob} (h : RW (E.spy D0 B0 w0) ob ρ B w) : RW E ob ρ B w :=
  ⟨h.os, h.tape, h.output, h.size, h.block, h.pre, h.bsub, h.bnew, h.blt, h.len, h.obs, h.dis, h.prv⟩
theorem RS.spied (h : RS E s ρ B a w) : RS (E.spy (fun b => Dof s.ob ρ b ∨ b ∈ s.df) B w) s ρ B a w := by
  refine ⟨h.rw_.spied, h.m, h.n, h.df, ⟨⟨h.jj.j, Chg.rfl' _ _ _⟩, ?_, h.jj.nodup, h.jj.mks⟩, h.rf⟩
  intro tr go D B w D' B' w' hj hc hb
  exact ⟨h.jj.stab tr go D B w D' B' w' hj.1 hc hb, hj.2.trans' hc⟩
theorem RS.unspied {D0 B0 : Nat → Prop} {w0 : World} (hst : E.Stab) (h : RS (E.spy D0 B0 w0) s ρ B a w) : RS E s ρ B a w ∧ Chg D0 B0 w0 (fun b => Dof s.ob ρ b ∨ b ∈ s.df) B w :=
  ⟨⟨h.rw_.unspied, h.m, h.n, h.df, ⟨h.jj.j.1, hst, h.jj.nodup, h.jj.mks⟩, h.rf⟩, h.jj.j.2⟩
/-- an operation of a chain: the call's new object stands at X, then at X' -/
def CSpec (P : Program) (ops : Array Oper) (o : Oper) (s : AS) (X X' : List Ob) (x : AV) : Prop :=
  ∀ (E : Env), E.Ok P → ∀ (ρ : List Value) (B : Nat → Prop) (a : Act) (w : World), RS E { s with ob := s.ob ++ X } ρ B a w → ∀ (K : Act → World → Prop) (Q' : Exit → Act → World → Prop),
    (∀ v w' ρ' B', RJ E s (s.ob ++ X') ρ' B' w' → (∀ b, B b → B' b) → (∀ b, B b → w'.heap[b]? = w.heap[b]?) → (∀ (j : Nat) (u : Value), j < s.ob.length → ρ[j]? = some u → ρ'[j]? = some u) → Rel w' B' E.bs ρ' x v → K (a.put o.dst v) w') →
    if Region.wanted o (yielded ops a.tmps) then owp E.rnd P o a w K Q' else K (a.put o.dst undef) w
theorem CSpec.own {T e : TypeId} {sz : Nat} (hg : gd ops s o = some true) (ho : o.op = .buildSlice T 0 #[]) (hz : elSz P T = some sz) (he : elT P T = some e) : CSpec P ops o s [] [.row e sz []] (.own s.ob.length) := by
  intro E hE ρ B a w hs K Q' hK
  have hs' : RS E s ρ B a w := by simpa using hs
  refine ASpec.own hg ho hz he E ρ B a w hs' K Q' fun v w' u h1 h2 h3 => ?_
  exact hK v w' _ B h1 (fun _ h => h) h2 (fun j u _ h => get_append_some h) h3
theorem inval_ids {k : Nat} {x : AV} (h : x.idsOk (fun j => decide (j < k)) = true) : AV.inval k x = x := by
  unfold AV.inval
  rw [if_pos (idsOk_mono (fun j hj => by simp only [decide_eq_true_eq] at hj; simp only [bne_iff_ne, ne_eq]; omega) _ h)]
theorem ob_inval_ids {k : Nat} {o : Ob} (h : obIds (fun j => decide (j < k)) o = true) : Ob.inval k o = o := by
  cases o with
  | box T cs =>
    simp only [Ob.inval, Ob.box.injEq, true_and]
    simp only [obIds] at h
    refine (List.map_congr_left (g := id) fun x hx => inval_ids ?_).trans (List.map_id _)
    exact (AV.idsOkL_iff _ _).1 h x hx
  | row T sz xs =>
    simp only [obIds] at h
    simp only [Ob.inval]
    rw [if_pos (idsOkL_mono (fun j hj => by simp only [decide_eq_true_eq] at hj; simp only [bne_iff_ne, ne_eq]; omega) _ h)]
  | mp es => rfl
  | gone => rfl
/-- the row is grown -/
theorem CSpec.append {T T2 : TypeId} {x y : Operand} {sz : Nat} {e : TypeId} {xs ys : List AV} (hg : gd ops s o = some true) (ho : o.op = .call { callee := .builtin .append, args := #[x, y], argTypes := #[T, T2] }) (hx : s.ev x = .own s.ob.length)
    (hz : elSz P T = some sz) (hT : elT P T = some e) (h2 : isSlc P T2 = true ∨ isStr P T2 = true) (hsrc : srcOf s sz (s.ev y) = some ys) (hb : 2 * (xs.length + ys.length) * elB P T ≤ 2 ^ 48) (hsm : xs.length + ys.length ≤ 2 ^ 60)
    (hid : AV.idsOkL (· != s.ob.length) xs = true) (hid2 : AV.idsOkL (· != s.ob.length) ys = true) (hob : s.ob.all (obIds (fun j => decide (j < s.ob.length))) = true) : CSpec P ops o s [.row e sz xs] [.row e sz (xs ++ ys)] (.own s.ob.length) := by
  intro E hE ρ B a w hs K Q' hK
  rw [if_pos (gd_wanted (s := { s with ob := s.ob ++ [.row e sz xs] }) hg hs)]
  have hs1 := hs.spied
  have hev : AS.ev { s with ob := s.ob ++ [.row e sz xs] } = s.ev := funext fun y => by cases y <;> rfl
  have hxr := hs.ev x
  rw [hev, hx] at hxr
  have hyr := hs1.ev y
  rw [hev] at hyr
  generalize hu : a.eval x = u at hxr
  cases hxr with
  | own hp h1c =>
    have hk : (s.ob ++ [Ob.row e sz xs])[s.ob.length]? = some (.row e sz xs) := by simp
    obtain ⟨v', w', h1, h3, h4⟩ := append_core (P := P) (ty := o.type) (T := T) (T2 := T2) (k := s.ob.length) hs1 hz (elT_spec hT) h2 hk hp (srcOf_new hsrc) hyr hb hsm hid hid2
    obtain ⟨h3', hc⟩ := h3.unspied hs.jj.stab
    have hmap : s.ob.map (Ob.inval s.ob.length) = s.ob := by
      refine (List.map_congr_left (g := id) fun q hq => ob_inval_ids ?_).trans (List.map_id _)
      exact List.all_eq_true.1 hob q hq
    have hrow : Ob.inval s.ob.length (.row e sz xs) = .row e sz xs := by simp only [Ob.inval]; rw [if_pos hid]
    have e1 : ((s.ob ++ [Ob.row e sz xs]).map (Ob.inval s.ob.length)).set s.ob.length (.row e sz (xs ++ ys)) = s.ob ++ [.row e sz (xs ++ ys)] := by
      rw [List.map_append, hmap, List.map_cons, List.map_nil, hrow, List.set_append_right _ _ (Nat.le_refl _), Nat.sub_self, List.set_cons_zero]
    have hj : RJ E s (s.ob ++ [.row e sz (xs ++ ys)]) (ρ.set s.ob.length v') B w' := by
      have := h3'.rj
      rw [← e1]; exact this
    have hrun : (execOp a.eval o).run P w = .ok (.value v') w' := by simp [execOp, ho, resolve, invoke, builtin, hu, h1]
    have hkρ := get_lt hp
    refine owp_value hrun (hK v' w' _ B hj (fun _ h => h) (fun b hb => hc.block b (hs.rw_.blt b hb) fun hd => ?_) (fun j u hj' hu' => ?_) (.own ?_ h4))
    · rcases hd with ⟨k, o2, v2, a1, a2, a3, a4⟩ | hd
      · exact (hs.rw_.prv k o2 v2 b a1 a2 a3 a4).1 hb
      · exact (hs.jj.mks b hd).2.2.1 hb
    · rw [List.getElem?_set_ne (by omega)]; exact hu'
    · rw [List.getElem?_set_self hkρ]
/-! ### the head -/
/-- the checks: ci: the chain's operations; nds: what each operation needs -/
def drawnCB (ops : Array Oper) (n sn : Nat) (ci : List Nat) (nds : List (List (Nat × Option Nat))) : Bool :=
  drawnH ops n sn nds && decide ci.Nodup && (ci.all fun i => decide (i < n)) &&
  ((List.range ci.length).all fun l => decide (l = 0) || Region.waitsFor .any ops (ci.getD l 0) (ci.getD (l - 1) 0)) &&
  ((List.range n).all fun i => (nds.getD i []).all fun p => match p.2 with
    | some j => !ci.contains j || (List.range ci.length).any fun l => decide (0 < l) && decide (ci.getD (l - 1) 0 = j) && decide (ci.getD l 0 = i)
    | none => true)
structure CInv (E : Env) (s : AS) (ops : Array Oper) (n : Nat) (vals : List AV) (ci : List Nat) (obs : Nat → List Ob) (ρ0 ρ : List Value) (B : Nat → Prop) (listed : Array Bool) (k : Nat) (a : Act) (w : World) : Prop where
  rj : RJ E s (s.ob ++ obs k) ρ B w
  pre : ∀ (j : Nat) (u : Value), ρ0[j]? = some u → ρ[j]? = some u
  m : E.ρ0.length ≤ s.m ∧ E.pp.length ≤ s.m ∧ E.yl = s.yl
  sz : a.tmps.size = s.n
  df : a.defers = s.df.map mark
  kle : k ≤ ci.length
  pos : ∀ l, l < ci.length → (listed.getD (ci.getD l 0) false = true ↔ l < k)
  new1 : ∀ (i d : Nat), i < n → i ∉ ci → listed.getD i false = true → dstOf ops i = some d → Rel w B E.bs ρ0 (vals.getD i .any) (a.tmps.getD d undef)
  new2 : ∀ (d : Nat), 0 < k → dstOf ops (ci.getD (k - 1) 0) = some d → Rel w B E.bs ρ (vals.getD (ci.getD (k - 1) 0) .any) (a.tmps.getD d undef)
  old : ∀ t, (∀ i, i < n → listed.getD i false = true → dstOf ops i ≠ some t) → Rel w B E.bs ρ0 (lk s.fr t) (a.tmps.getD t undef)
theorem getD_mem {l : List Nat} {i : Nat} (h : i < l.length) : l.getD i 0 ∈ l := by
  rw [List.getD_eq_getElem?_getD, List.getElem?_eq_getElem h]; exact List.getElem_mem h
theorem getD_inj {l : List Nat} (hn : l.Nodup) {i j : Nat} (hi : i < l.length) (hj : j < l.length) (h : l.getD i 0 = l.getD j 0) : i = j := by
  rw [List.getD_eq_getElem?_getD, List.getElem?_eq_getElem hi, List.getD_eq_getElem?_getD, List.getElem?_eq_getElem hj] at h
  have hp := List.pairwise_iff_getElem.1 hn
  rcases Nat.lt_trichotomy i j with hlt | heq | hgt
  · exact absurd h (hp i j hi hj hlt)
  · exact heq
  · exact absurd h.symm (hp j i hj hi hgt)
theorem mem_getD {l : List Nat} {x : Nat} (h : x ∈ l) : ∃ i, i < l.length ∧ l.getD i 0 = x := by
  obtain ⟨i, hi, e⟩ := List.mem_iff_getElem.1 h
  exact ⟨i, hi, by rw [List.getD_eq_getElem?_getD, List.getElem?_eq_getElem hi]; exact e⟩
theorem AWp.drawnC {id : Nat} {R : Exit → AS → Prop} (n : Nat) (nds : List (List (Nat × Option Nat))) (vals : List AV) (ci : List Nat) (obs : Nat → List Ob) (fr1 : List (Nat × AV)) (hm : P.follows .mixedOrders = true) (hn : n ≤ ops.size) (h0 : obs 0 = []) (hB : drawnCB ops n s.n ci nds = true)
    (hT : ∀ listed, HeadInv .any ops n listed → (∃ i, i < n ∧ listed.getD i true = false) → ∀ j, n ≤ j → j ∉ Region.ready .any ops listed)
    (specs : ∀ i o, i < n → ops[i]? = some o → i ∉ ci → NSpec P ops o { s with fr := needFr s.fr vals (nds.getD i []) } (vals.getD i .any))
    (hid : ∀ i, i < n → i ∉ ci → (vals.getD i .any).idsOk (fun j => decide (j < s.ob.length)) = true)
    (cspec : ∀ l o, l < ci.length → ops[ci.getD l 0]? = some o → CSpec P ops o { s with fr := needFr s.fr vals (nds.getD (ci.getD l 0) []) } (obs l) (obs (l + 1)) (vals.getD (ci.getD l 0) .any))
    (hfr : ∀ t x, (t, x) ∈ fr1 → t < s.n ∧ ((∃ i, i < n ∧ dstOf ops i = some t ∧ x = vals.getD i .any ∧ (i ∉ ci ∨ (0 < ci.length ∧ ci.getD (ci.length - 1) 0 = i))) ∨ ((∀ i, i < n → dstOf ops i ≠ some t) ∧ x = lk s.fr t)))
    (K : AAny P ops (ops.size - n) (listed0 n ops.size) (R .normal) { s with fr := fr1, ob := s.ob ++ obs ci.length }) : AWp P (.region id ops true) s R := by
  intro E hE ρ0 B0 a0 w0 hs0 Q' hQ
  refine wpIn_region_any hm ?_
  simp only [drawnCB, Bool.and_eq_true, decide_eq_true_eq] at hB
  obtain ⟨⟨⟨⟨hhead, hnd⟩, hcn⟩, hcw⟩, hcneed⟩ := hB
  simp only [drawnH] at hhead
  have head : ∀ i, i < n → ∃ o, ops[i]? = some o ∧ (∀ e ∈ o.after, Region.binds .any e = true → e.on < i) ∧ (∀ d, o.dst = some d → d < s.n ∧ ∀ j, j < n → dstOf ops j = some d → j = i) ∧
      (∀ p ∈ nds.getD i [], match p.2 with
        | some j => j < n ∧ dstOf ops j = some p.1 ∧ Region.waitsFor .any ops i j = true
        | none => p.1 < s.n ∧ ∀ j, j < n → dstOf ops j = some p.1 → (j ≠ i ∧ Region.waitsFor .any ops j i = true) ∨ j = i) := by
    intro i hi
    have h := List.all_eq_true.1 hhead i (List.mem_range.2 hi)
    cases ho : ops[i]? with
    | none => simp [ho] at h
    | some o =>
      simp only [ho, Bool.and_eq_true] at h
      obtain ⟨⟨h1, h2⟩, h3⟩ := h
      refine ⟨o, rfl, ?_, ?_, ?_⟩
      · intro e he hb
        have := Array.all_eq_true_iff_forall_mem.1 h1 e he
        simpa [hb] using this
      · intro d hd
        simp only [hd, Bool.and_eq_true, decide_eq_true_eq] at h2
        refine ⟨h2.1, fun j hj hdj => ?_⟩
        have := List.all_eq_true.1 h2.2 j (List.mem_range.2 hj)
        simp only [Bool.or_eq_true, decide_eq_true_eq] at this
        rcases this with this | this
        · exact this
        · exact absurd hdj this
      · intro p hp
        have := List.all_eq_true.1 h3 p hp
        cases hp2 : p.2 with
        | some j =>
          simp only [hp2, Bool.and_eq_true, decide_eq_true_eq] at this
          exact ⟨this.1.1, this.1.2, this.2⟩
        | none =>
          simp only [hp2, Bool.and_eq_true, decide_eq_true_eq] at this
          refine ⟨this.1, ?_⟩
          intro j hj hdj
          have := List.all_eq_true.1 this.2 j (List.mem_range.2 hj)
          simp only [Bool.or_eq_true, decide_eq_true_eq, Bool.and_eq_true] at this
          rcases this with (this | this) | this
          · exact absurd hdj this
          · exact .inl this
          · exact .inr this
  have hlen0 : ρ0.length = s.ob.length := hs0.rw_.len
  have hs0' : RS E s ρ0 B0 a0 { w0 with drawn := w0.drawn + 1 } := hs0.same ⟨rfl, rfl, rfl, Nat.le_refl _, fun _ _ => rfl⟩
  have main : ∀ (u : Nat) (listed : Array Bool) (ρ : List Value) (B : Nat → Prop) (k : Nat) (a : Act) (w : World), left n listed = u → HeadInv .any ops n listed → CInv E s ops n vals ci obs ρ0 ρ B listed k a w → wpAnyIn (FR E.rnd) 0 P .any ops Q' (u + (ops.size - n)) listed a w := by
    intro u
    induction u with
    | zero =>
      intro listed ρ B k a w hu inv hi
      have hall := left_zero hu
      have hlisted : listed = listed0 n ops.size := by
        apply Array.ext
        · simp [inv.size, listed0]
        · intro i h1 h2
          have hi' : i < ops.size := by rw [← inv.size]; exact h1
          have hg : listed.getD i false = listed[i] := by simp [h1]
          have : listed[i] = decide (i < n) := by
            by_cases hin : i < n
            · rw [← hg, hall i hin]; simp [hin]
            · have h3 := getD_both (inv.tail i (by omega) hi')
              rw [← hg, h3]; simp [hin]
          rw [this]; simp [listed0]
      have hk : k = ci.length := by
        rcases Nat.lt_or_ge k ci.length with h | h
        · have := (hi.pos k h).1 (hall _ (by have := List.all_eq_true.1 hcn _ (getD_mem h); simpa using this))
          omega
        · exact Nat.le_antisymm hi.kle h
      subst hk
      rw [Nat.zero_add, hlisted]
      refine K E hE ρ B a w ⟨hi.rj.1, hi.m, hi.sz, hi.df, hi.rj.2, ?_⟩ Q' (fun s' ρ' B' a' w' q hs' => hQ _ _ _ _ _ _ q hs')
      intro t x hmem
      obtain ⟨hlt, h⟩ := hfr t x hmem
      refine ⟨by rw [hi.sz]; exact hlt, ?_⟩
      rcases h with ⟨i, h1, h2, rfl, h3⟩ | ⟨h1, rfl⟩
      · rcases h3 with h3 | ⟨h3, rfl⟩
        · exact (hi.new1 i t h1 h3 (hall i h1) h2).mono (fun _ h => h) (fun _ _ => rfl) (Nat.le_refl _) hi.pre
        · exact hi.new2 t h3 h2
      · exact (hi.old t (fun i hi' _ => h1 i hi')).mono (fun _ h => h) (fun _ _ => rfl) (Nat.le_refl _) hi.pre
    | succ u ih =>
      intro listed ρ B k a w hu inv hi
      have hex : ∃ i, i < n ∧ listed.getD i false = false := by
        apply Classical.byContradiction
        intro hne
        have hz : left n listed = 0 := by
          unfold left
          rw [List.countP_eq_zero]
          intro i hi'
          have := List.mem_range.1 hi'
          have h2 : ¬ listed.getD i false = false := fun e => hne ⟨i, this, e⟩
          simpa using h2
        omega
      have hnr : ∀ j ∈ Region.ready .any ops listed, j < n := by
        intro j hj
        rcases Nat.lt_or_ge j n with h | h
        · exact h
        · exfalso
          obtain ⟨i, hin, hil⟩ := hex
          exact hT listed inv ⟨i, hin, getD_in (by rw [inv.size]; omega) hil⟩ j h hj
      rw [show u + 1 + (ops.size - n) = (u + (ops.size - n)) + 1 by omega]
      refine ⟨?_, ?_⟩
      · intro hempty
        exfalso
        obtain ⟨i, ⟨hin, hil⟩, hmin⟩ := exists_least (p := fun i => i < n ∧ listed.getD i false = false) hex
        obtain ⟨o, ho, hedge, _, _⟩ := head i hin
        have hready : i ∈ Region.ready .any ops listed := by
          rw [mem_ready]
          refine ⟨getD_in (by rw [inv.size]; omega) hil, o, ho, ?_⟩
          intro e he hb
          have hlt := hedge e he hb
          cases hl : listed.getD e.on false with
          | true => rfl
          | false =>
            have := hmin e.on ⟨by omega, hl⟩
            omega
        rw [hempty] at hready
        cases hready
      · intro i hr
        have hin := hnr i hr
        obtain ⟨hun, o', ho', hwait⟩ := mem_ready.1 hr
        obtain ⟨o, ho, hedge, hdst, hneed⟩ := head i hin
        have : o' = o := Option.some.inj (ho'.symm.trans ho)
        subst this
        have hil : listed.getD i false = false := getD_both hun
        have hsz : i < listed.size := by rw [inv.size]; omega
        have hleft := left_set hin hsz hil
        have inv' := inv.set hr hin
        have waits : ∀ j, Region.waitsFor .any ops i j = true → listed.getD j false = true := by
          intro j hj
          obtain ⟨o2, h2, e, he, hb, rfl⟩ := Region.waitsFor_spec hj
          have : o2 = o' := Option.some.inj (h2.symm.trans ho)
          subst this
          exact hwait e he hb
        have notyet : ∀ j, Region.waitsFor .any ops j i = true → listed.getD j false = false := by
          intro j hj
          obtain ⟨o2, h2, e, he, hb, hon⟩ := Region.waitsFor_spec hj
          cases hl : listed.getD j false with
          | false => rfl
          | true =>
            have := inv.closed j o2 h2 hl e he hb
            rw [hon, hil] at this
            cases this
        -- where a chain's operation comes up, the chain stands in front of it
        have stage : ∀ l, l < ci.length → ci.getD l 0 = i → l = k := by
          intro l hl hli
          have h1 : ¬ l < k := fun h => by
            have := (hi.pos l hl).2 h
            rw [hli, hil] at this
            cases this
          rcases Nat.lt_or_ge k l with h2 | h2
          · exfalso
            have hw := List.all_eq_true.1 hcw l (List.mem_range.2 hl)
            simp only [Bool.or_eq_true, decide_eq_true_eq] at hw
            rcases hw with hw | hw
            · omega
            · rw [hli] at hw
              have := (hi.pos (l - 1) (by omega)).1 (waits _ hw)
              omega
          · omega
        have hneedv : ∀ (t j : Nat), (t, some j) ∈ nds.getD i [] → Rel w B E.bs ρ (vals.getD j .any) (a.tmps.getD t undef) := by
          intro t j hmem
          have h := hneed _ hmem
          simp only at h
          obtain ⟨hj, hdj, hw⟩ := h
          have hcc := List.all_eq_true.1 (List.all_eq_true.1 hcneed i (List.mem_range.2 hin)) _ hmem
          simp only [Bool.or_eq_true, Bool.not_eq_true', List.contains_eq_mem, decide_eq_false_iff_not] at hcc
          rcases hcc with hcc | hcc
          · exact (hi.new1 j t hj hcc (waits j hw) hdj).mono (fun _ h => h) (fun _ _ => rfl) (Nat.le_refl _) hi.pre
          · obtain ⟨l, hl, hcc⟩ := List.any_eq_true.1 hcc
            simp only [Bool.and_eq_true, decide_eq_true_eq] at hcc
            obtain ⟨⟨q1, q2⟩, q3⟩ := hcc
            have hlk := stage l (List.mem_range.1 hl) q3
            subst hlk
            subst q2
            exact hi.new2 t q1 hdj
        have hrs : ∀ ob, ob = s.ob ++ obs k → RS E { s with fr := needFr s.fr vals (nds.getD i []), ob := ob } ρ B a w := by
          rintro ob rfl
          refine ⟨hi.rj.1, hi.m, hi.sz, hi.df, hi.rj.2, ?_⟩
          intro t x hmem
          rcases needFr_mem hmem with ⟨j, h1, rfl⟩ | ⟨h1, rfl⟩
          · have h := hneed _ h1
            simp only at h
            obtain ⟨hj, hdj, hw⟩ := h
            refine ⟨?_, hneedv t j h1⟩
            obtain ⟨oj, hoj, _, hdj', _⟩ := head j hj
            have : oj.dst = some t := by simpa [dstOf, hoj] using hdj
            rw [hi.sz]; exact (hdj' t this).1
          · have h := hneed _ h1
            simp only at h
            refine ⟨by rw [hi.sz]; exact h.1, (hi.old t ?_).mono (fun _ h => h) (fun _ _ => rfl) (Nat.le_refl _) hi.pre⟩
            intro j hj hl hdj
            rcases h.2 j hj hdj with ⟨_, h⟩ | h
            · rw [notyet j h] at hl; cases hl
            · subst h; rw [hil] at hl; cases hl
        -- what stays when operation i has come up
        have tmpsEq : ∀ (v : Value) (d : Nat), o'.dst ≠ some d → (a.put o'.dst v).tmps.getD d undef = a.tmps.getD d undef := by
          intro v d hd
          cases hd' : o'.dst with
          | none => rfl
          | some d' =>
            have hne : d' ≠ d := by rintro rfl; exact hd hd'
            simp [Act.put, Array.getD_eq_getD_getElem?, Array.getElem?_setIfInBounds_ne hne]
        have tmpsNew : ∀ (v : Value) (d : Nat), o'.dst = some d → (a.put o'.dst v).tmps.getD d undef = v := by
          intro v d hd
          have := (hdst d hd).1
          rw [hd]; simp [Act.put, Array.getD_eq_getD_getElem?, hi.sz, this]
        have step : ∀ (v : Value) (w' : World) (ρ' : List Value) (B' : Nat → Prop) (k' : Nat), RJ E s (s.ob ++ obs k') ρ' B' w' → (∀ b, B b → B' b) → (∀ b, B b → w'.heap[b]? = w.heap[b]?) → (∀ (j : Nat) (u : Value), ρ0[j]? = some u → ρ'[j]? = some u) →
            k' ≤ ci.length → (∀ l, l < ci.length → ((listed.setIfInBounds i true).getD (ci.getD l 0) false = true ↔ l < k')) → (i ∉ ci → Rel w' B' E.bs ρ0 (vals.getD i .any) v) →
            (∀ d, 0 < k' → dstOf ops (ci.getD (k' - 1) 0) = some d → Rel w' B' E.bs ρ' (vals.getD (ci.getD (k' - 1) 0) .any) ((a.put o'.dst v).tmps.getD d undef)) →
            wpAnyIn (FR E.rnd) 0 P .any ops Q' (u + (ops.size - n)) (listed.setIfInBounds i true) (a.put o'.dst v) w' := by
          intro v w' ρ' B' k' h1 h2 h3 h4 h5 h6 h7 h8
          refine ih _ ρ' B' k' _ _ (by omega) inv' ⟨h1, h4, hi.m, ?_, ?_, h5, h6, ?_, h8, ?_⟩
          · cases o'.dst <;> simp [Act.put, hi.sz]
          · cases o'.dst <;> simp [Act.put, hi.df]
          · intro j d hj hjc hl hdj
            by_cases hji : j = i
            · subst hji
              have hd : o'.dst = some d := by simpa [dstOf, ho] using hdj
              rw [tmpsNew v d hd]; exact h7 hjc
            · rw [getD_set_ne false (Ne.symm hji)] at hl
              have hold := (hi.new1 j d hj hjc hl hdj).mono h2 h3 (Nat.le_refl _) (fun _ _ h => h)
              rw [tmpsEq v d (fun hd => hji ((hdst d hd).2 j hj hdj))]; exact hold
          · intro t ht
            have hold := (hi.old t (fun j hj hl => ht j hj (by
              by_cases hji : j = i
              · subst hji; rw [hil] at hl; cases hl
              · rw [getD_set_ne false (Ne.symm hji)]; exact hl))).mono h2 h3 (Nat.le_refl _) (fun _ _ h => h)
            rw [tmpsEq v t (fun hd => ht i hin (by simp [hsz]) (by simp [dstOf, ho, hd]))]; exact hold
        unfold wpOpIn
        simp only [ho]
        have fin : ∀ {K' : Act → World → Prop}, (if Region.wanted o' (yielded ops a.tmps) then owp E.rnd P o' a w K' Q' else K' (a.put o'.dst undef) w) → (if Region.wanted o' (yielded ops a.tmps) then o'.wpIn (FR E.rnd) 0 P a w K' Q' else (∀ f, o'.about P w a.eval = some f → (FR E.rnd).fn f) ∧ K' (a.put o'.dst undef) w) := by
          intro K' h
          split at h
          · rename_i hw; rw [if_pos hw]; exact h
          · rename_i hw; rw [if_neg hw]; exact ⟨fun _ _ => trivial, h⟩
        refine fin ?_
        by_cases hic : i ∈ ci
        · obtain ⟨l, hl, hli⟩ := mem_getD hic
          have hlk := stage l hl hli
          subst hlk
          have hcs := cspec l o' hl (by rw [hli]; exact ho)
          rw [hli] at hcs
          refine hcs E hE ρ B a w (hrs _ rfl) _ Q' ?_
          intro v w' ρ' B' h1 h2 h3 h4 h5
          have hpre : ∀ (j : Nat) (u : Value), ρ0[j]? = some u → ρ'[j]? = some u := fun j u hj => h4 j u (by have := get_lt hj; show j < s.ob.length; omega) (hi.pre j u hj)
          refine step v w' ρ' B' (l + 1) h1 h2 h3 hpre hl ?_ (fun h => absurd hic h) ?_
          · intro l' hl'
            by_cases hll : l' = l
            · subst hll; rw [hli]; simp [hsz]
            · have hne : i ≠ ci.getD l' 0 := by rw [← hli]; exact fun e => hll (getD_inj hnd hl' hl e.symm)
              rw [getD_set_ne false hne, hi.pos l' hl']; omega
          · intro d _ hd
            rw [Nat.add_sub_cancel, hli] at hd ⊢
            rw [tmpsNew v d (by simpa [dstOf, ho] using hd)]; exact h5
        · refine specs i o' hin ho hic E hE ρ B a w (obs k) (hrs _ rfl) _ Q' ?_
          intro v w' B' h1 h2 h3 h4
          refine step v w' ρ B' k h1 h2 h3 hi.pre hi.kle ?_ (fun _ => ?_) ?_
          · intro l hl
            have hne : i ≠ ci.getD l 0 := fun e => hic (e ▸ getD_mem hl)
            rw [getD_set_ne false hne]; exact hi.pos l hl
          · refine h4.ids (p := fun j => decide (j < s.ob.length)) ?_ (hid i hin hic)
            intro j u hj hu
            simp only [decide_eq_true_eq] at hj
            have hlt : j < ρ0.length := by omega
            have := hi.pre j _ (List.getElem?_eq_getElem hlt)
            rw [hu] at this
            rw [List.getElem?_eq_getElem hlt, ← this]
          · intro d hk hd
            have hold := (hi.new2 d hk hd).mono h2 h3 (Nat.le_refl _) (fun _ _ h => h)
            have hne : ci.getD (k - 1) 0 ≠ i := fun e => hic (e ▸ getD_mem (by have := hi.kle; omega))
            have hcl : ci.getD (k - 1) 0 < n := by have := List.all_eq_true.1 hcn _ (getD_mem (l := ci) (i := k - 1) (by have := hi.kle; omega)); simpa using this
            rw [tmpsEq v d (fun hd' => hne ((hdst d hd').2 _ hcl hd))]; exact hold
  have inv0 : HeadInv .any ops n (Array.replicate ops.size false) :=
    ⟨by simp, fun j oj _ hl => (by rw [getD_replicate_false] at hl; cases hl), fun t _ ht => getD_in (by simpa using ht) (getD_replicate_false _ _)⟩
  have hc0 : CInv E s ops n vals ci obs ρ0 ρ0 B0 (Array.replicate ops.size false) 0 a0 { w0 with drawn := w0.drawn + 1 } := by
    refine ⟨?_, fun _ _ h => h, hs0'.m, hs0'.n, hs0'.df, Nat.zero_le _, fun l _ => (by rw [getD_replicate_false]; simp), fun i d _ _ hl => (by rw [getD_replicate_false] at hl; cases hl), fun d h => absurd h (Nat.lt_irrefl _), fun t _ => hs0'.get t⟩
    rw [h0, List.append_nil]; exact hs0'.rj
  have hl0 : left n (Array.replicate ops.size false) = n := by
    unfold left
    rw [List.countP_eq_length.2 (by intro i _; rw [getD_replicate_false]; rfl)]
    simp
  have := main n _ ρ0 B0 0 a0 _ hl0 inv0 hc0
  rwa [show n + (ops.size - n) = ops.size by omega] at this
/-! ### in the walk -/
/-- the chain's operations, one after the other: the object stands at X, at last at XL -/
def CL (P : Program) (ops : Array Oper) (s : AS) (nds1 : List (List (Nat × Option Nat))) (vals : List AV) : List Nat → List Ob → List Ob → Prop
  | [], X, XL => X = XL
  | i :: r, X, XL => ∃ X', (∀ o, ops[i]? = some o → CSpec P ops o { s with fr := needFr s.fr vals (nds1.getD i []) } X X' (vals.getD i .any)) ∧ CL P ops s nds1 vals r X' XL
theorem CL.obs {nds1 : List (List (Nat × Option Nat))} : ∀ {ci : List Nat} {X XL : List Ob}, CL P ops s nds1 vals ci X XL → ∃ obs : Nat → List Ob, obs 0 = X ∧ obs ci.length = XL ∧
    ∀ l o, l < ci.length → ops[ci.getD l 0]? = some o → CSpec P ops o { s with fr := needFr s.fr vals (nds1.getD (ci.getD l 0) []) } (obs l) (obs (l + 1)) (vals.getD (ci.getD l 0) .any)
  | [], X, XL, h => ⟨fun _ => X, rfl, h, fun l o hl => by simp at hl⟩
  | i :: r, X, XL, ⟨X', h1, h2⟩ => by
    obtain ⟨obs, a1, a2, a3⟩ := CL.obs h2
    refine ⟨fun l => match l with | 0 => X | l + 1 => obs l, rfl, a2, fun l o hl ho => ?_⟩
    cases l with
    | zero =>
      have := h1 o (by simpa using ho)
      simp only [List.getD_cons_zero]
      rw [a1]; exact this
    | succ l =>
      simp only [List.getD_cons_succ] at ho ⊢
      exact a3 l o (by simpa using hl) ho
section cl
variable {nds1 : List (List (Nat × Option Nat))} {X XL : List Ob} {i : Nat} {r : List Nat}
theorem CL.nil : CL P ops s nds1 vals [] X X := rfl
theorem CL.own {T e : TypeId} {sz : Nat} (k : CL P ops s nds1 vals r [.row e sz []] XL) (hol : ops[i]? = some o := by first | with_reducible rfl | (simp only [push_cast, reduceIte, Nat.reduceEqDiff, Nat.reduceLT, Nat.reduceAdd, Nat.reduceSub, Nat.reduceMul, Nat.reduceLeDiff, Nat.reducePow, Int.reduceLT, Int.reduceToNat, reduceCtorEq, Int.reduceNeg, Int.reduceEq, Nat.reduceBEq, Nat.reduceBNe, Int.reduceBEq, Int.reduceBNe, String.reduceEq]; first | done | rfl | (simp (disch := omega) only [w_nat, w_add, w_addl, w_addr, w_sub, w_subl, w_mul, w_mull, w_mulr, w_u32, w_u16, w_u8, w_u32a, N_zero]; first | done | rfl | (simp only [push_cast, reduceIte, Nat.reduceEqDiff, Nat.reduceLT, Nat.reduceAdd, Nat.reduceSub, Nat.reduceMul, Nat.reduceLeDiff, Nat.reducePow, Int.reduceLT, Int.reduceToNat, reduceCtorEq, Int.reduceNeg, Int.reduceEq, Nat.reduceBEq, Nat.reduceBNe, Int.reduceBEq, Int.reduceBNe, String.reduceEq]; first | done | rfl)))) (ho : o.op = .buildSlice T 0 #[] := by rfl) (hg : gd ops { s with fr := needFr s.fr vals (nds1.getD i []) } o = some true := by first | with_reducible rfl | (simp only [push_cast, reduceIte, Nat.reduceEqDiff, Nat.reduceLT, Nat.reduceAdd, Nat.reduceSub, Nat.reduceMul, Nat.reduceLeDiff, Nat.reducePow, Int.reduceLT, Int.reduceToNat, reduceCtorEq, Int.reduceNeg, Int.reduceEq, Nat.reduceBEq, Nat.reduceBNe, Int.reduceBEq, Int.reduceBNe, String.reduceEq]; first | done | rfl | (simp (disch := omega) only [w_nat, w_add, w_addl, w_addr, w_sub, w_subl, w_mul, w_mull, w_mulr, w_u32, w_u16, w_u8, w_u32a, N_zero]; first | done | rfl | (simp only [push_cast, reduceIte, Nat.reduceEqDiff, Nat.reduceLT, Nat.reduceAdd, Nat.reduceSub, Nat.reduceMul, Nat.reduceLeDiff, Nat.reducePow, Int.reduceLT, Int.reduceToNat, reduceCtorEq, Int.reduceNeg, Int.reduceEq, Nat.reduceBEq, Nat.reduceBNe, Int.reduceBEq, Int.reduceBNe, String.reduceEq]; first | done | rfl))))
    (hz : elSz P T = some sz := by first | with_reducible rfl | (simp only [push_cast, reduceIte, Nat.reduceEqDiff, Nat.reduceLT, Nat.reduceAdd, Nat.reduceSub, Nat.reduceMul, Nat.reduceLeDiff, Nat.reducePow, Int.reduceLT, Int.reduceToNat, reduceCtorEq, Int.reduceNeg, Int.reduceEq, Nat.reduceBEq, Nat.reduceBNe, Int.reduceBEq, Int.reduceBNe, String.reduceEq]; first | done | rfl | (simp (disch := omega) only [w_nat, w_add, w_addl, w_addr, w_sub, w_subl, w_mul, w_mull, w_mulr, w_u32, w_u16, w_u8, w_u32a, N_zero]; first | done | rfl | (simp only [push_cast, reduceIte, Nat.reduceEqDiff, Nat.reduceLT, Nat.reduceAdd, Nat.reduceSub, Nat.reduceMul, Nat.reduceLeDiff, Nat.reducePow, Int.reduceLT, Int.reduceToNat, reduceCtorEq, Int.reduceNeg, Int.reduceEq, Nat.reduceBEq, Nat.reduceBNe, Int.reduceBEq, Int.reduceBNe, String.reduceEq]; first | done | rfl)))) (he : elT P T = some e := by first | with_reducible rfl | (simp only [push_cast, reduceIte, Nat.reduceEqDiff, Nat.reduceLT, Nat.reduceAdd, Nat.reduceSub, Nat.reduceMul, Nat.reduceLeDiff, Nat.reducePow, Int.reduceLT, Int.reduceToNat, reduceCtorEq, Int.reduceNeg, Int.reduceEq, Nat.reduceBEq, Nat.reduceBNe, Int.reduceBEq, Int.reduceBNe, String.reduceEq]; first | done | rfl | (simp (disch := omega) only [w_nat, w_add, w_addl, w_addr, w_sub, w_subl, w_mul, w_mull, w_mulr, w_u32, w_u16, w_u8, w_u32a, N_zero]; first | done | rfl | (simp only [push_cast, reduceIte, Nat.reduceEqDiff, Nat.reduceLT, Nat.reduceAdd, Nat.reduceSub, Nat.reduceMul, Nat.reduceLeDiff, Nat.reducePow, Int.reduceLT, Int.reduceToNat, reduceCtorEq, Int.reduceNeg, Int.reduceEq, Nat.reduceBEq, Nat.reduceBNe, Int.reduceBEq, Int.reduceBNe, String.reduceEq]; first | done | rfl)))) (hv : vals.getD i .any = .own s.ob.length := by rfl) : CL P ops s nds1 vals (i :: r) [] XL :=
  ⟨_, fun o' ho' => by
    have : o' = o := Option.some.inj (ho'.symm.trans hol)
    subst this
    rw [hv]
    exact CSpec.own hg ho hz he, k⟩
theorem CL.app {T T2 e : TypeId} {x y : Operand} {sz : Nat} {xs ys zs : List AV} (k : CL P ops s nds1 vals r [.row e sz zs] XL) (hol : ops[i]? = some o := by first | with_reducible rfl | (simp only [push_cast, reduceIte, Nat.reduceEqDiff, Nat.reduceLT, Nat.reduceAdd, Nat.reduceSub, Nat.reduceMul, Nat.reduceLeDiff, Nat.reducePow, Int.reduceLT, Int.reduceToNat, reduceCtorEq, Int.reduceNeg, Int.reduceEq, Nat.reduceBEq, Nat.reduceBNe, Int.reduceBEq, Int.reduceBNe, String.reduceEq]; first | done | rfl | (simp (disch := omega) only [w_nat, w_add, w_addl, w_addr, w_sub, w_subl, w_mul, w_mull, w_mulr, w_u32, w_u16, w_u8, w_u32a, N_zero]; first | done | rfl | (simp only [push_cast, reduceIte, Nat.reduceEqDiff, Nat.reduceLT, Nat.reduceAdd, Nat.reduceSub, Nat.reduceMul, Nat.reduceLeDiff, Nat.reducePow, Int.reduceLT, Int.reduceToNat, reduceCtorEq, Int.reduceNeg, Int.reduceEq, Nat.reduceBEq, Nat.reduceBNe, Int.reduceBEq, Int.reduceBNe, String.reduceEq]; first | done | rfl)))) (ho : o.op = .call { callee := .builtin .append, args := #[x, y], argTypes := #[T, T2] } := by rfl)
    (hg : gd ops { s with fr := needFr s.fr vals (nds1.getD i []) } o = some true := by first | with_reducible rfl | (simp only [push_cast, reduceIte, Nat.reduceEqDiff, Nat.reduceLT, Nat.reduceAdd, Nat.reduceSub, Nat.reduceMul, Nat.reduceLeDiff, Nat.reducePow, Int.reduceLT, Int.reduceToNat, reduceCtorEq, Int.reduceNeg, Int.reduceEq, Nat.reduceBEq, Nat.reduceBNe, Int.reduceBEq, Int.reduceBNe, String.reduceEq]; first | done | rfl | (simp (disch := omega) only [w_nat, w_add, w_addl, w_addr, w_sub, w_subl, w_mul, w_mull, w_mulr, w_u32, w_u16, w_u8, w_u32a, N_zero]; first | done | rfl | (simp only [push_cast, reduceIte, Nat.reduceEqDiff, Nat.reduceLT, Nat.reduceAdd, Nat.reduceSub, Nat.reduceMul, Nat.reduceLeDiff, Nat.reducePow, Int.reduceLT, Int.reduceToNat, reduceCtorEq, Int.reduceNeg, Int.reduceEq, Nat.reduceBEq, Nat.reduceBNe, Int.reduceBEq, Int.reduceBNe, String.reduceEq]; first | done | rfl)))) (hx : AS.ev { s with fr := needFr s.fr vals (nds1.getD i []) } x = .own s.ob.length := by first | with_reducible rfl | (simp only [push_cast, reduceIte, Nat.reduceEqDiff, Nat.reduceLT, Nat.reduceAdd, Nat.reduceSub, Nat.reduceMul, Nat.reduceLeDiff, Nat.reducePow, Int.reduceLT, Int.reduceToNat, reduceCtorEq, Int.reduceNeg, Int.reduceEq, Nat.reduceBEq, Nat.reduceBNe, Int.reduceBEq, Int.reduceBNe, String.reduceEq]; first | done | rfl | (simp (disch := omega) only [w_nat, w_add, w_addl, w_addr, w_sub, w_subl, w_mul, w_mull, w_mulr, w_u32, w_u16, w_u8, w_u32a, N_zero]; first | done | rfl | (simp only [push_cast, reduceIte, Nat.reduceEqDiff, Nat.reduceLT, Nat.reduceAdd, Nat.reduceSub, Nat.reduceMul, Nat.reduceLeDiff, Nat.reducePow, Int.reduceLT, Int.reduceToNat, reduceCtorEq, Int.reduceNeg, Int.reduceEq, Nat.reduceBEq, Nat.reduceBNe, Int.reduceBEq, Int.reduceBNe, String.reduceEq]; first | done | rfl)))) (hz : elSz P T = some sz := by first | with_reducible rfl | (simp only [push_cast, reduceIte, Nat.reduceEqDiff, Nat.reduceLT, Nat.reduceAdd, Nat.reduceSub, Nat.reduceMul, Nat.reduceLeDiff, Nat.reducePow, Int.reduceLT, Int.reduceToNat, reduceCtorEq, Int.reduceNeg, Int.reduceEq, Nat.reduceBEq, Nat.reduceBNe, Int.reduceBEq, Int.reduceBNe, String.reduceEq]; first | done | rfl | (simp (disch := omega) only [w_nat, w_add, w_addl, w_addr, w_sub, w_subl, w_mul, w_mull, w_mulr, w_u32, w_u16, w_u8, w_u32a, N_zero]; first | done | rfl | (simp only [push_cast, reduceIte, Nat.reduceEqDiff, Nat.reduceLT, Nat.reduceAdd, Nat.reduceSub, Nat.reduceMul, Nat.reduceLeDiff, Nat.reducePow, Int.reduceLT, Int.reduceToNat, reduceCtorEq, Int.reduceNeg, Int.reduceEq, Nat.reduceBEq, Nat.reduceBNe, Int.reduceBEq, Int.reduceBNe, String.reduceEq]; first | done | rfl)))) (he : elT P T = some e := by first | with_reducible rfl | (simp only [push_cast, reduceIte, Nat.reduceEqDiff, Nat.reduceLT, Nat.reduceAdd, Nat.reduceSub, Nat.reduceMul, Nat.reduceLeDiff, Nat.reducePow, Int.reduceLT, Int.reduceToNat, reduceCtorEq, Int.reduceNeg, Int.reduceEq, Nat.reduceBEq, Nat.reduceBNe, Int.reduceBEq, Int.reduceBNe, String.reduceEq]; first | done | rfl | (simp (disch := omega) only [w_nat, w_add, w_addl, w_addr, w_sub, w_subl, w_mul, w_mull, w_mulr, w_u32, w_u16, w_u8, w_u32a, N_zero]; first | done | rfl | (simp only [push_cast, reduceIte, Nat.reduceEqDiff, Nat.reduceLT, Nat.reduceAdd, Nat.reduceSub, Nat.reduceMul, Nat.reduceLeDiff, Nat.reducePow, Int.reduceLT, Int.reduceToNat, reduceCtorEq, Int.reduceNeg, Int.reduceEq, Nat.reduceBEq, Nat.reduceBNe, Int.reduceBEq, Int.reduceBNe, String.reduceEq]; first | done | rfl)))) (h2 : (isSlc P T2 || isStr P T2) = true := by first | with_reducible rfl | (simp only [push_cast, reduceIte, Nat.reduceEqDiff, Nat.reduceLT, Nat.reduceAdd, Nat.reduceSub, Nat.reduceMul, Nat.reduceLeDiff, Nat.reducePow, Int.reduceLT, Int.reduceToNat, reduceCtorEq, Int.reduceNeg, Int.reduceEq, Nat.reduceBEq, Nat.reduceBNe, Int.reduceBEq, Int.reduceBNe, String.reduceEq]; first | done | rfl | (simp (disch := omega) only [w_nat, w_add, w_addl, w_addr, w_sub, w_subl, w_mul, w_mull, w_mulr, w_u32, w_u16, w_u8, w_u32a, N_zero]; first | done | rfl | (simp only [push_cast, reduceIte, Nat.reduceEqDiff, Nat.reduceLT, Nat.reduceAdd, Nat.reduceSub, Nat.reduceMul, Nat.reduceLeDiff, Nat.reducePow, Int.reduceLT, Int.reduceToNat, reduceCtorEq, Int.reduceNeg, Int.reduceEq, Nat.reduceBEq, Nat.reduceBNe, Int.reduceBEq, Int.reduceBNe, String.reduceEq]; first | done | rfl))))
    (hsrc : srcOf { s with fr := needFr s.fr vals (nds1.getD i []) } sz (AS.ev { s with fr := needFr s.fr vals (nds1.getD i []) } y) = some ys := by first | with_reducible rfl | (simp only [push_cast, reduceIte, Nat.reduceEqDiff, Nat.reduceLT, Nat.reduceAdd, Nat.reduceSub, Nat.reduceMul, Nat.reduceLeDiff, Nat.reducePow, Int.reduceLT, Int.reduceToNat, reduceCtorEq, Int.reduceNeg, Int.reduceEq, Nat.reduceBEq, Nat.reduceBNe, Int.reduceBEq, Int.reduceBNe, String.reduceEq]; first | done | rfl | (simp (disch := omega) only [w_nat, w_add, w_addl, w_addr, w_sub, w_subl, w_mul, w_mull, w_mulr, w_u32, w_u16, w_u8, w_u32a, N_zero]; first | done | rfl | (simp only [push_cast, reduceIte, Nat.reduceEqDiff, Nat.reduceLT, Nat.reduceAdd, Nat.reduceSub, Nat.reduceMul, Nat.reduceLeDiff, Nat.reducePow, Int.reduceLT, Int.reduceToNat, reduceCtorEq, Int.reduceNeg, Int.reduceEq, Nat.reduceBEq, Nat.reduceBNe, Int.reduceBEq, Int.reduceBNe, String.reduceEq]; first | done | rfl)))) (hzs : xs ++ ys = zs := by
        try simp only [push_cast, reduceIte, Nat.reduceEqDiff, Nat.reduceLT, Nat.reduceAdd, Nat.reduceSub, Nat.reduceMul, Nat.reduceLeDiff, Nat.reducePow, Int.reduceLT, Int.reduceToNat, reduceCtorEq, Int.reduceNeg, Int.reduceEq, Nat.reduceBEq, Nat.reduceBNe, Int.reduceBEq, Int.reduceBNe, String.reduceEq]
        try simp (disch := omega) only [w_nat, w_add, w_addl, w_addr, w_sub, w_subl, w_mul, w_mull, w_mulr, w_u32, w_u16, w_u8, w_u32a, N_zero]
        try simp only [push_cast, reduceIte, Nat.reduceEqDiff, Nat.reduceLT, Nat.reduceAdd, Nat.reduceSub, Nat.reduceMul, Nat.reduceLeDiff, Nat.reducePow, Int.reduceLT, Int.reduceToNat, reduceCtorEq, Int.reduceNeg, Int.reduceEq, Nat.reduceBEq, Nat.reduceBNe, Int.reduceBEq, Int.reduceBNe, String.reduceEq]
        rfl)
    (hid : AV.idsOkL (· != s.ob.length) xs = true := by first | with_reducible rfl | (simp only [push_cast, reduceIte, Nat.reduceEqDiff, Nat.reduceLT, Nat.reduceAdd, Nat.reduceSub, Nat.reduceMul, Nat.reduceLeDiff, Nat.reducePow, Int.reduceLT, Int.reduceToNat, reduceCtorEq, Int.reduceNeg, Int.reduceEq, Nat.reduceBEq, Nat.reduceBNe, Int.reduceBEq, Int.reduceBNe, String.reduceEq]; first | done | rfl | (simp (disch := omega) only [w_nat, w_add, w_addl, w_addr, w_sub, w_subl, w_mul, w_mull, w_mulr, w_u32, w_u16, w_u8, w_u32a, N_zero]; first | done | rfl | (simp only [push_cast, reduceIte, Nat.reduceEqDiff, Nat.reduceLT, Nat.reduceAdd, Nat.reduceSub, Nat.reduceMul, Nat.reduceLeDiff, Nat.reducePow, Int.reduceLT, Int.reduceToNat, reduceCtorEq, Int.reduceNeg, Int.reduceEq, Nat.reduceBEq, Nat.reduceBNe, Int.reduceBEq, Int.reduceBNe, String.reduceEq]; first | done | rfl)))) (hid2 : AV.idsOkL (· != s.ob.length) ys = true := by first | with_reducible rfl | (simp only [push_cast, reduceIte, Nat.reduceEqDiff, Nat.reduceLT, Nat.reduceAdd, Nat.reduceSub, Nat.reduceMul, Nat.reduceLeDiff, Nat.reducePow, Int.reduceLT, Int.reduceToNat, reduceCtorEq, Int.reduceNeg, Int.reduceEq, Nat.reduceBEq, Nat.reduceBNe, Int.reduceBEq, Int.reduceBNe, String.reduceEq]; first | done | rfl | (simp (disch := omega) only [w_nat, w_add, w_addl, w_addr, w_sub, w_subl, w_mul, w_mull, w_mulr, w_u32, w_u16, w_u8, w_u32a, N_zero]; first | done | rfl | (simp only [push_cast, reduceIte, Nat.reduceEqDiff, Nat.reduceLT, Nat.reduceAdd, Nat.reduceSub, Nat.reduceMul, Nat.reduceLeDiff, Nat.reducePow, Int.reduceLT, Int.reduceToNat, reduceCtorEq, Int.reduceNeg, Int.reduceEq, Nat.reduceBEq, Nat.reduceBNe, Int.reduceBEq, Int.reduceBNe, String.reduceEq]; first | done | rfl)))) (hob : s.ob.all (obIds (fun j => decide (j < s.ob.length))) = true := by first | with_reducible rfl | (simp only [push_cast, reduceIte, Nat.reduceEqDiff, Nat.reduceLT, Nat.reduceAdd, Nat.reduceSub, Nat.reduceMul, Nat.reduceLeDiff, Nat.reducePow, Int.reduceLT, Int.reduceToNat, reduceCtorEq, Int.reduceNeg, Int.reduceEq, Nat.reduceBEq, Nat.reduceBNe, Int.reduceBEq, Int.reduceBNe, String.reduceEq]; first | done | rfl | (simp (disch := omega) only [w_nat, w_add, w_addl, w_addr, w_sub, w_subl, w_mul, w_mull, w_mulr, w_u32, w_u16, w_u8, w_u32a, N_zero]; first | done | rfl | (simp only [push_cast, reduceIte, Nat.reduceEqDiff, Nat.reduceLT, Nat.reduceAdd, Nat.reduceSub, Nat.reduceMul, Nat.reduceLeDiff, Nat.reducePow, Int.reduceLT, Int.reduceToNat, reduceCtorEq, Int.reduceNeg, Int.reduceEq, Nat.reduceBEq, Nat.reduceBNe, Int.reduceBEq, Int.reduceBNe, String.reduceEq]; first | done | rfl)))) (hv : vals.getD i .any = .own s.ob.length := by rfl)
    (hb : 2 * (xs.length + ys.length) * elB P T ≤ 2 ^ 48) (hsm : xs.length + ys.length ≤ 2 ^ 60) : CL P ops s nds1 vals (i :: r) [.row e sz xs] XL :=
  ⟨_, fun o' ho' => by
    have : o' = o := Option.some.inj (ho'.symm.trans hol)
    subst this
    rw [hv]
    have := CSpec.append (s := { s with fr := needFr s.fr vals (nds1.getD i []) }) hg ho hx hz he (by simpa using h2) hsrc hb hsm hid hid2 hob
    rw [hzs] at this
    exact this, k⟩
end cl
/-- the tail's checks -/
def tailB (ops : Array Oper) (n : Nat) : Bool := decide (n ≤ ops.size) && (decide (n = ops.size) || (((List.range n).all fun i => Region.waitsFor .any ops n i || (List.range n).any fun j => decide (i < j) && Region.waitsFor .any ops j i) &&
  ((List.range ops.size).all fun j => decide (j ≤ n) || (List.range j).any fun i => decide (n ≤ i) && Region.waitsFor .any ops j i)))
theorem tailB.tail {n : Nat} (h : tailB ops n = true) {listed : Array Bool} (inv : HeadInv .any ops n listed) (hex : ∃ i, i < n ∧ listed.getD i true = false) : ∀ t, n ≤ t → t ∉ Region.ready .any ops listed := by
  simp only [tailB, Bool.and_eq_true, decide_eq_true_eq, Bool.or_eq_true] at h
  obtain ⟨hn, h⟩ := h
  rcases h with h | ⟨hs, hc⟩
  · intro t ht hr
    obtain ⟨_, ot, hot, _⟩ := mem_ready.1 hr
    have := (Array.getElem?_eq_some_iff.1 hot).1
    omega
  · have key : ∀ (d i : Nat), n - i = d → i < n → listed.getD i true = false → ∀ t, n ≤ t → t ∉ Region.ready .any ops listed := by
      intro d
      induction d using Nat.strongRecOn with
      | _ d ih =>
        intro i hd hi hun t ht hr
        obtain ⟨_, ot, hot, hall⟩ := mem_ready.1 hr
        have htlt : t < ops.size := (Array.getElem?_eq_some_iff.1 hot).1
        by_cases htn : t = n
        · subst htn
          have h1 := List.all_eq_true.1 hs i (List.mem_range.2 hi)
          simp only [Bool.or_eq_true] at h1
          rcases h1 with h1 | h1
          · obtain ⟨oj, hoj, e, he, hb, hon⟩ := Region.waitsFor_spec h1
            have : oj = ot := Option.some.inj (hoj.symm.trans hot)
            subst this
            have h2 := hall e he hb
            rw [hon, getD_both hun] at h2
            cases h2
          · obtain ⟨j, hj, hj2⟩ := List.any_eq_true.1 h1
            simp only [Bool.and_eq_true, decide_eq_true_eq] at hj2
            obtain ⟨oj, hoj, e, he, hb, hon⟩ := Region.waitsFor_spec hj2.2
            have hjlt := List.mem_range.1 hj
            cases hl : listed.getD j false with
            | true =>
              have h2 := inv.closed j oj hoj hl e he hb
              rw [hon, getD_both hun] at h2
              cases h2
            | false =>
              have hjs : j < listed.size := by rw [inv.size]; omega
              exact ih (t - j) (by omega) j rfl (by omega) (getD_in hjs hl) t (Nat.le_refl _) hr
        · have h1 := List.all_eq_true.1 hc t (List.mem_range.2 htlt)
          simp only [Bool.or_eq_true, decide_eq_true_eq] at h1
          rcases h1 with h1 | h1
          · omega
          · obtain ⟨i', hi', h1⟩ := List.any_eq_true.1 h1
            simp only [Bool.and_eq_true, decide_eq_true_eq] at h1
            obtain ⟨o', ho', e, he, hb, hon⟩ := Region.waitsFor_spec h1.2
            have : o' = ot := Option.some.inj (ho'.symm.trans hot)
            subst this
            have h2 := hall e he hb
            have := List.mem_range.1 hi'
            rw [hon, getD_both (inv.tail i' h1.1 (by omega))] at h2
            cases h2
    obtain ⟨i, hin, hil⟩ := hex
    exact key _ i rfl hin hil
def ciB : List Nat → Nat → Bool
  | [], _ => false
  | j :: r, i => (j == i) || ciB r i
theorem ciB_iff {i : Nat} : ∀ {ci : List Nat}, ciB ci i = true ↔ i ∈ ci
  | [] => by simp [ciB]
  | j :: r => by
    simp only [ciB, Bool.or_eq_true, beq_iff_eq, ciB_iff (ci := r), List.mem_cons]
    constructor
    · rintro (h | h)
      · exact .inl h.symm
      · exact .inr h
    · rintro (h | h)
      · exact .inl h.symm
      · exact .inr h
def valIds (p : Nat → Bool) (ci : List Nat) : Nat → List AV → Bool
  | _, [] => true
  | i, x :: r => (ciB ci i || x.idsOk p) && valIds p ci (i + 1) r
theorem valIds_get {p : Nat → Bool} {ci : List Nat} : ∀ {l : List AV} {k : Nat}, valIds p ci k l = true → ∀ i, k + i ∉ ci → (l.getD i .any).idsOk p = true
  | [], k, h, i, hi => by simp [AV.idsOk]
  | x :: r, k, h, i, hi => by
    simp only [valIds, Bool.and_eq_true, Bool.or_eq_true] at h
    cases i with
    | zero =>
      rcases h.1 with h1 | h1
      · exact absurd (ciB_iff.1 h1) hi
      · simpa using h1
    | succ i =>
      simp only [List.getD_cons_succ]
      exact valIds_get h.2 i (by rw [show k + 1 + i = k + (i + 1) by omega]; exact hi)
attribute [push_cast] ciB valIds Bool.true_or Bool.false_or
def drCB (ops : Array Oper) (n sn : Nat) (ci : List Nat) (nds nds1 : List (List (Nat × Option Nat))) (new : List (Nat × Nat)) : Bool :=
  tailB ops n && drawnCB ops n sn ci nds1 && noAl ops n none && ((List.range n).all fun i => ci.contains i || decide (nds.getD i [] = nds1.getD i [])) &&
  (new.all fun p => !ci.contains p.2 || (decide (0 < ci.length) && decide (ci.getD (ci.length - 1) 0 = p.2)))
theorem AWp.drC {id : Nat} {n : Nat} (ci : List Nat) {XL : List Ob} (nds nds1 : List (List (Nat × Option Nat))) (new : List (Nat × Nat)) (old : List Nat) (vals : List AV) (hc : CL P ops s nds1 vals ci [] XL) (hm : P.follows .mixedOrders = true) (hB : drCB ops n s.n ci nds nds1 new = true)
    (hk : drB ops n s.n s.fr new old = true) (hl : vals.length = n) (hp : PSpec P ops s nds vals) (hid : valIds (fun j => decide (j < s.ob.length)) ci 0 vals = true)
    (k : AAny P ops (ops.size - n) (listed0 n ops.size) (R .normal) { s with fr := (new.map fun p => (p.1, vals.getD p.2 .any)) ++ keepFr s.fr old, ob := s.ob ++ XL }) : AWp P (.region id ops true) s R := by
  subst hl
  obtain ⟨obs, o1, o2, o3⟩ := hc.obs
  simp only [drCB, Bool.and_eq_true] at hB
  obtain ⟨⟨⟨⟨ht, hd⟩, hna⟩, hnn⟩, hnew⟩ := hB
  have hle : vals.length ≤ ops.size := by simp only [tailB, Bool.and_eq_true, decide_eq_true_eq] at ht; exact ht.1
  refine AWp.drawnC vals.length nds1 vals ci obs _ hm hle o1 hd (fun listed inv hex => tailB.tail ht inv hex) (fun i o h1 h2 h3 => ?_) (fun i _ h3 => valIds_get hid i (by rw [Nat.zero_add]; exact h3)) o3 (fun t x hmem => ?_) (by rw [o2]; exact k)
  · have h := List.all_eq_true.1 hnn i (List.mem_range.2 h1)
    simp only [Bool.or_eq_true, decide_eq_true_eq, List.contains_eq_mem] at h
    rcases h with h | h
    · exact absurd h h3
    · rw [← h]
      refine hp i o h1 h2 ?_
      have := List.all_eq_true.1 hna i (List.mem_range.2 h1)
      simp only [h2, Bool.or_eq_true, decide_eq_true_eq, Bool.not_eq_true'] at this
      rcases this with h | h
      · cases h
      · exact h
  · simp only [drB, Bool.and_eq_true] at hk
    rcases List.mem_append.1 hmem with h | h
    · simp only [List.mem_map] at h
      obtain ⟨p, hp', e⟩ := h
      have e1 : p.1 = t := congrArg Prod.fst e
      have e2 : vals.getD p.2 .any = x := congrArg Prod.snd e
      have := List.all_eq_true.1 hk.1 p hp'
      simp only [Bool.and_eq_true, decide_eq_true_eq] at this
      have h2 := List.all_eq_true.1 hnew p hp'
      simp only [Bool.or_eq_true, Bool.not_eq_true', Bool.and_eq_true, decide_eq_true_eq, List.contains_eq_mem, decide_eq_false_iff_not] at h2
      subst e1; subst e2
      exact ⟨this.1.1, .inl ⟨p.2, this.1.2, this.2, rfl, h2⟩⟩
    · obtain ⟨h1, rfl⟩ := keepFr_mem h
      have := List.all_eq_true.1 hk.2 t h1
      simp only [Bool.and_eq_true, decide_eq_true_eq] at this
      exact ⟨this.1, .inr ⟨fun i hi => by simpa using List.all_eq_true.1 this.2 i (List.mem_range.2 hi), rfl⟩⟩
theorem Dr.finCM {id : Nat} {n : Nat} {y : Code} (ci : List Nat) {XL : List Ob} (f : Nat) (nds1 : List (List (Nat × Option Nat))) (new : List (Nat × Nat)) (old : List Nat) (hc : CL P ops s nds1 vals ci [] XL) (hG : ∀ vals, PSpec P ops s nds vals → AWp P (.region id ops true) s (thenQ (fun s' => AWp P y s' R) R) → G) (hm : P.follows .mixedOrders = true)
    (k : ∀ K : AS → Prop, (∀ s', AWp P y s' R → K s') → AAny P ops f (listed0 n (n + f)) K { s with fr := (new.map fun p => (p.1, vals.getD p.2 .any)) ++ keepFr s.fr old, ob := s.ob ++ XL })
    (hl : vals.length = n := by rfl) (hf : ops.size = n + f := by kernel_rfl) (hB : drCB ops n s.n ci nds nds1 new = true := by kernel_rfl) (hk : drB ops n s.n s.fr new old = true := by kernel_rfl) (hid : valIds (fun j => decide (j < s.ob.length)) ci 0 vals = true := by first | with_reducible rfl | (simp only [push_cast, reduceIte, Nat.reduceEqDiff, Nat.reduceLT, Nat.reduceAdd, Nat.reduceSub, Nat.reduceMul, Nat.reduceLeDiff, Nat.reducePow, Int.reduceLT, Int.reduceToNat, reduceCtorEq, Int.reduceNeg, Int.reduceEq, Nat.reduceBEq, Nat.reduceBNe, Int.reduceBEq, Int.reduceBNe, String.reduceEq]; first | done | rfl | (simp (disch := omega) only [w_nat, w_add, w_addl, w_addr, w_sub, w_subl, w_mul, w_mull, w_mulr, w_u32, w_u16, w_u8, w_u32a, N_zero]; first | done | rfl | (simp only [push_cast, reduceIte, Nat.reduceEqDiff, Nat.reduceLT, Nat.reduceAdd, Nat.reduceSub, Nat.reduceMul, Nat.reduceLeDiff, Nat.reducePow, Int.reduceLT, Int.reduceToNat, reduceCtorEq, Int.reduceNeg, Int.reduceEq, Nat.reduceBEq, Nat.reduceBNe, Int.reduceBEq, Int.reduceBNe, String.reduceEq]; first | done | rfl)))) : Dr P ops s nds vals G := by
  intro hp
  refine hG vals hp (AWp.drC ci nds nds1 new old vals hc hm hB hk hl hp hid ?_)
  rw [hf, Nat.add_sub_cancel_left]
  exact k _ fun _ h => h
end
end Go.Abs
