/- errors.As and package fault. -/
import Derived.Test.YtokbbdodbjiciaaGreatDoorM2
import Derived.Stop.Asserts
set_option linter.unusedVariables false
set_option linter.unusedSimpArgs false
namespace Go.Proofs.YtokbbdodbjiciaaGreatDoor.C
open Go.Abs Go.Extern Go.Stop
theorem glb_err : (2, [RTY 76]) ∈ glb := by
  unfold glb; repeat (first | exact List.mem_cons_self | apply List.mem_cons_of_mem)
theorem unwrap_c (c i : Nat) : PC Tryz.prog 225 [.agg [nat c, nat i]] (erA (.code c)) := by
  refine PC.of_bodyK (by simp only [push_cast]) Tryz.func225 rfl (by rw [Tryz.ntmps225]; simp) ?_
  refine AWp.regionW ?_
  refine AWp.regionW ?_
  refine AWp.ret ?_
  try simp only [thenQ, blockQ, noGo]
  refine bodyQ.m ?_
  exact Wk.eq rfl
  first | done | exact Wk.go
theorem as2_Code (c x : Nat) : OC Tryz.prog 181 [.ifc 136 (nat c), .ifc 217 (.ptr 0 0), .agg [.val (HT 217), .ref false (.ptr 0 0), .val (.int .u64 150)], .val (RTY 136)] [.box 136 [nat x]] (bool true) [.box 136 [nat c]] := by
  refine OC.of_body [0] (by intro k hk; simp at hk; subst hk; rfl) Tryz.func181 rfl (by rw [Tryz.ntmps181]; simp) ?_
  refine AWp.regionW ?_
  refine AWp.block ?_
  refine AWp.loop2 fun KL hKL => ?_
  refine AWp.block ?_
  refine AWp.seqK fun K1 hK1 => ?_
  refine AWp.regionM fun K2 hK2 => ?_
  refine ARun2.natVM1 nat_typeOf (to_Code) ?_
  refine ARun2.invCM [RTY 136] (.bool true) nat_assignable (m_assignable _) as_Code ?_
  refine ARun2.endm (hK2 _ ?_)
  refine AWp.condT ?_
  refine AWp.regionM fun K3 hK3 => ?_
  refine ARun2.natVM _ nat_elemV (ev_Code 0 0 _) ?_
  refine ARun2.valueOfM nat_valueOf (vv_Code c) ?_
  refine ARun2.natSetM nat_set set_Code ?_
  refine ARun2.endm (hK3 _ ?_)
  refine AWp.regionW ?_
  refine AWp.ret ?_
  try simp only [thenQ, blockQ, noGo]
  refine bodyQ.m ?_
  clear hK3 K3 hK2 K2 hK1 K1 hKL KL
  refine endO.m ?_ ?_
  · rfl
  first | done | exact Hand.go
theorem as_Code_hit (c x : Nat) : OC Tryz.prog 162 [.ifc 136 (nat c), .ifc 217 (.ptr 0 0)] [.box 136 [nat x]] (bool true) [.box 136 [nat c]] := by
  refine OC.of_body [0] (by intro k hk; simp at hk; subst hk; rfl) Tryz.func162 rfl (by rw [Tryz.ntmps162]; simp) ?_
  refine AWp.regionW ?_
  refine AWp.seqK fun K1 hK1 => ?_
  refine AWp.regionW ?_
  refine AWp.condF ?_
  refine AWp.skip ?_
  refine hK1 _ ?_
  refine AWp.seqK fun K2 hK2 => ?_
  refine AWp.regionW ?_
  refine AWp.condF ?_
  refine AWp.skip ?_
  refine hK2 _ ?_
  refine AWp.regionM fun K3 hK3 => ?_
  refine ARun2.valueOfM nat_valueOf (pv_Code · · · · 0 0) ?_
  refine ARun2.endm (hK3 _ ?_)
  refine AWp.regionM fun K4 hK4 => ?_
  refine ARun2.natVM _ nat_type (ty1_Code _ _) ?_
  refine ARun2.endm (hK4 _ ?_)
  refine AWp.seqK fun K5 hK5 => ?_
  refine AWp.regionM fun K6 hK6 => ?_
  refine ARun2.invCM [] (.int .u8 22) nat_kind (m_kind _) pk_Code ?_
  refine ARun2.natVM _ nat_isNil (nil_Code 0 0 _) ?_
  refine ARun2.endm (hK6 _ ?_)
  refine AWp.condF ?_
  refine AWp.skip ?_
  refine hK5 _ ?_
  refine AWp.regionM fun K7 hK7 => ?_
  refine ARun2.invCM [] (RTY 136) nat_elem (m_elem _) el_Code ?_
  refine ARun2.endm (hK7 _ ?_)
  refine AWp.seqK fun K8 hK8 => ?_
  refine AWp.regionM fun K9 hK9 => ?_
  refine ARun2.invCM [] (.int .u8 2) nat_kind (m_kind _) kd_Code ?_
  refine ARun2.gloadM (g := 2) (RTY 76) glb_err (by kernel_rfl) ?_
  refine ARun2.invCM [RTY 76] (.bool true) nat_implements (m_implements _) im_Code ?_
  refine ARun2.endm (hK9 _ ?_)
  refine AWp.condF ?_
  refine AWp.skip ?_
  refine hK8 _ ?_
  refine AWp.regionM fun K10 hK10 => ?_
  refine ARun2.callOM [0] (as2_Code c x) ?_
  refine ARun2.endm (hK10 _ ?_)
  refine AWp.ret ?_
  try simp only [thenQ, blockQ, noGo]
  refine bodyQ.m ?_
  clear hK10 K10 hK9 K9 hK8 K8 hK7 K7 hK6 K6 hK5 K5 hK4 K4 hK3 K3 hK2 K2 hK1 K1
  refine endO.m ?_ ?_
  · rfl
  first | done | exact Hand.go
theorem as2_Fault (c i x z : Nat) : OC Tryz.prog 181 [.ifc 187 (.agg [nat c, nat i]), .ifc 218 (.ptr 0 0), .agg [.val (HT 218), .ref false (.ptr 0 0), .val (.int .u64 150)], .val (RTY 187)] [.box 187 [nat x, nat z]] (bool true) [.box 187 [nat c, nat i]] := by
  refine OC.of_body [0] (by intro k hk; simp at hk; subst hk; rfl) Tryz.func181 rfl (by rw [Tryz.ntmps181]; simp) ?_
  refine AWp.regionW ?_
  refine AWp.block ?_
  refine AWp.loop2 fun KL hKL => ?_
  refine AWp.block ?_
  refine AWp.seqK fun K1 hK1 => ?_
  refine AWp.regionM fun K2 hK2 => ?_
  refine ARun2.natVM1 nat_typeOf (to_Fault) ?_
  refine ARun2.invCM [RTY 187] (.bool true) nat_assignable (m_assignable _) as_Fault ?_
  refine ARun2.endm (hK2 _ ?_)
  refine AWp.condT ?_
  refine AWp.regionM fun K3 hK3 => ?_
  refine ARun2.natVM _ nat_elemV (ev_Fault 0 0 _) ?_
  refine ARun2.valueOfM nat_valueOf (vv_Fault c i) ?_
  refine ARun2.natSetM nat_set set_Fault ?_
  refine ARun2.endm (hK3 _ ?_)
  refine AWp.regionW ?_
  refine AWp.ret ?_
  try simp only [thenQ, blockQ, noGo]
  refine bodyQ.m ?_
  clear hK3 K3 hK2 K2 hK1 K1 hKL KL
  refine endO.m ?_ ?_
  · rfl
  first | done | exact Hand.go
theorem as_Fault_hit (c i x z : Nat) : OC Tryz.prog 162 [.ifc 187 (.agg [nat c, nat i]), .ifc 218 (.ptr 0 0)] [.box 187 [nat x, nat z]] (bool true) [.box 187 [nat c, nat i]] := by
  refine OC.of_body [0] (by intro k hk; simp at hk; subst hk; rfl) Tryz.func162 rfl (by rw [Tryz.ntmps162]; simp) ?_
  refine AWp.regionW ?_
  refine AWp.seqK fun K1 hK1 => ?_
  refine AWp.regionW ?_
  refine AWp.condF ?_
  refine AWp.skip ?_
  refine hK1 _ ?_
  refine AWp.seqK fun K2 hK2 => ?_
  refine AWp.regionW ?_
  refine AWp.condF ?_
  refine AWp.skip ?_
  refine hK2 _ ?_
  refine AWp.regionM fun K3 hK3 => ?_
  refine ARun2.valueOfM nat_valueOf (pv_Fault · · · · 0 0) ?_
  refine ARun2.endm (hK3 _ ?_)
  refine AWp.regionM fun K4 hK4 => ?_
  refine ARun2.natVM _ nat_type (ty1_Fault _ _) ?_
  refine ARun2.endm (hK4 _ ?_)
  refine AWp.seqK fun K5 hK5 => ?_
  refine AWp.regionM fun K6 hK6 => ?_
  refine ARun2.invCM [] (.int .u8 22) nat_kind (m_kind _) pk_Fault ?_
  refine ARun2.natVM _ nat_isNil (nil_Fault 0 0 _) ?_
  refine ARun2.endm (hK6 _ ?_)
  refine AWp.condF ?_
  refine AWp.skip ?_
  refine hK5 _ ?_
  refine AWp.regionM fun K7 hK7 => ?_
  refine ARun2.invCM [] (RTY 187) nat_elem (m_elem _) el_Fault ?_
  refine ARun2.endm (hK7 _ ?_)
  refine AWp.seqK fun K8 hK8 => ?_
  refine AWp.regionM fun K9 hK9 => ?_
  refine ARun2.invCM [] (.int .u8 25) nat_kind (m_kind _) kd_Fault ?_
  refine ARun2.gloadM (g := 2) (RTY 76) glb_err (by kernel_rfl) ?_
  refine ARun2.invCM [RTY 76] (.bool true) nat_implements (m_implements _) im_Fault ?_
  refine ARun2.endm (hK9 _ ?_)
  refine AWp.condF ?_
  refine AWp.skip ?_
  refine hK8 _ ?_
  refine AWp.regionM fun K10 hK10 => ?_
  refine ARun2.callOM [0] (as2_Fault c i x z) ?_
  refine ARun2.endm (hK10 _ ?_)
  refine AWp.ret ?_
  try simp only [thenQ, blockQ, noGo]
  refine bodyQ.m ?_
  clear hK10 K10 hK9 K9 hK8 K8 hK7 K7 hK6 K6 hK5 K5 hK4 K4 hK3 K3 hK2 K2 hK1 K1
  refine endO.m ?_ ?_
  · rfl
  first | done | exact Hand.go
theorem no_as_Code (v : Value) (w : World) : (Instr.typeAssert (.iface 136 v) 76 270 true).run Tryz.prog w = .ok (.tuple #[.nilIface, .bool false]) w := run_typeAssert_lacksB Tryz.underlying270 (by kernel_rfl) (by kernel_rfl) v 76 w
theorem no_as_Fault (v : Value) (w : World) : (Instr.typeAssert (.iface 187 v) 76 270 true).run Tryz.prog w = .ok (.tuple #[.nilIface, .bool false]) w := run_typeAssert_lacksB Tryz.underlying270 (by kernel_rfl) (by kernel_rfl) v 76 w
theorem no_un_Code (v : Value) (w : World) : (Instr.typeAssert (.iface 136 v) 76 273 true).run Tryz.prog w = .ok (.tuple #[.nilIface, .bool false]) w := run_typeAssert_lacksB Tryz.underlying273 (by kernel_rfl) (by kernel_rfl) v 76 w
theorem no_uns_Code (v : Value) (w : World) : (Instr.typeAssert (.iface 136 v) 76 275 true).run Tryz.prog w = .ok (.tuple #[.nilIface, .bool false]) w := run_typeAssert_lacksB Tryz.underlying275 (by kernel_rfl) (by kernel_rfl) v 76 w
theorem un_Fault (v : Value) (w : World) : (Instr.typeAssert (.iface 187 v) 76 273 true).run Tryz.prog w = .ok (.tuple #[.iface 187 v, .bool true]) w := run_typeAssert_hasB Tryz.underlying273 (by kernel_rfl) v 76 w
theorem m_unwrap (v : Value) (w : World) : (Go.method (Tryz.prog.types.size + Made.depth) 187 v "Unwrap").run Tryz.prog w = .ok (225, v) w := by kernel_rfl
theorem rel_no {w : World} {B : Nat → Prop} {bs : Nat} {ρ : List Value} : Rel w B bs ρ (.tup [.val .nilIface, .val (.bool false)]) (.tuple #[.nilIface, .bool false]) := .tup (.cons (.val _) (.cons (.val _) .nil))
theorem rel_yes {T : TypeId} {y : AV} {w : World} {B : Nat → Prop} {bs : Nat} {ρ : List Value} {v : Value} (h : Rel w B bs ρ (.ifc T y) (.iface T v)) : Rel w B bs ρ (.tup [.ifc T y, .val (.bool true)]) (.tuple #[.iface T v, .bool true]) := .tup (.cons h (.cons (.val _) .nil))
theorem as2_miss (c x z : Nat) : OC Tryz.prog 181 [.ifc 136 (nat c), .ifc 218 (.ptr 0 0), .agg [.val (HT 218), .ref false (.ptr 0 0), .val (.int .u64 150)], .val (RTY 187)] [.box 187 [nat x, nat z]] (bool false) [.box 187 [nat x, nat z]] := by
  refine OC.of_body [0] (by intro k hk; simp at hk; subst hk; rfl) Tryz.func181 rfl (by rw [Tryz.ntmps181]; simp) ?_
  refine AWp.regionW ?_
  refine AWp.block ?_
  refine AWp.loop2 fun KL hKL => ?_
  refine AWp.block ?_
  refine AWp.seqK fun K1 hK1 => ?_
  refine AWp.regionM fun K2 hK2 => ?_
  refine ARun2.natVM1 nat_typeOf to_Code ?_
  refine ARun2.invCM [RTY 187] (.bool false) nat_assignable (m_assignable _) as_mix2 ?_
  refine ARun2.endm (hK2 _ ?_)
  refine AWp.condF ?_
  refine AWp.skip ?_
  refine hK1 _ ?_
  refine AWp.seqK fun K3 hK3 => ?_
  refine AWp.regionM fun K4 hK4 => ?_
  refine ARun2.assertM _ no_as_Code (fun _ _ _ _ _ _ => rel_no) ?_
  refine ARun2.endm (hK4 _ ?_)
  refine AWp.regionM fun K5 hK5 => ?_
  skip
  refine ARun2.endm (hK5 _ ?_)
  refine AWp.condF ?_
  refine AWp.skip ?_
  refine hK3 _ ?_
  refine AWp.regionW ?_
  refine AWp.block ?_
  refine AWp.regionM fun K6 hK6 => ?_
  refine ARun2.assertM _ no_un_Code (fun _ _ _ _ _ _ => rel_no) ?_
  refine ARun2.endm (hK6 _ ?_)
  refine AWp.condF ?_
  refine AWp.regionM fun K7 hK7 => ?_
  refine ARun2.assertM _ no_uns_Code (fun _ _ _ _ _ _ => rel_no) ?_
  refine ARun2.endm (hK7 _ ?_)
  refine AWp.condF ?_
  refine AWp.regionW ?_
  refine AWp.regionW ?_
  refine AWp.ret ?_
  try simp only [thenQ, blockQ, noGo]
  refine bodyQ.m ?_
  clear hK7 K7 hK6 K6 hK5 K5 hK4 K4 hK3 K3 hK2 K2 hK1 K1 hKL KL
  refine endO.m ?_ ?_
  · rfl
  first | done | exact Hand.go
theorem as_miss (c x z : Nat) : OC Tryz.prog 162 [.ifc 136 (nat c), .ifc 218 (.ptr 0 0)] [.box 187 [nat x, nat z]] (bool false) [.box 187 [nat x, nat z]] := by
  refine OC.of_body [0] (by intro k hk; simp at hk; subst hk; rfl) Tryz.func162 rfl (by rw [Tryz.ntmps162]; simp) ?_
  refine AWp.regionW ?_
  refine AWp.seqK fun K1 hK1 => ?_
  refine AWp.regionW ?_
  refine AWp.condF ?_
  refine AWp.skip ?_
  refine hK1 _ ?_
  refine AWp.seqK fun K2 hK2 => ?_
  refine AWp.regionW ?_
  refine AWp.condF ?_
  refine AWp.skip ?_
  refine hK2 _ ?_
  refine AWp.regionM fun K3 hK3 => ?_
  refine ARun2.valueOfM nat_valueOf (pv_Fault · · · · 0 0) ?_
  refine ARun2.endm (hK3 _ ?_)
  refine AWp.regionM fun K4 hK4 => ?_
  refine ARun2.natVM _ nat_type (ty1_Fault _ _) ?_
  refine ARun2.endm (hK4 _ ?_)
  refine AWp.seqK fun K5 hK5 => ?_
  refine AWp.regionM fun K6 hK6 => ?_
  refine ARun2.invCM [] (.int .u8 22) nat_kind (m_kind _) pk_Fault ?_
  refine ARun2.natVM _ nat_isNil (nil_Fault 0 0 _) ?_
  refine ARun2.endm (hK6 _ ?_)
  refine AWp.condF ?_
  refine AWp.skip ?_
  refine hK5 _ ?_
  refine AWp.regionM fun K7 hK7 => ?_
  refine ARun2.invCM [] (RTY 187) nat_elem (m_elem _) el_Fault ?_
  refine ARun2.endm (hK7 _ ?_)
  refine AWp.seqK fun K8 hK8 => ?_
  refine AWp.regionM fun K9 hK9 => ?_
  refine ARun2.invCM [] (.int .u8 25) nat_kind (m_kind _) kd_Fault ?_
  refine ARun2.gloadM (g := 2) (RTY 76) glb_err (by kernel_rfl) ?_
  refine ARun2.invCM [RTY 76] (.bool true) nat_implements (m_implements _) im_Fault ?_
  refine ARun2.endm (hK9 _ ?_)
  refine AWp.condF ?_
  refine AWp.skip ?_
  refine hK8 _ ?_
  refine AWp.regionM fun K10 hK10 => ?_
  refine ARun2.callOM [0] (as2_miss c x z) ?_
  refine ARun2.endm (hK10 _ ?_)
  refine AWp.ret ?_
  try simp only [thenQ, blockQ, noGo]
  refine bodyQ.m ?_
  clear hK10 K10 hK9 K9 hK8 K8 hK7 K7 hK6 K6 hK5 K5 hK4 K4 hK3 K3 hK2 K2 hK1 K1
  refine endO.m ?_ ?_
  · rfl
  first | done | exact Hand.go
theorem as2_in (c i x : Nat) : OC Tryz.prog 181 [.ifc 187 (.agg [nat c, nat i]), .ifc 217 (.ptr 0 0), .agg [.val (HT 217), .ref false (.ptr 0 0), .val (.int .u64 150)], .val (RTY 136)] [.box 136 [nat x]] (bool true) [.box 136 [nat c]] := by
  refine OC.of_body [0] (by intro k hk; simp at hk; subst hk; rfl) Tryz.func181 rfl (by rw [Tryz.ntmps181]; simp) ?_
  refine AWp.regionW ?_
  refine AWp.block ?_
  refine AWp.loop2 fun KL hKL => ?_
  refine AWp.block ?_
  refine AWp.seqK fun K1 hK1 => ?_
  refine AWp.regionM fun K2 hK2 => ?_
  refine ARun2.natVM1 nat_typeOf to_Fault ?_
  refine ARun2.invCM [RTY 136] (.bool false) nat_assignable (m_assignable _) as_mix ?_
  refine ARun2.endm (hK2 _ ?_)
  refine AWp.condF ?_
  refine AWp.skip ?_
  refine hK1 _ ?_
  refine AWp.seqK fun K3 hK3 => ?_
  refine AWp.regionM fun K4 hK4 => ?_
  refine ARun2.assertM _ no_as_Fault (fun _ _ _ _ _ _ => rel_no) ?_
  refine ARun2.endm (hK4 _ ?_)
  refine AWp.regionM fun K5 hK5 => ?_
  skip
  refine ARun2.endm (hK5 _ ?_)
  refine AWp.condF ?_
  refine AWp.skip ?_
  refine hK3 _ ?_
  refine AWp.regionW ?_
  refine AWp.block ?_
  refine AWp.regionM fun K6 hK6 => ?_
  refine ARun2.assertM _ un_Fault (fun _ _ _ _ _ => rel_yes) ?_
  refine ARun2.endm (hK6 _ ?_)
  refine AWp.condT ?_
  refine AWp.regionW ?_
  refine AWp.regionM fun K7 hK7 => ?_
  refine ARun2.invCallM (unwrap_c c i) m_unwrap ?_
  rw [show erA (.code c) = .ifc 136 (nat c) from rfl]
  refine ARun2.endm (hK7 _ ?_)
  refine AWp.regionW ?_
  refine AWp.condF ?_
  refine AWp.skip ?_
  refine hKL _ ?_
  refine AWp.block ?_
  refine AWp.seqK fun K8 hK8 => ?_
  refine AWp.regionM fun K9 hK9 => ?_
  refine ARun2.natVM1 nat_typeOf to_Code ?_
  refine ARun2.invCM [RTY 136] (.bool true) nat_assignable (m_assignable _) as_Code ?_
  refine ARun2.endm (hK9 _ ?_)
  refine AWp.condT ?_
  refine AWp.regionM fun K10 hK10 => ?_
  refine ARun2.natVM _ nat_elemV (ev_Code 0 0 _) ?_
  refine ARun2.valueOfM nat_valueOf (vv_Code c) ?_
  refine ARun2.natSetM nat_set set_Code ?_
  refine ARun2.endm (hK10 _ ?_)
  refine AWp.regionW ?_
  refine AWp.ret ?_
  try simp only [thenQ, blockQ, noGo]
  refine bodyQ.m ?_
  clear hK10 K10 hK9 K9 hK8 K8 hK7 K7 hK6 K6 hK5 K5 hK4 K4 hK3 K3 hK2 K2 hK1 K1 hKL KL
  refine endO.m ?_ ?_
  · rfl
  first | done | exact Hand.go
theorem as_in (c i x : Nat) : OC Tryz.prog 162 [.ifc 187 (.agg [nat c, nat i]), .ifc 217 (.ptr 0 0)] [.box 136 [nat x]] (bool true) [.box 136 [nat c]] := by
  refine OC.of_body [0] (by intro k hk; simp at hk; subst hk; rfl) Tryz.func162 rfl (by rw [Tryz.ntmps162]; simp) ?_
  refine AWp.regionW ?_
  refine AWp.seqK fun K1 hK1 => ?_
  refine AWp.regionW ?_
  refine AWp.condF ?_
  refine AWp.skip ?_
  refine hK1 _ ?_
  refine AWp.seqK fun K2 hK2 => ?_
  refine AWp.regionW ?_
  refine AWp.condF ?_
  refine AWp.skip ?_
  refine hK2 _ ?_
  refine AWp.regionM fun K3 hK3 => ?_
  refine ARun2.valueOfM nat_valueOf (pv_Code · · · · 0 0) ?_
  refine ARun2.endm (hK3 _ ?_)
  refine AWp.regionM fun K4 hK4 => ?_
  refine ARun2.natVM _ nat_type (ty1_Code _ _) ?_
  refine ARun2.endm (hK4 _ ?_)
  refine AWp.seqK fun K5 hK5 => ?_
  refine AWp.regionM fun K6 hK6 => ?_
  refine ARun2.invCM [] (.int .u8 22) nat_kind (m_kind _) pk_Code ?_
  refine ARun2.natVM _ nat_isNil (nil_Code 0 0 _) ?_
  refine ARun2.endm (hK6 _ ?_)
  refine AWp.condF ?_
  refine AWp.skip ?_
  refine hK5 _ ?_
  refine AWp.regionM fun K7 hK7 => ?_
  refine ARun2.invCM [] (RTY 136) nat_elem (m_elem _) el_Code ?_
  refine ARun2.endm (hK7 _ ?_)
  refine AWp.seqK fun K8 hK8 => ?_
  refine AWp.regionM fun K9 hK9 => ?_
  refine ARun2.invCM [] (.int .u8 2) nat_kind (m_kind _) kd_Code ?_
  refine ARun2.gloadM (g := 2) (RTY 76) glb_err (by kernel_rfl) ?_
  refine ARun2.invCM [RTY 76] (.bool true) nat_implements (m_implements _) im_Code ?_
  refine ARun2.endm (hK9 _ ?_)
  refine AWp.condF ?_
  refine AWp.skip ?_
  refine hK8 _ ?_
  refine AWp.regionM fun K10 hK10 => ?_
  refine ARun2.callOM [0] (as2_in c i x) ?_
  refine ARun2.endm (hK10 _ ?_)
  refine AWp.ret ?_
  try simp only [thenQ, blockQ, noGo]
  refine bodyQ.m ?_
  clear hK10 K10 hK9 K9 hK8 K8 hK7 K7 hK6 K6 hK5 K5 hK4 K4 hK3 K3 hK2 K2 hK1 K1
  refine endO.m ?_ ?_
  · rfl
  first | done | exact Hand.go
theorem as_none_Code (x : Nat) : OC Tryz.prog 162 [.val .nilIface, .ifc 217 (.ptr 0 0)] [.box 136 [nat x]] (bool false) [.box 136 [nat x]] := by
  refine OC.of_body [0] (by intro k hk; simp at hk; subst hk; rfl) Tryz.func162 rfl (by rw [Tryz.ntmps162]; simp) ?_
  refine AWp.regionW ?_
  refine AWp.seqK fun K1 hK1 => ?_
  refine AWp.regionW ?_
  refine AWp.condT ?_
  refine AWp.regionW ?_
  refine AWp.ret ?_
  try simp only [thenQ, blockQ, noGo]
  refine bodyQ.m ?_
  clear hK1 K1
  refine endO.m ?_ ?_
  · rfl
  first | done | exact Hand.go
theorem as_none_Fault (x z : Nat) : OC Tryz.prog 162 [.val .nilIface, .ifc 218 (.ptr 0 0)] [.box 187 [nat x, nat z]] (bool false) [.box 187 [nat x, nat z]] := by
  refine OC.of_body [0] (by intro k hk; simp at hk; subst hk; rfl) Tryz.func162 rfl (by rw [Tryz.ntmps162]; simp) ?_
  refine AWp.regionW ?_
  refine AWp.seqK fun K1 hK1 => ?_
  refine AWp.regionW ?_
  refine AWp.condT ?_
  refine AWp.regionW ?_
  refine AWp.ret ?_
  try simp only [thenQ, blockQ, noGo]
  refine bodyQ.m ?_
  clear hK1 K1
  refine endO.m ?_ ?_
  · rfl
  first | done | exact Hand.go
def Er.codeOf : Er → Nat × Bool
  | .ok => (0, false)
  | .code c => (c, true)
  | .flt c _ => (c, true)
def Er.atOf : Er → Nat × Bool
  | .flt _ i => (i, true)
  | _ => (0, false)
theorem code_ok : PC Tryz.prog 129 [.val .nilIface] (.tup [nat 0, bool false]) := by
  refine PC.of_bodyW (by simp only [push_cast]) Tryz.func129 rfl (by rw [Tryz.ntmps129]; simp) ?_
  refine AWp.regionW ?_
  refine AWp.regionW ?_
  refine AWp.regionM fun K1 hK1 => ?_
  refine ARun2.callOM [0] (as_none_Code 0) ?_
  refine ARun2.endm (hK1 _ ?_)
  refine AWp.regionW ?_
  refine AWp.ret ?_
  try simp only [thenQ, blockQ, noGo]
  refine bodyQ.m ?_
  clear hK1 K1
  first | done | exact Hand.go
theorem code_code (c : Nat) : PC Tryz.prog 129 [.ifc 136 (nat c)] (.tup [nat c, bool true]) := by
  refine PC.of_bodyW (by simp only [push_cast]) Tryz.func129 rfl (by rw [Tryz.ntmps129]; simp) ?_
  refine AWp.regionW ?_
  refine AWp.regionW ?_
  refine AWp.regionM fun K1 hK1 => ?_
  refine ARun2.callOM [0] (as_Code_hit c 0) ?_
  refine ARun2.endm (hK1 _ ?_)
  refine AWp.regionW ?_
  refine AWp.ret ?_
  try simp only [thenQ, blockQ, noGo]
  refine bodyQ.m ?_
  clear hK1 K1
  first | done | exact Hand.go
theorem code_flt (c i : Nat) : PC Tryz.prog 129 [.ifc 187 (.agg [nat c, nat i])] (.tup [nat c, bool true]) := by
  refine PC.of_bodyW (by simp only [push_cast]) Tryz.func129 rfl (by rw [Tryz.ntmps129]; simp) ?_
  refine AWp.regionW ?_
  refine AWp.regionW ?_
  refine AWp.regionM fun K1 hK1 => ?_
  refine ARun2.callOM [0] (as_in c i 0) ?_
  refine ARun2.endm (hK1 _ ?_)
  refine AWp.regionW ?_
  refine AWp.ret ?_
  try simp only [thenQ, blockQ, noGo]
  refine bodyQ.m ?_
  clear hK1 K1
  first | done | exact Hand.go
theorem code_c (e : Er) : PC Tryz.prog 129 [erA e] (.tup [nat e.codeOf.1, bool e.codeOf.2]) := by
  cases e with
  | ok => exact code_ok
  | code c => exact code_code c
  | flt c i => exact code_flt c i
theorem at_ok : PC Tryz.prog 130 [.val .nilIface] (.tup [nat 0, bool false]) := by
  refine PC.of_bodyW (by simp only [push_cast]) Tryz.func130 rfl (by rw [Tryz.ntmps130]; simp) ?_
  refine AWp.regionW ?_
  refine AWp.regionW ?_
  refine AWp.regionM fun K1 hK1 => ?_
  refine ARun2.callOM [0] (as_none_Fault 0 0) ?_
  refine ARun2.endm (hK1 _ ?_)
  refine AWp.regionW ?_
  refine AWp.ret ?_
  try simp only [thenQ, blockQ, noGo]
  refine bodyQ.m ?_
  clear hK1 K1
  first | done | exact Hand.go
theorem at_code (c : Nat) : PC Tryz.prog 130 [.ifc 136 (nat c)] (.tup [nat 0, bool false]) := by
  refine PC.of_bodyW (by simp only [push_cast]) Tryz.func130 rfl (by rw [Tryz.ntmps130]; simp) ?_
  refine AWp.regionW ?_
  refine AWp.regionW ?_
  refine AWp.regionM fun K1 hK1 => ?_
  refine ARun2.callOM [0] (as_miss c 0 0) ?_
  refine ARun2.endm (hK1 _ ?_)
  refine AWp.regionW ?_
  refine AWp.ret ?_
  try simp only [thenQ, blockQ, noGo]
  refine bodyQ.m ?_
  clear hK1 K1
  first | done | exact Hand.go
theorem at_flt (c i : Nat) : PC Tryz.prog 130 [.ifc 187 (.agg [nat c, nat i])] (.tup [nat i, bool true]) := by
  refine PC.of_bodyW (by simp only [push_cast]) Tryz.func130 rfl (by rw [Tryz.ntmps130]; simp) ?_
  refine AWp.regionW ?_
  refine AWp.regionW ?_
  refine AWp.regionM fun K1 hK1 => ?_
  refine ARun2.callOM [0] (as_Fault_hit c i 0 0) ?_
  refine ARun2.endm (hK1 _ ?_)
  refine AWp.regionW ?_
  refine AWp.ret ?_
  try simp only [thenQ, blockQ, noGo]
  refine bodyQ.m ?_
  clear hK1 K1
  first | done | exact Hand.go
theorem at_c (e : Er) : PC Tryz.prog 130 [erA e] (.tup [nat e.atOf.1, bool e.atOf.2]) := by
  cases e with
  | ok => exact at_ok
  | code c => exact at_code c
  | flt c i => exact at_flt c i
def Er.shift (n : Nat) : Er → Er
  | .ok => .ok
  | .code c => .flt c n
  | .flt c i => .flt c (i + n)
theorem shift_c (e : Er) (n : Nat) (hn : n ≤ 2 ^ 60) (he : e.atOf.1 ≤ 2 ^ 60) : PC Tryz.prog 106 [erA e, nat n] (erA (e.shift n)) := by
  refine PC.of_bodyK (by simp only [push_cast]) Tryz.func106 rfl (by rw [Tryz.ntmps106]; simp) ?_
  refine AWp.regionW ?_
  refine AWp.regionM fun K1 hK1 => ?_
  refine ARun2.callM (code_c e) ?_
  refine ARun2.endm (hK1 _ ?_)
  refine AWp.seqK fun K2 hK2 => ?_
  refine AWp.regionW ?_
  refine AWp.condLM (fun c0 => ?_) (fun c0 => ?_)
  · skip
    have h0 : e = .ok := by cases e <;> simp [Er.codeOf] at c0 ⊢
    subst h0
    refine AWp.regionW ?_
    refine AWp.ret ?_
    try simp only [thenQ, blockQ, noGo]
    refine bodyQ.m ?_
    clear hK2 K2 hK1 K1
    simp only [Er.shift]
    first | done | exact Wk.go
  have h1 : e.shift n = .flt e.codeOf.1 (e.atOf.1 + n) := by cases e <;> simp [Er.codeOf, Er.atOf, Er.shift] at c0 ⊢
  refine AWp.skip ?_
  refine hK2 _ ?_
  refine AWp.regionM fun K3 hK3 => ?_
  refine ARun2.callM (at_c e) ?_
  refine ARun2.endm (hK3 _ ?_)
  refine AWp.regionM fun K4 hK4 => ?_
  refine ARun2.callM (fnew_c e.codeOf.1 (e.atOf.1 + n)) ?_
  refine ARun2.endm (hK4 _ ?_)
  refine AWp.ret ?_
  try simp only [thenQ, blockQ, noGo]
  refine bodyQ.m ?_
  clear hK4 K4 hK3 K3 hK2 K2 hK1 K1
  rw [h1]
  first | done | exact Wk.go
end Go.Proofs.YtokbbdodbjiciaaGreatDoor.C
namespace Go.Proofs.YtokbbdodbjiciaaGreatDoor.C
open Go.Abs
@[push_cast] theorem frmA_hand (ids : List Nat) (b : Bool) (f : Frm) : (frmA b f).hand ids = frmA false f := by simp only [frmA, AV.hand, AV.handL, bys_hand]
theorem take_ok (l : List UInt8) (i n : Nat) (hi : i + n ≤ l.length) (hl : l.length ≤ 2 ^ 40) :
    OC Tryz.prog 98 [.ptr 0 0, nat n] [cur l i] (.tup [.sl true 1 (bys ((l.drop i).take n)), bool true]) [cur l (i + n)] := by
  have e : (l.take (i + n)).drop i = (l.drop i).take n := by rw [List.drop_take]; congr 1; omega
  have hlen : ((l.drop i).take n).length ≤ 2 ^ 40 := by rw [List.length_take, List.length_drop]; omega
  refine OC.of_bodyK [0] (by intro k hk; simp at hk; subst hk; rfl) Tryz.func98 rfl (by rw [Tryz.ntmps98]; simp) ?_
  refine AWp.regionW ?_
  refine AWp.seqK fun K1 hK1 => ?_
  refine AWp.regionA fun K2 hK2 => ?_
  refine ARun.segm 3 fun KS hKS => ?_
  refine ARun2.endm (hKS _ ?_); clear hKS KS
  apply ARun.grpM 2 2 false 11 [0, 1, 9]
  · intro g2 KG hKG
    refine ARun2.gom ?_
    exact ARun2.endm (hKG _ Le.grpM)
  refine ARun.segm 2 fun KS hKS => ?_
  refine ARun2.endm (hKS _ ?_); clear hKS KS
  apply ARun.grpM 4 6 false 17 [0, 1, 13]
  · intro g6 KG hKG
    refine ARun2.gom ?_
    refine ARun2.callOM [0] (left_c l i (by omega) hl) ?_
    exact ARun2.endm (hKG _ Le.grpM)
  refine ARun2.gom ?_
  refine ARun2.endm (hK2 _ ?_)
  refine AWp.condF ?_ (by simp only [push_cast]; simp; omega)
  refine AWp.skip ?_
  refine hK1 _ ?_
  refine AWp.drS [[(0, none)], [(19, some 0)], [(20, some 1)], [(21, some 2)], [(0, none)], [(23, some 4)], [(24, some 5)], [(25, some 6)], [(0, none)], [(27, some 8)], [(28, some 9)], [(29, some 10)], [(1, none)], [(30, some 11), (31, some 12)], [(0, none)], [(33, some 14)], [(34, some 15)], [(35, some 16)], [(1, none)], [(36, some 17), (37, some 18)]] fun G hG => ?_
  refine Dr.sim ?_
  try simp only [lca, lna]
  refine Dr.sim ?_
  try simp only [lca, lna]
  refine Dr.sim ?_
  try simp only [lca, lna]
  refine Dr.sim ?_
  try simp only [lca, lna]
  refine Dr.sim ?_
  try simp only [lca, lna]
  refine Dr.sim ?_
  try simp only [lca, lna]
  refine Dr.sim ?_
  try simp only [lca, lna]
  refine Dr.sim ?_
  try simp only [lca, lna]
  refine Dr.sim ?_
  try simp only [lca, lna]
  refine Dr.sim ?_
  try simp only [lca, lna]
  refine Dr.sim ?_
  try simp only [lca, lna]
  refine Dr.sim ?_
  try simp only [lca, lna]
  refine Dr.sim ?_
  try simp only [lca, lna]
  refine Dr.sim ?_
  try simp only [lca, lna]
  refine Dr.sim ?_
  try simp only [lca, lna]
  refine Dr.sim ?_
  try simp only [lca, lna]
  refine Dr.sim ?_
  try simp only [lca, lna]
  refine Dr.sim ?_
  try simp only [lca, lna]
  refine Dr.sim ?_
  try simp only [lca, lna]
  refine Dr.sim ?_
  try simp only [lca, lna]
  refine Dr.finM (n := 20) [(22, 3), (26, 7), (32, 13), (38, 19)] [0, 1] hG Facts.mixed fun KD hKD => ?_
  refine ARun2.slice3M (i) (i + n) ?_ ?_ ?_
  · omega
  · rw [bys_len]; omega
  rw [e]
  refine ARun2.endm (hKD _ ?_); clear hKD KD hG G
  refine AWp.regionW ?_
  refine AWp.regionM fun K3 hK3 => ?_
  refine ARun2.callM (clone_c ((l.drop i).take n) hlen) ?_
  refine ARun2.endm (hK3 _ ?_)
  refine AWp.ret ?_
  try simp only [thenQ, blockQ, noGo]
  refine bodyQ.m ?_
  clear hK3 K3 hK2 K2 hK1 K1
  refine endK.m ?_ ?_
  · rfl
  first | done | exact Ho.go
theorem take_no (l : List UInt8) (i : Nat) (m : Int) (hi : i ≤ l.length) (hl : l.length ≤ 2 ^ 40) (hm : m < 0 ∨ N (l.length - i) < m) :
    OC Tryz.prog 98 [.ptr 0 0, .val (.int .i64 m)] [cur l i] (.tup [.val (.slice none 0 0), bool false]) [cur l i] := by
  refine OC.of_body [0] (by intro k hk; simp at hk; subst hk; rfl) Tryz.func98 rfl (by rw [Tryz.ntmps98]; simp) ?_
  refine AWp.regionW ?_
  refine AWp.seqK fun K1 hK1 => ?_
  refine AWp.regionA fun K2 hK2 => ?_
  refine ARun.segm 3 fun KS hKS => ?_
  refine ARun2.endm (hKS _ ?_); clear hKS KS
  apply ARun.grpM 2 2 false 11 [0, 1, 9]
  · intro g2 KG hKG
    refine ARun2.gom ?_
    exact ARun2.endm (hKG _ Le.grpM)
  refine ARun.segm 2 fun KS hKS => ?_
  refine ARun2.endm (hKS _ ?_); clear hKS KS
  apply ARun.grpM 4 6 false 17 [0, 1, 13]
  · intro g6 KG hKG
    refine ARun2.gom ?_
    refine ARun2.callOM [0] (left_c l i (by omega) hl) ?_
    exact ARun2.endm (hKG _ Le.grpM)
  refine ARun2.gom ?_
  refine ARun2.endm (hK2 _ ?_)
  refine AWp.condT ?_ (by simp only [push_cast]; simp; omega)
  refine AWp.regionW ?_
  refine AWp.ret ?_
  try simp only [thenQ, blockQ, noGo]
  refine bodyQ.m ?_
  clear hK2 K2 hK1 K1
  refine endO.m ?_ ?_
  · rfl
  first | done | exact Hand.go
theorem num_hit (k : Nat) (l : List UInt8) (i : Nat) (hk : k = 1 ∨ k = 2 ∨ k = 4) (h : i + k ≤ l.length) (hl : l.length ≤ 2 ^ 40) :
    OC Tryz.prog 96 [.ptr 0 0, nat k] [cur l i] (.tup [u32 (peekN k l i), bool true]) [cur l (i + k)] := by
  have := number_c k l i hk (by omega) hl
  rw [if_pos h, show decide (i + k ≤ l.length) = true from decide_eq_true h] at this
  exact this
theorem num_miss (k : Nat) (l : List UInt8) (i : Nat) (hk : k = 1 ∨ k = 2 ∨ k = 4) (hi : i ≤ l.length) (h : ¬ i + k ≤ l.length) (hl : l.length ≤ 2 ^ 40) :
    OC Tryz.prog 96 [.ptr 0 0, nat k] [cur l i] (.tup [u32 0, bool false]) [cur l i] := by
  have := number_c k l i hk hi hl
  rw [if_neg h, show decide (i + k ≤ l.length) = false from decide_eq_false h, show peekN k l i = 0 by unfold peekN; rw [if_neg h]] at this
  exact this
theorem peek2_lt (l : List UInt8) (i : Nat) : peekN 2 l i < 65536 := by
  unfold peekN
  split
  · have := beN_lt ((l.drop i).take 2)
    have h2 : ((l.drop i).take 2).length ≤ 2 := List.length_take_le _ _
    calc beN ((l.drop i).take 2) < 256 ^ ((l.drop i).take 2).length := this
      _ ≤ 256 ^ 2 := Nat.pow_le_pow_right (by omega) h2
  · omega
def frm0 : Frm := ⟨0, []⟩
def readN (b : List UInt8) (i : Nat) : Frm × Nat × Er :=
  if 4 ≤ b.length - i ∧ 4 ≤ peekN 2 (b.drop i) 2 ∧ peekN 2 (b.drop i) 2 ≤ b.length - i then
    if i + peekN 2 (b.drop i) 2 = b.length then (⟨peekN 2 (b.drop i) 0, ((b.drop i).drop 4).take (peekN 2 (b.drop i) 2 - 4)⟩, i + peekN 2 (b.drop i) 2, .ok)
    else if (nextN b (i + peekN 2 (b.drop i) 2)).isSome = true ∧ (nextN b (i + peekN 2 (b.drop i) 2)).getD 0 ≠ b.length then
      (⟨peekN 2 (b.drop i) 0, ((b.drop i).drop 4).take (peekN 2 (b.drop i) 2 - 4)⟩, (nextN b (i + peekN 2 (b.drop i) 2)).getD 0, .ok)
    else (frm0, 0, .flt 5 (i + peekN 2 (b.drop i) 2))
  else (frm0, 0, .flt 4 i)
@[push_cast] def readA (r : Frm × Nat × Er) : AV := .tup [frmA true r.1, nat r.2.1, erA r.2.2]
theorem read_a (b : List UInt8) (i : Nat) (hi : i ≤ b.length) (hl : b.length ≤ 2 ^ 40) (h2 : b.length - i < 2) : PC Tryz.prog 187 [.sl false 1 (bys b), nat i] (readA (frm0, 0, .flt 4 i)) := by
  have hd : (b.drop i).length = b.length - i := List.length_drop
  refine PC.of_bodyK (by simp only [push_cast]) Tryz.func187 rfl (by rw [Tryz.ntmps187]; simp) ?_
  refine AWp.regionW ?_
  refine AWp.regionM fun K1 hK1 => ?_
  refine ARun2.sliceLoM (i) ?_ ?_
  · rw [bys_len]; omega
  refine ARun2.callOM [] (new_c (b.drop i) (by omega)) ?_
  refine ARun2.endm (hK1 _ ?_)
  refine AWp.regionM fun K2 hK2 => ?_
  refine ARun2.callOM [1] (num_miss 2 (b.drop i) 0 (by omega) (by omega) (by omega) (by omega)) ?_
  refine ARun2.endm (hK2 _ ?_)
  refine AWp.regionM fun K3 hK3 => ?_
  refine ARun2.callOM [1] (num_miss 2 (b.drop i) 0 (by omega) (by omega) (by omega) (by omega)) ?_
  refine ARun2.endm (hK3 _ ?_)
  refine AWp.regionM fun K4 hK4 => ?_
  rw [show IntKind.i64.wrap (IntKind.i64.wrap 0 - 4) = -4 from rfl]
  refine ARun2.callOM [1] (take_no (b.drop i) 0 (-4) (by omega) (by omega) (.inl (by decide))) ?_
  refine ARun2.endm (hK4 _ ?_)
  refine AWp.seqK fun K5 hK5 => ?_
  refine AWp.regionA fun K6 hK6 => ?_
  refine ARun.segm 3 fun KS hKS => ?_
  refine ARun2.endm (hKS _ ?_); clear hKS KS
  apply ARun.grpM 2 2 false 42 [0, 1, 4, 8, 10, 12, 40]
  · intro g2 KG hKG
    refine ARun2.gom ?_
    exact ARun2.endm (hKG _ Le.grpM)
  refine ARun2.gom ?_
  refine ARun2.endm (hK6 _ ?_)
  refine AWp.condT ?_
  refine AWp.regionM fun K7 hK7 => ?_
  refine ARun2.callM (fnew_c 4 i) ?_
  refine ARun2.endm (hK7 _ ?_)
  refine AWp.ret ?_
  try simp only [thenQ, blockQ, noGo]
  refine bodyQ.m ?_
  clear hK7 K7 hK6 K6 hK5 K5 hK4 K4 hK3 K3 hK2 K2 hK1 K1
  simp only [readA, frm0]
  first | done | exact Wk.go
theorem read_b (b : List UInt8) (i : Nat) (hi : i ≤ b.length) (hl : b.length ≤ 2 ^ 40) (h2 : 2 ≤ b.length - i) (h4 : b.length - i < 4) : PC Tryz.prog 187 [.sl false 1 (bys b), nat i] (readA (frm0, 0, .flt 4 i)) := by
  have hd : (b.drop i).length = b.length - i := List.length_drop
  refine PC.of_bodyK (by simp only [push_cast]) Tryz.func187 rfl (by rw [Tryz.ntmps187]; simp) ?_
  refine AWp.regionW ?_
  refine AWp.regionM fun K1 hK1 => ?_
  refine ARun2.sliceLoM (i) ?_ ?_
  · rw [bys_len]; omega
  refine ARun2.callOM [] (new_c (b.drop i) (by omega)) ?_
  refine ARun2.endm (hK1 _ ?_)
  refine AWp.regionM fun K2 hK2 => ?_
  refine ARun2.callOM [1] (num_hit 2 (b.drop i) 0 (by omega) (by omega) (by omega)) ?_
  refine ARun2.endm (hK2 _ ?_)
  refine AWp.regionM fun K3 hK3 => ?_
  refine ARun2.callOM [1] (num_miss 2 (b.drop i) 2 (by omega) (by omega) (by omega) (by omega)) ?_
  refine ARun2.endm (hK3 _ ?_)
  refine AWp.regionM fun K4 hK4 => ?_
  rw [show IntKind.i64.wrap (IntKind.i64.wrap 0 - 4) = -4 from rfl]
  refine ARun2.callOM [1] (take_no (b.drop i) 2 (-4) (by omega) (by omega) (.inl (by decide))) ?_
  refine ARun2.endm (hK4 _ ?_)
  refine AWp.seqK fun K5 hK5 => ?_
  refine AWp.regionA fun K6 hK6 => ?_
  refine ARun.segm 3 fun KS hKS => ?_
  refine ARun2.endm (hKS _ ?_); clear hKS KS
  apply ARun.grpM 2 2 false 42 [0, 1, 4, 8, 10, 12, 40]
  · intro g2 KG hKG
    refine ARun2.gom ?_
    exact ARun2.endm (hKG _ Le.grpM)
  refine ARun2.gom ?_
  refine ARun2.endm (hK6 _ ?_)
  refine AWp.condT ?_
  refine AWp.regionM fun K7 hK7 => ?_
  refine ARun2.callM (fnew_c 4 i) ?_
  refine ARun2.endm (hK7 _ ?_)
  refine AWp.ret ?_
  try simp only [thenQ, blockQ, noGo]
  refine bodyQ.m ?_
  clear hK7 K7 hK6 K6 hK5 K5 hK4 K4 hK3 K3 hK2 K2 hK1 K1
  simp only [readA, frm0]
  first | done | exact Wk.go
theorem read_c1 (b : List UInt8) (i n : Nat) (hi : i ≤ b.length) (hl : b.length ≤ 2 ^ 40) (h4 : 4 ≤ b.length - i) (hn : peekN 2 (b.drop i) 2 = n) (hbad : n < 4 ∨ b.length - i < n) : PC Tryz.prog 187 [.sl false 1 (bys b), nat i] (readA (frm0, 0, .flt 4 i)) := by
  have hnl := peek2_lt (b.drop i) 2
  rw [hn] at hnl
  have hd : (b.drop i).length = b.length - i := List.length_drop
  refine PC.of_bodyK (by simp only [push_cast]) Tryz.func187 rfl (by rw [Tryz.ntmps187]; simp) ?_
  refine AWp.regionW ?_
  refine AWp.regionM fun K1 hK1 => ?_
  refine ARun2.sliceLoM (i) ?_ ?_
  · rw [bys_len]; omega
  refine ARun2.callOM [] (new_c (b.drop i) (by omega)) ?_
  refine ARun2.endm (hK1 _ ?_)
  refine AWp.regionM fun K2 hK2 => ?_
  refine ARun2.callOM [1] (num_hit 2 (b.drop i) 0 (by omega) (by omega) (by omega)) ?_
  refine ARun2.endm (hK2 _ ?_)
  refine AWp.regionM fun K3 hK3 => ?_
  refine ARun2.callOM [1] (hn ▸ num_hit 2 (b.drop i) 2 (by omega) (by omega) (by omega)) ?_
  refine ARun2.endm (hK3 _ ?_)
  refine AWp.regionM fun K4 hK4 => ?_
  rw [w64 (a := N n - 4) (by unfold N; omega) (by unfold N; omega)]
  refine ARun2.callOM [1] (take_no (b.drop i) 4 (N n - 4) (by omega) (by omega) (by unfold N; omega)) ?_
  refine ARun2.endm (hK4 _ ?_)
  refine AWp.seqK fun K5 hK5 => ?_
  refine AWp.regionA fun K6 hK6 => ?_
  refine ARun.segm 3 fun KS hKS => ?_
  refine ARun2.endm (hKS _ ?_); clear hKS KS
  apply ARun.grpM 2 2 false 42 [0, 1, 4, 8, 10, 12, 40]
  · intro g2 KG hKG
    refine ARun2.gom ?_
    exact ARun2.endm (hKG _ Le.grpM)
  refine ARun2.gom ?_
  refine ARun2.endm (hK6 _ ?_)
  refine AWp.condT ?_
  refine AWp.regionM fun K7 hK7 => ?_
  refine ARun2.callM (fnew_c 4 i) ?_
  refine ARun2.endm (hK7 _ ?_)
  refine AWp.ret ?_
  try simp only [thenQ, blockQ, noGo]
  refine bodyQ.m ?_
  clear hK7 K7 hK6 K6 hK5 K5 hK4 K4 hK3 K3 hK2 K2 hK1 K1
  simp only [readA, frm0]
  first | done | exact Wk.go
theorem read_c2 (b : List UInt8) (i n : Nat) (hi : i ≤ b.length) (hl : b.length ≤ 2 ^ 40) (h4 : 4 ≤ b.length - i) (hn : peekN 2 (b.drop i) 2 = n) (hn4 : 4 ≤ n) (hnl : n ≤ b.length - i) : PC Tryz.prog 187 [.sl false 1 (bys b), nat i] (readA (readN b i)) := by
  have hnl2 := peek2_lt (b.drop i) 2
  rw [hn] at hnl2
  have ht := peek2_lt (b.drop i) 0
  have hr : readN b i = if i + n = b.length then (⟨peekN 2 (b.drop i) 0, ((b.drop i).drop 4).take (n - 4)⟩, i + n, .ok)
      else if (nextN b (i + n)).isSome = true ∧ (nextN b (i + n)).getD 0 ≠ b.length then (⟨peekN 2 (b.drop i) 0, ((b.drop i).drop 4).take (n - 4)⟩, (nextN b (i + n)).getD 0, .ok)
      else (frm0, 0, .flt 5 (i + n)) := by
    unfold readN; rw [hn, if_pos ⟨h4, hn4, hnl⟩]
  have hd : (b.drop i).length = b.length - i := List.length_drop
  refine PC.of_bodyK (by simp only [push_cast]) Tryz.func187 rfl (by rw [Tryz.ntmps187]; simp) ?_
  refine AWp.regionW ?_
  refine AWp.regionM fun K1 hK1 => ?_
  refine ARun2.sliceLoM (i) ?_ ?_
  · rw [bys_len]; omega
  refine ARun2.callOM [] (new_c (b.drop i) (by omega)) ?_
  refine ARun2.endm (hK1 _ ?_)
  refine AWp.regionM fun K2 hK2 => ?_
  refine ARun2.callOM [1] (num_hit 2 (b.drop i) 0 (by omega) (by omega) (by omega)) ?_
  refine ARun2.endm (hK2 _ ?_)
  refine AWp.regionM fun K3 hK3 => ?_
  refine ARun2.callOM [1] (hn ▸ num_hit 2 (b.drop i) 2 (by omega) (by omega) (by omega)) ?_
  refine ARun2.endm (hK3 _ ?_)
  refine AWp.regionM fun K4 hK4 => ?_
  try rw [w_subl n 4 hn4 (by omega)]
  refine ARun2.callOM [1] (take_ok (b.drop i) 4 (n - 4) (by omega) (by omega)) ?_
  refine ARun2.endm (hK4 _ ?_)
  refine AWp.seqK fun K5 hK5 => ?_
  refine AWp.regionA fun K6 hK6 => ?_
  refine ARun.segm 3 fun KS hKS => ?_
  refine ARun2.endm (hKS _ ?_); clear hKS KS
  apply ARun.grpM 2 2 false 42 [0, 1, 4, 8, 10, 12, 40]
  · intro g2 KG hKG
    refine ARun2.gom ?_
    exact ARun2.endm (hKG _ Le.grpM)
  refine ARun2.gom ?_
  refine ARun2.endm (hK6 _ ?_)
  refine AWp.condF ?_
  refine AWp.skip ?_
  refine hK5 _ ?_
  refine AWp.regionW ?_
  refine AWp.regionM fun K7 hK7 => ?_
  refine ARun2.callM (next_c b (i + n) hl (by omega)) ?_
  refine ARun2.endm (hK7 _ ?_)
  refine AWp.seqK fun K8 hK8 => ?_
  refine AWp.block ?_
  refine AWp.regionW ?_
  refine AWp.condLM (fun c1 => ?_) (fun c1 => ?_)
  · skip
    have he : i + n = b.length := by simpa using c1
    rw [if_pos he] at hr
    refine AWp.regionV ?_
    refine hK8 _ ?_
    refine AWp.regionW ?_
    refine AWp.ret ?_
    try simp only [thenQ, blockQ, noGo]
    refine bodyQ.m ?_
    clear hK8 K8 hK7 K7 hK6 K6 hK5 K5 hK4 K4 hK3 K3 hK2 K2 hK1 K1
    rw [hr]; simp only [readA, frm0]
    first | done | exact Wk.go
  have he : ¬ i + n = b.length := by simpa using c1
  rw [if_neg he] at hr
  refine AWp.regionA fun K9 hK9 => ?_
  refine ARun.segm 3 fun KS hKS => ?_
  refine ARun2.endm (hKS _ ?_); clear hKS KS
  apply ARun.grpM 4 2 false 70 [4, 8, 12, 14, 15, 66]
  · intro g2 KG hKG
    refine ARun2.gom ?_
    exact ARun2.endm (hKG _ Le.grpM)
  refine ARun2.gom ?_
  refine ARun2.endm (hK9 _ ?_)
  refine AWp.condLM (fun c2 => ?_) (fun c2 => ?_)
  · skip
    rw [if_neg (by simp at c2; intro h; rcases c2 with c | c <;> simp_all)] at hr
    refine AWp.regionM fun K10 hK10 => ?_
    refine ARun2.callM (fnew_c 5 (i + n)) ?_
    refine ARun2.endm (hK10 _ ?_)
    refine AWp.ret ?_
    try simp only [thenQ, blockQ, noGo]
    refine bodyQ.m ?_
    clear hK10 K10 hK9 K9 hK8 K8 hK7 K7 hK6 K6 hK5 K5 hK4 K4 hK3 K3 hK2 K2 hK1 K1
    rw [hr]; simp only [readA, frm0]
    first | done | exact Wk.go
  rw [if_pos (by simp at c2; exact ⟨by simp_all, by simp_all⟩)] at hr
  refine AWp.skip ?_
  refine hK8 _ ?_
  refine AWp.regionW ?_
  refine AWp.ret ?_
  try simp only [thenQ, blockQ, noGo]
  refine bodyQ.m ?_
  clear hK9 K9 hK8 K8 hK7 K7 hK6 K6 hK5 K5 hK4 K4 hK3 K3 hK2 K2 hK1 K1
  rw [hr]; simp only [readA, frm0]
  first | done | exact Wk.go
theorem read_c (b : List UInt8) (i : Nat) (hi : i ≤ b.length) (hl : b.length ≤ 2 ^ 40) : PC Tryz.prog 187 [.sl false 1 (bys b), nat i] (readA (readN b i)) := by
  by_cases h4 : 4 ≤ b.length - i
  · by_cases hn : 4 ≤ peekN 2 (b.drop i) 2 ∧ peekN 2 (b.drop i) 2 ≤ b.length - i
    · exact read_c2 b i _ hi hl h4 rfl hn.1 hn.2
    · have hr : readN b i = (frm0, 0, .flt 4 i) := by unfold readN; rw [if_neg fun h => hn h.2]
      rw [hr]
      exact read_c1 b i _ hi hl h4 rfl (by omega)
  · have hr : readN b i = (frm0, 0, .flt 4 i) := by unfold readN; rw [if_neg fun h => h4 h.1]
    rw [hr]
    by_cases h2 : b.length - i < 2
    · exact read_a b i hi hl h2
    · exact read_b b i hi hl (by omega) (by omega)
structure GChunk where
  ty : Nat
  flags : Nat
  data : List UInt8
  kids : List GNode
def GChunk.zero : GChunk := ⟨0, 0, [], []⟩
@[push_cast] def chunkA (b : Bool) (c : GChunk) : AV := .agg [u8 c.ty, u8 c.flags, .sl b 1 (bys c.data), .sl b 3 (nodesA b c.kids)]
def maskBad (f m : Nat) : Bool := bitsV .andNot .u8 (N f) (N m) != 0
def kkidsOk (k : KForm) (l : List GNode) : Bool :=
  decide ((kinsideN k.kids).2.1 ≤ l.length) && decide (l.length ≤ (kinsideN k.kids).2.2) && (k.kids != 1 || (l.headD default).ty == 1) && (k.kids != 6 || ((l.headD default).ty == 5 || (l.headD default).ty == 6))
def sackBad (c : GChunk) : Bool := c.ty == 3 && (peekN 2 c.data 8 + peekN 2 c.data 10 != (c.data.length - 12) / 4)
def oddAt (d : List UInt8) : Nat → Nat → Option Nat
  | 0, _ => none
  | k + 1, i => if i < d.length then (if 1 < peekN 2 d (i + 2) then some (i + 2) else oddAt d k (i + 8)) else none
def oddN (c : GChunk) : Option Nat := if c.ty = 64 then (if peekN 2 c.data 6 ≠ 0 then some 6 else none) else if c.ty = 194 then oddAt c.data c.data.length 4 else none
def flagsE (c : GChunk) (k : KForm) : Er := if maskBad c.flags k.mask = true then .flt 6 1 else .ok
def dataE (c : GChunk) (k : KForm) : Er := if kfitsN k c.data.length = false then .flt 7 0 else .ok
def kidsE (c : GChunk) (k : KForm) : Er := if kkidsOk k c.kids = false then .flt 7 0 else .ok
def countE (c : GChunk) : Er := if sackBad c = true then .flt 8 12 else .ok
def valueE (c : GChunk) : Er := match oddN c with
  | some i => .flt 11 (4 + i)
  | none => .ok
def firstE : List Er → Er
  | [] => .ok
  | e :: l => if e = .ok then firstE l else e
theorem firstE_take : ∀ (l : List Er) (i : Nat), i < l.length → (∀ j, j < i → l.getD j .ok = .ok) → l.getD i .ok ≠ .ok → firstE l = l.getD i .ok
  | [], i, h, _, _ => by simp at h
  | e :: l, 0, h, _, h2 => by simp [firstE] at h2 ⊢; intro he; exact absurd he h2
  | e :: l, i + 1, h, h1, h2 => by
    have h0 := h1 0 (by omega)
    simp at h0
    subst h0
    rw [firstE, if_pos rfl]
    exact firstE_take l i (by simpa using h) (fun j hj => by have := h1 (j + 1) (by omega); simpa using this) (by simpa using h2)
theorem firstE_ok : ∀ (l : List Er), (∀ j, j < l.length → l.getD j .ok = .ok) → firstE l = .ok
  | [], _ => rfl
  | e :: l, h => by
    have h0 := h 0 (by simp)
    simp at h0
    subst h0
    rw [firstE, if_pos rfl]
    exact firstE_ok l fun j hj => by have := h (j + 1) (by simpa using hj); simpa using this
def idxN (l : List Nat) (x : Nat) : Int := match l.findIdx? (· == x) with
  | some i => N i
  | none => -1
theorem idxN_hit {l : List Nat} {x i : Nat} (h : i < l.length) (h0 : ∀ j (hj : j < i), l[j]'(by omega) ≠ x) (hi : l[i] = x) : idxN l x = N i := by
  unfold idxN
  rw [show l.findIdx? (· == x) = some i from List.findIdx?_eq_some_iff_getElem.2 ⟨h, by simpa using hi, fun j hj => by simpa using h0 j hj⟩]
theorem idxN_none {l : List Nat} {x : Nat} (h0 : ∀ j (hj : j < l.length), l[j] ≠ x) : idxN l x = -1 := by
  unfold idxN
  rw [show l.findIdx? (· == x) = none from List.findIdx?_eq_none_iff.2 fun y hy => by
    obtain ⟨j, hj, rfl⟩ := List.getElem_of_mem hy
    simpa using h0 j hj]
theorem idxN_in (l : List Nat) (x : Nat) : decide (0 ≤ idxN l x) = l.contains x := by
  unfold idxN
  cases h : l.findIdx? (· == x) with
  | some i =>
    obtain ⟨h1, h2, _⟩ := List.findIdx?_eq_some_iff_getElem.1 h
    have : l.contains x = true := by
      rw [List.contains_iff_mem]
      have : l[i] = x := by simpa using h2
      exact this ▸ List.getElem_mem h1
    rw [this]; simp [N]
  | none =>
    have h1 := List.findIdx?_eq_none_iff.1 h
    have : l.contains x = false := by
      cases hc : l.contains x with
      | false => rfl
      | true =>
        rw [List.contains_iff_mem] at hc
        have := h1 x hc
        simp at this
    rw [this]; decide
def u8s (l : List Nat) : List AV := l.map u8
@[push_cast] theorem u8s_hand (ids : List Nat) (l : List Nat) : AV.handL ids (u8s l) = u8s l := by
  rw [AV.handL_map]; simp [u8s, AV.hand]
@[push_cast] theorem u8s_len (l : List Nat) : (u8s l).length = l.length := by simp [u8s]
@[push_cast] theorem u8s_ids (p : Nat → Bool) (l : List Nat) : AV.idsOkL p (u8s l) = true := by
  rw [AV.idsOkL_iff]; intro x hx; simp only [u8s, List.mem_map] at hx; obtain ⟨b, _, rfl⟩ := hx; rfl
theorem index16_c (l : List Nat) (x : Nat) (hl : l.length ≤ 2 ^ 40) : PC Tryz.prog 170 [.sl false 1 (u16s l), u16 x] (.val (.int .i64 (idxN l x))) := by
  refine PC.of_bodyW (by simp only [push_cast]) Tryz.func170 rfl (by rw [Tryz.ntmps170]; simp) ?_
  refine AWp.regionW ?_
  refine AWp.seqK fun K1 hK1 => ?_
  refine AWp.regionW ?_
  refine AWp.block ?_
  refine AWp.loopK0 [0, 1, 7] (fun (i : Nat) => [(8, nat i)]) (fun i => i ≤ l.length ∧ ∀ j (hj : j < l.length), j < i → l[j] ≠ x) (fun i => l.length - i) (0) ?_ ⟨Nat.zero_le _, fun j _ hj => by omega⟩ ?_
  · skip
    refine Le.m 0 ?_ ?_
    · exact Go.Abs.evM
    · exact Go.Abs.evN
  · intro i hi K2 hK2
    refine AWp.regionW ?_
    refine AWp.seqK fun K3 hK3 => ?_
    refine AWp.condLM (fun c0 => ?_) (fun c0 => ?_)
    · skip
      have hil : i < l.length := by simpa using c0
      refine AWp.skip ?_
      refine hK3 _ ?_
      refine AWp.seqK fun K4 hK4 => ?_
      refine AWp.block ?_
      refine AWp.regionW ?_
      refine AWp.regionM fun K5 hK5 => ?_
      refine ARun2.indexM (i) (u16 l[i]) ?_ ?_
      · exact u16s_at _ _ hil
      refine ARun2.endm (hK5 _ ?_)
      refine AWp.condLM (fun c1 => ?_) (fun c1 => ?_)
      · skip
        have he : l[i] = x := by simp at c1; exact c1.symm
        have hz := idxN_hit hil (fun j hj => hi.2 j (by omega) hj) he
        refine AWp.regionW ?_
        refine AWp.ret ?_
        try simp only [thenQ, blockQ, noGo]
        refine bodyQ.m ?_
        clear hK5 K5 hK4 K4 hK3 K3 hK2 K2 hK1 K1
        rw [hz]
        first | done | exact Hand.go
      have hne : l[i] ≠ x := by simp at c1; exact fun h => c1 h.symm
      refine AWp.skip ?_
      refine hK4 _ ?_
      refine AWp.regionV ?_
      refine hK2 _ (i + 1) (⟨hil, fun j hj hji => (Nat.lt_or_ge j i).elim (fun h => hi.2 j hj h) (fun h => by have e : j = i := (by omega); subst e; exact hne)⟩) (by omega) ?_
      refine Le.m 0 ?_ ?_
      · exact Go.Abs.evM
      · exact Go.Abs.evN
    have hil : i = l.length := by have := hi.1; simp at c0; omega
    have hz := idxN_none (l := l) (x := x) fun j hj => hi.2 j hj (by omega)
    refine AWp.exit ?_
    try simp only [thenQ, blockQ, noGo, reduceIte, Nat.reduceEqDiff]
    refine hK1 _ ?_
    refine AWp.regionW ?_
    refine AWp.ret ?_
    try simp only [thenQ, blockQ, noGo]
    refine bodyQ.m ?_
    clear hK3 K3 hK2 K2 hK1 K1
    rw [hz]
    first | done | exact Hand.go
theorem contains16_c (l : List Nat) (x : Nat) (hl : l.length ≤ 2 ^ 40) : PC Tryz.prog 144 [.sl false 1 (u16s l), u16 x] (bool (l.contains x)) := by
  refine PC.of_bodyW (by simp only [push_cast]) Tryz.func144 rfl (by rw [Tryz.ntmps144]; simp) ?_
  refine AWp.regionW ?_
  refine AWp.regionM fun K1 hK1 => ?_
  refine ARun2.callM (index16_c l x hl) ?_
  refine ARun2.endm (hK1 _ ?_)
  refine AWp.ret ?_
  try simp only [thenQ, blockQ, noGo]
  refine bodyQ.m ?_
  clear hK1 K1
  rw [idxN_in]
  first | done | exact Hand.go
@[push_cast] theorem nodesA_ren (φ : Nat → Nat) (b : Bool) (l : List GNode) : AV.renL φ (nodesA b l) = nodesA b l := AV.renL_closed φ _ (nodesA_ids _ b l)
theorem arsz_i : arSz Tryz.prog 177 = some (7, 3) := by kernel_rfl
theorem arsz_3 : arSz Tryz.prog 176 = some (3, 1) := by kernel_rfl
theorem insideA_at (k : Nat) (h : k < 7) : insideA[k]? = some (.agg [nat (kinsideN k).1, nat (kinsideN k).2.1, nat (kinsideN k).2.2]) := by
  simp [insideA, h]
theorem kinside_c (k : Nat) (hk : k ≤ 6) : PC Tryz.prog 89 [nat k] (.tup [nat (kinsideN k).1, nat (kinsideN k).2.1, nat (kinsideN k).2.2]) := by
  refine PC.of_bodyW (by simp only [push_cast]) Tryz.func89 rfl (by rw [Tryz.ntmps89]; simp) ?_
  refine AWp.regionW ?_
  refine AWp.seqK fun K1 hK1 => ?_
  refine AWp.regionA fun K2 hK2 => ?_
  refine ARun.segm 3 fun KS hKS => ?_
  refine ARun2.endm (hKS _ ?_); clear hKS KS
  apply ARun.grpM 2 2 false 9 [0, 7]
  · intro g2 KG hKG
    refine ARun2.gom ?_
    exact ARun2.endm (hKG _ Le.grpM)
  refine ARun2.gom ?_
  refine ARun2.endm (hK2 _ ?_)
  refine AWp.condF ?_ (by simp only [push_cast]; simp; omega)
  refine AWp.skip ?_
  refine hK1 _ ?_
  refine AWp.drS [[(0, none)], [(11, some 0)], [(12, some 1)], [(13, some 2)], [(0, none)], [(15, some 4)], [(16, some 5)], [(17, some 6)], [(0, none)], [(19, some 8)], [(20, some 9)], [(21, some 10)], [(14, some 3)], [(18, some 7)], [(22, some 11)]] fun G hG => ?_
  refine Dr.sim ?_
  try simp only [lca, lna]
  refine Dr.gidx insideA icells k _ iglb ielems arsz_i rfl (by decide) (insideA_at k (by omega)) ?_
  try simp only [lca, lna]
  refine Dr.aref 0 (nat (kinsideN k).1) arsz_3 rfl rfl ?_
  try simp only [lca, lna]
  refine Dr.sim ?_
  try simp only [lca, lna]
  refine Dr.sim ?_
  try simp only [lca, lna]
  refine Dr.gidx insideA icells k _ iglb ielems arsz_i rfl (by decide) (insideA_at k (by omega)) ?_
  try simp only [lca, lna]
  refine Dr.aref 1 (nat (kinsideN k).2.1) arsz_3 rfl rfl ?_
  try simp only [lca, lna]
  refine Dr.sim ?_
  try simp only [lca, lna]
  refine Dr.sim ?_
  try simp only [lca, lna]
  refine Dr.gidx insideA icells k _ iglb ielems arsz_i rfl (by decide) (insideA_at k (by omega)) ?_
  try simp only [lca, lna]
  refine Dr.aref 2 (nat (kinsideN k).2.2) arsz_3 rfl rfl ?_
  try simp only [lca, lna]
  refine Dr.sim ?_
  try simp only [lca, lna]
  refine Dr.sim ?_
  try simp only [lca, lna]
  refine Dr.sim ?_
  try simp only [lca, lna]
  refine Dr.sim ?_
  try simp only [lca, lna]
  refine Dr.finM (n := 15) [(2, 12), (3, 13), (4, 14)] [] hG Facts.mixed fun KD hKD => ?_
  refine ARun2.endm (hKD _ ?_); clear hKD KD hG G
  refine AWp.ret ?_
  try simp only [thenQ, blockQ, noGo]
  refine bodyQ.m ?_
  clear hK2 K2 hK1 K1
  first | done | exact Hand.go
theorem kfits_c (f : KForm) (n : Nat) (hn : n < 2 ^ 60) (hl : f.least < 2 ^ 60) (hu : 0 < f.unit) (hu2 : f.unit < 2 ^ 60) : PC Tryz.prog 140 [kformA f, nat n] (bool (kfitsN f n)) := by
  refine PC.of_bodyW (by simp only [push_cast]) Tryz.func140 rfl (by rw [Tryz.ntmps140]; simp) ?_
  refine AWp.regionW ?_
  refine AWp.regionA fun K1 hK1 => ?_
  refine ARun.segm 5 fun KS hKS => ?_
  refine ARun2.endm (hKS _ ?_); clear hKS KS
  apply ARun.grpM 4 4 true 13 [1, 2, 9]
  · intro g4 KG hKG
    refine ARun2.gom ?_
    exact ARun2.endm (hKG _ Le.grpM)
  refine ARun.segm 2 fun KS hKS => ?_
  refine ARun2.endm (hKS _ ?_); clear hKS KS
  apply ARun.grpM 8 10 true 23 [15]
  · intro g10 KG hKG
    have hle : f.least ≤ n := by simp at g10; omega
    refine ARun2.gom ?_
    exact ARun2.endm (hKG _ Le.grpM)
  refine ARun2.gom ?_
  refine ARun2.endm (hK1 _ ?_)
  refine AWp.ret ?_
  try simp only [thenQ, blockQ, noGo]
  refine bodyQ.m ?_
  clear hK1 K1
  simp only [kfitsN]
  first | done | exact Hand.go
theorem cflags_c (c : GChunk) (k : KForm) : PC Tryz.prog 101 [chunkA false c, kformA k] (erA (flagsE c k)) := by
  refine PC.of_bodyW (by simp only [push_cast]) Tryz.func101 rfl (by rw [Tryz.ntmps101]; simp) ?_
  refine AWp.regionW ?_
  refine AWp.seqK fun K1 hK1 => ?_
  refine AWp.regionW ?_
  refine AWp.condLM (fun c0 => ?_) (fun c0 => ?_)
  · skip
    have h : flagsE c k = .flt 6 1 := if_pos (show maskBad c.flags k.mask = true from c0)
    refine AWp.regionM fun K2 hK2 => ?_
    refine ARun2.callM (fnew_c 6 1) ?_
    refine ARun2.endm (hK2 _ ?_)
    refine AWp.ret ?_
    try simp only [thenQ, blockQ, noGo]
    refine bodyQ.m ?_
    clear hK2 K2 hK1 K1
    rw [h]
    first | done | exact Hand.go
  have h : flagsE c k = .ok := if_neg (by rw [show maskBad c.flags k.mask = false from c0]; simp)
  refine AWp.skip ?_
  refine hK1 _ ?_
  refine AWp.regionW ?_
  refine AWp.ret ?_
  try simp only [thenQ, blockQ, noGo]
  refine bodyQ.m ?_
  clear hK1 K1
  rw [h]
  first | done | exact Hand.go
theorem cdata_c (c : GChunk) (k : KForm) (hd : c.data.length ≤ 2 ^ 40) (hl : k.least < 2 ^ 60) (hu : 0 < k.unit) (hu2 : k.unit < 2 ^ 60) : PC Tryz.prog 102 [chunkA false c, kformA k] (erA (dataE c k)) := by
  refine PC.of_bodyW (by simp only [push_cast]) Tryz.func102 rfl (by rw [Tryz.ntmps102]; simp) ?_
  refine AWp.regionW ?_
  refine AWp.seqK fun K1 hK1 => ?_
  refine AWp.regionM fun K2 hK2 => ?_
  refine ARun2.callM (kfits_c k c.data.length (by omega) hl hu hu2) ?_
  refine ARun2.endm (hK2 _ ?_)
  refine AWp.condLM (fun c0 => ?_) (fun c0 => ?_)
  · skip
    have h : dataE c k = .flt 7 0 := if_pos (by simpa using c0)
    refine AWp.regionM fun K3 hK3 => ?_
    refine ARun2.callM (fnew_c 7 0) ?_
    refine ARun2.endm (hK3 _ ?_)
    refine AWp.ret ?_
    try simp only [thenQ, blockQ, noGo]
    refine bodyQ.m ?_
    clear hK3 K3 hK2 K2 hK1 K1
    rw [h]
    first | done | exact Hand.go
  have h : dataE c k = .ok := if_neg (by simpa using c0)
  refine AWp.skip ?_
  refine hK1 _ ?_
  refine AWp.regionW ?_
  refine AWp.ret ?_
  try simp only [thenQ, blockQ, noGo]
  refine bodyQ.m ?_
  clear hK2 K2 hK1 K1
  rw [h]
  first | done | exact Hand.go
theorem first1_c (l : List Nat) (c : GChunk) (hl : l.length ≤ 2 ^ 40) (hk : c.kids.length ≤ 2 ^ 40) :
    OC Tryz.prog 143 [.sl false 1 (u16s l), .ptr 0 0, .ptr 1 0] [.box 3 [nat c.kids.length], .box 30 [u8 c.ty, u8 c.flags, .sl false 1 (bys c.data), .sl false 3 (nodesA false c.kids)]] (bool (c.kids.length == 0 || l.contains (c.kids.headD default).ty)) [.box 3 [nat c.kids.length], .box 30 [u8 c.ty, u8 c.flags, .sl false 1 (bys c.data), .sl false 3 (nodesA false c.kids)]] := by
  refine OC.of_body [0, 1] (by intro k hk; simp at hk; match k, hk with | 0, _ => rfl | 1, _ => rfl) Tryz.func143 rfl (by rw [Tryz.ntmps143]; simp) ?_
  refine AWp.regionW ?_
  refine AWp.regionA fun K1 hK1 => ?_
  refine ARun.segm 3 fun KS hKS => ?_
  refine ARun2.endm (hKS _ ?_); clear hKS KS
  apply ARun.grpM 7 2 false 14 [7]
  · intro g2 KG hKG
    have hn : 0 < c.kids.length := by simp at g2; exact List.length_pos_iff.2 g2
    refine ARun2.gom ?_
    refine ARun2.indexM (0) (nodeA false (c.kids.headD default)) ?_ ?_
    · exact nodesA_head false _ hn
    refine ARun2.callM (contains16_c l (c.kids.headD default).ty hl) ?_
    exact ARun2.endm (hKG _ Le.grpM)
  refine ARun2.gom ?_
  refine ARun2.endm (hK1 _ ?_)
  refine AWp.ret ?_
  try simp only [thenQ, blockQ, noGo]
  refine bodyQ.m ?_
  clear hK1 K1
  refine endO.m ?_ ?_
  · rfl
  first | done | exact Hand.go
@[push_cast] theorem bif_true_r (b : Bool) : (bif b then true else false) = b := by cases b <;> rfl
theorem kk_eq (q n y : Nat) (hq : q ≤ 6) : (decide (n < (kinsideN q).2.1) || decide ((kinsideN q).2.2 < n) || q == 1 && !(n == 0 || y == 1) || q == 6 && !(n == 0 || (y == 5 || y == 6))) =
    !(decide ((kinsideN q).2.1 ≤ n) && decide (n ≤ (kinsideN q).2.2) && (q != 1 || y == 1) && (q != 6 || (y == 5 || y == 6))) := by
  have h : q = 0 ∨ q = 1 ∨ q = 2 ∨ q = 3 ∨ q = 4 ∨ q = 5 ∨ q = 6 := by omega
  rcases h with rfl | rfl | rfl | rfl | rfl | rfl | rfl <;> rw [Bool.eq_iff_iff] <;> simp [kinsideN] <;> omega
theorem ckids_c (c : GChunk) (k : KForm) (hk : k.kids ≤ 6) (hl : c.kids.length ≤ 2 ^ 40) : PC Tryz.prog 107 [chunkA false c, kformA k] (erA (kidsE c k)) := by
  have hb : (decide (c.kids.length < (kinsideN k.kids).2.1) || decide ((kinsideN k.kids).2.2 < c.kids.length) || k.kids == 1 && !(c.kids.length == 0 || (c.kids.headD default).ty == 1) || k.kids == 6 && !(c.kids.length == 0 || ((c.kids.headD default).ty == 5 || (c.kids.headD default).ty == 6))) = !kkidsOk k c.kids :=
    kk_eq k.kids c.kids.length (c.kids.headD default).ty hk
  have h1 := first1_c [1] c (by decide) hl
  have h56 := first1_c [5, 6] c (by decide) hl
  have e1 : ([1] : List Nat).contains (c.kids.headD default).ty = ((c.kids.headD default).ty == 1) := by rw [List.contains_cons]; simp only [List.contains_nil, Bool.or_false]
  have e56 : ([5, 6] : List Nat).contains (c.kids.headD default).ty = ((c.kids.headD default).ty == 5 || (c.kids.headD default).ty == 6) := by rw [List.contains_cons, List.contains_cons]; simp only [List.contains_nil, Bool.or_false]
  rw [e1] at h1
  rw [e56] at h56
  refine PC.of_bodyW (by simp only [push_cast]) Tryz.func107 rfl (by rw [Tryz.ntmps107]; simp) ?_
  refine AWp.regionW ?_
  refine AWp.regionM fun K1 hK1 => ?_
  refine ARun2.callM (kinside_c k.kids hk) ?_
  refine ARun2.endm (hK1 _ ?_)
  refine AWp.regionW ?_
  refine AWp.regionW ?_
  refine AWp.seqK fun K2 hK2 => ?_
  refine AWp.regionA fun K3 hK3 => ?_
  refine ARun.segm 4 fun KS hKS => ?_
  refine ARun2.endm (hKS _ ?_); clear hKS KS
  apply ARun.grpM 3 3 false 27 [3, 9, 24]
  · intro g3 KG hKG
    refine ARun2.gom ?_
    exact ARun2.endm (hKG _ Le.grpM)
  refine ARun.segm 2 fun KS hKS => ?_
  refine ARun2.endm (hKS _ ?_); clear hKS KS
  apply ARun.grpM 9 8 false 38 [3, 9, 29]
  · intro g8 KG hKG
    refine ARun.segm 4 fun KS hKS => ?_
    refine ARun2.endm (hKS _ ?_); clear hKS KS
    apply ARun.grpM 4 12 true 37 [3, 9, 29, 33]
    · intro g12 KG hKG
      refine ARun2.gom ?_
      refine ARun2.callOM [2, 0] (h1) ?_
      exact ARun2.endm (hKG _ Le.grpM)
    refine ARun2.gom ?_
    exact ARun2.endm (hKG _ Le.grpM)
  refine ARun.segm 2 fun KS hKS => ?_
  refine ARun2.endm (hKS _ ?_); clear hKS KS
  apply ARun.grpM 9 19 false 49 [40]
  · intro g19 KG hKG
    refine ARun.segm 4 fun KS hKS => ?_
    refine ARun2.endm (hKS _ ?_); clear hKS KS
    apply ARun.grpM 4 23 true 48 [40, 44]
    · intro g23 KG hKG
      refine ARun2.gom ?_
      refine ARun2.callOM [2, 0] (h56) ?_
      exact ARun2.endm (hKG _ Le.grpM)
    refine ARun2.gom ?_
    exact ARun2.endm (hKG _ Le.grpM)
  refine ARun2.gom ?_
  refine ARun2.endm (hK3 _ ?_)
  refine AWp.condLM (fun c0 => ?_) (fun c0 => ?_)
  · skip
    have h : kidsE c k = .flt 7 0 := if_pos (by rw [hb] at c0; simpa using c0)
    refine AWp.regionM fun K4 hK4 => ?_
    refine ARun2.callM (fnew_c 7 0) ?_
    refine ARun2.endm (hK4 _ ?_)
    refine AWp.ret ?_
    try simp only [thenQ, blockQ, noGo]
    refine bodyQ.m ?_
    clear hK4 K4 hK3 K3 hK2 K2 hK1 K1
    rw [h]
    first | done | exact Hand.go
  have h : kidsE c k = .ok := if_neg (by rw [hb] at c0; simpa using c0)
  refine AWp.skip ?_
  refine hK2 _ ?_
  refine AWp.regionW ?_
  refine AWp.ret ?_
  try simp only [thenQ, blockQ, noGo]
  refine bodyQ.m ?_
  clear hK3 K3 hK2 K2 hK1 K1
  rw [h]
  first | done | exact Hand.go
theorem peek_cut (d : List UInt8) (i j n : Nat) (h : j + 2 ≤ n) (hn : i + n ≤ d.length) : peekN 2 ((d.take (i + n)).drop i) j = peekN 2 d (i + j) := by
  have e : ((d.take (i + n)).drop i).length = n := by rw [List.length_drop, List.length_take]; omega
  unfold peekN
  rw [if_pos (by omega), if_pos (by omega), List.drop_drop, List.drop_take, List.take_take]
  congr 2; omega
theorem nums_2a (d : List UInt8) (h : d.length = 4) : numsOf 2 d = [peekN 2 d 0, peekN 2 d 2] := by
  unfold numsOf peekN
  rw [h, if_pos (by omega), if_pos (by omega)]
  simp [List.range_succ]
theorem nums_1a (d : List UInt8) (h : d.length = 2) : numsOf 2 d = [peekN 2 d 0] := by
  unfold numsOf peekN
  rw [h, if_pos (by omega)]
  simp [List.range_succ]
theorem ccount_c (c : GChunk) (k : KForm) (hd : c.data.length ≤ 2 ^ 40) (h12 : c.ty = 3 → 12 ≤ c.data.length) : PC Tryz.prog 103 [chunkA false c, kformA k] (erA (countE c)) := by
  have p1 := peek2_lt c.data 8
  have p2 := peek2_lt c.data 10
  refine PC.of_bodyW (by simp only [push_cast]) Tryz.func103 rfl (by rw [Tryz.ntmps103]; simp) ?_
  refine AWp.regionW ?_
  refine AWp.seqK fun K1 hK1 => ?_
  refine AWp.regionW ?_
  refine AWp.condLM (fun c0 => ?_) (fun c0 => ?_)
  · skip
    have h : countE c = .ok := if_neg (by unfold sackBad; simp at c0 ⊢; intro h; exact absurd h c0)
    refine AWp.regionW ?_
    refine AWp.ret ?_
    try simp only [thenQ, blockQ, noGo]
    refine bodyQ.m ?_
    clear hK1 K1
    rw [h]
    first | done | exact Hand.go
  have h3 : c.ty = 3 := by simpa using c0
  have hl := h12 h3
  have e4 : ((c.data.take 12).drop 8).length = 4 := by rw [List.length_drop, List.length_take]; omega
  have hns := numbers_n 2 ((c.data.take 12).drop 8) (by omega) (by omega) (by rw [e4])
  rw [nums_2a _ e4, peek_cut c.data 8 0 4 (by omega) (by omega), peek_cut c.data 8 2 4 (by omega) (by omega)] at hns
  refine AWp.skip ?_
  refine hK1 _ ?_
  refine AWp.regionM fun K2 hK2 => ?_
  refine ARun2.sliceM (8) (12) ?_ ?_ ?_
  · omega
  · rw [bys_len]; omega
  refine ARun2.callM (hns) ?_
  refine ARun2.endm (hK2 _ ?_)
  refine AWp.seqK fun K3 hK3 => ?_
  refine AWp.drS [[(5, none)], [(13, some 0)], [(14, some 1)], [(15, some 2)], [(5, none)], [(17, some 4)], [(18, some 5)], [(19, some 6)], [(16, some 3), (20, some 7)], [(2, none)], [(22, some 9)], [(23, some 10)], [(24, some 11)], [(25, some 12)], [(21, some 8), (26, some 13)]] fun G hG => ?_
  refine Dr.sim ?_
  try simp only [lca, lna]
  refine Dr.idx (0) (u32 (peekN 2 c.data 8)) ?_ ?_
  · rfl
  try simp only [lca, lna]
  refine Dr.sim ?_
  try simp only [lca, lna]
  refine Dr.sim ?_
  try simp only [lca, lna]
  refine Dr.sim ?_
  try simp only [lca, lna]
  refine Dr.idx (1) (u32 (peekN 2 c.data 10)) ?_ ?_
  · rfl
  try simp only [lca, lna]
  refine Dr.sim ?_
  try simp only [lca, lna]
  refine Dr.sim ?_
  try simp only [lca, lna]
  refine Dr.sim ?_
  try simp only [lca, lna]
  refine Dr.sim ?_
  try simp only [lca, lna]
  refine Dr.sim ?_
  try simp only [lca, lna]
  refine Dr.sim ?_
  try simp only [lca, lna]
  refine Dr.sim ?_
  try simp only [lca, lna]
  refine Dr.sim ?_
  try simp only [lca, lna]
  refine Dr.sim ?_
  try simp only [lca, lna]
  refine Dr.finM (n := 15) [(27, 14)] [] hG Facts.mixed fun KD hKD => ?_
  refine ARun2.endm (hKD _ ?_); clear hKD KD hG G
  refine AWp.condLM (fun c1 => ?_) (fun c1 => ?_)
  · skip
    have h : countE c = .flt 8 12 := if_pos (by unfold sackBad; rw [h3, c1]; rfl)
    refine AWp.regionM fun K4 hK4 => ?_
    refine ARun2.callM (fnew_c 8 12) ?_
    refine ARun2.endm (hK4 _ ?_)
    refine AWp.ret ?_
    try simp only [thenQ, blockQ, noGo]
    refine bodyQ.m ?_
    clear hK4 K4 hK3 K3 hK2 K2 hK1 K1
    rw [h]
    first | done | exact Hand.go
  have h : countE c = .ok := if_neg (by unfold sackBad; rw [h3, c1]; simp)
  refine AWp.skip ?_
  refine hK3 _ ?_
  refine AWp.regionW ?_
  refine AWp.ret ?_
  try simp only [thenQ, blockQ, noGo]
  refine bodyQ.m ?_
  clear hK3 K3 hK2 K2 hK1 K1
  rw [h]
  first | done | exact Hand.go
theorem nextN_le {b : List UInt8} {n : Nat} (h : (nextN b n).isSome = true) : n ≤ (nextN b n).getD 0 ∧ (nextN b n).getD 0 ≤ b.length := by
  unfold nextN at h ⊢
  split at h
  · rename_i hc; rw [if_pos hc]; exact ⟨by simp [upN], hc.2.1⟩
  · simp at h
theorem readN_next {b : List UInt8} {i : Nat} (h : (readN b i).2.2 = .ok) : i + 4 ≤ (readN b i).2.1 ∧ (readN b i).2.1 ≤ b.length := by
  unfold readN at h ⊢
  split at h
  · rename_i hc
    rw [if_pos hc]
    split at h
    · rename_i he; rw [if_pos he]; exact ⟨by show i + 4 ≤ i + _; omega, by show i + _ ≤ _; omega⟩
    · rename_i he
      rw [if_neg he]
      split at h
      · rename_i hs
        rw [if_pos hs]
        have := nextN_le hs.1
        exact ⟨by show i + 4 ≤ Option.getD _ 0; omega, this.2⟩
      · cases h
  · cases h
def scan (b : List UInt8) : Nat → Nat → List (Nat × Frm) × Er
  | 0, _ => ([], .ok)
  | k + 1, i => if i < b.length then
      match (readN b i).2.2 with
      | .ok => ((i, (readN b i).1) :: (scan b k (readN b i).2.1).1, (scan b k (readN b i).2.1).2)
      | e => ([], e)
    else ([], .ok)
def scanInv (b : List UInt8) (p : List (Nat × Frm)) (k i : Nat) : Prop :=
  i ≤ b.length ∧ b.length - i ≤ k ∧ scan b b.length 0 = (p ++ (scan b k i).1, (scan b k i).2) ∧ p.length ≤ i
theorem scanInv_0 (b : List UInt8) : scanInv b [] b.length 0 := ⟨Nat.zero_le _, by omega, rfl, Nat.zero_le _⟩
theorem scanInv_step {b : List UInt8} {p : List (Nat × Frm)} {k i : Nat} (h : scanInv b p k i) (hi : i < b.length) (he : (readN b i).2.2 = .ok) : scanInv b (p ++ [(i, (readN b i).1)]) (k - 1) (readN b i).2.1 := by
  obtain ⟨h1, h2, h3, h4⟩ := h
  obtain ⟨n1, n2⟩ := readN_next he
  cases k with
  | zero => omega
  | succ k =>
    refine ⟨n2, by simp only [Nat.add_sub_cancel]; omega, ?_, by simp; omega⟩
    rw [h3, scan, if_pos hi, he]
    simp
theorem scanInv_err {b : List UInt8} {p : List (Nat × Frm)} {k i : Nat} (h : scanInv b p k i) (hi : i < b.length) (he : (readN b i).2.2 ≠ .ok) : scan b b.length 0 = (p, (readN b i).2.2) := by
  obtain ⟨h1, h2, h3, h4⟩ := h
  cases k with
  | zero => omega
  | succ k =>
    rw [h3, scan, if_pos hi]
    cases hq : (readN b i).2.2 with
    | ok => exact absurd hq he
    | code c => simp
    | flt c j => simp
theorem scanInv_end {b : List UInt8} {p : List (Nat × Frm)} {k i : Nat} (h : scanInv b p k i) (hi : ¬ i < b.length) : scan b b.length 0 = (p, .ok) := by
  obtain ⟨h1, h2, h3, h4⟩ := h
  rw [h3]
  cases k with
  | zero => simp [scan]
  | succ k => simp [scan, hi]
theorem scan_split {b : List UInt8} {p : List (Nat × Frm)} {k i : Nat} (h : scanInv b p k i) (hi : i < b.length) (he : (readN b i).2.2 = .ok) : ∃ r, (scan b b.length 0).1 = p ++ (i, (readN b i).1) :: r := by
  obtain ⟨h1, h2, h3, h4⟩ := h
  cases k with
  | zero => omega
  | succ k =>
    rw [h3, scan, if_pos hi, he]
    exact ⟨_, rfl⟩
@[push_cast] theorem frmsA_nil (b : Bool) : frmsA b [] = [] := rfl
theorem frmsA_snoc (b : Bool) (l : List Frm) (f : Frm) : frmsA b (l ++ [f]) = frmsA b l ++ [frmA b f] := by simp [frmsA]
def splitN (b : List UInt8) : List Frm × Er := if (scan b b.length 0).2 = .ok then ((scan b b.length 0).1.map (·.2), .ok) else ([], (scan b b.length 0).2)
theorem isOk_iff (e : Er) : e.isOk = true ↔ e = .ok := by cases e <;> simp [Er.isOk]
theorem split_c (b : List UInt8) (hl : b.length ≤ 2 ^ 40) : PC Tryz.prog 167 [.sl false 1 (bys b)] (.tup [.sl true 2 (frmsA true (splitN b).1), erA (splitN b).2]) := by
  refine PC.of_bodyK (by simp only [push_cast]) Tryz.func167 rfl (by rw [Tryz.ntmps167]; simp) ?_
  refine AWp.regionW ?_
  refine AWp.regionW ?_
  refine AWp.seqK fun K1 hK1 => ?_
  refine AWp.regionW ?_
  refine AWp.block ?_
  -- SLOTS THAT TURN AND ARE NOT TOLD: [4]
  refine AWp.nilOwn 4 219 2 (by simp only [push_cast, ↓reduceIte, Nat.reduceEqDiff, Nat.reduceLT, Nat.reduceAdd, Nat.reduceSub, Nat.reduceMul, Nat.reduceLeDiff, Nat.reducePow, Int.reduceLT, Int.reduceToNat, reduceCtorEq, Int.reduceNeg, Int.reduceEq, Nat.reduceBEq, Nat.reduceBNe, Int.reduceBEq, Int.reduceBNe, String.reduceEq]) ?_
  refine Go.Abs.evS2 ?_
  refine AWp.loopK [0, 4] (fun (g : List (Nat × Frm) × Nat × Nat) => [(5, nat g.2.2)]) (fun g => [.row 219 2 (frmsA true (g.1.map (·.2)))]) (fun g => scanInv b g.1 g.2.1 g.2.2) (fun g => b.length - g.2.2) (([], b.length, 0)) ?_ (scanInv_0 b) ?_
  · skip
    refine Le.m 1 ?_ ?_
    · exact Go.Abs.evM
    · exact Go.Abs.evN
  · intro g hg K2 hK2
    obtain ⟨p, k, i⟩ := g
    dsimp only at hg ⊢
    refine AWp.seqK fun K3 hK3 => ?_
    refine AWp.regionW ?_
    refine AWp.condLM (fun c0 => ?_) (fun c0 => ?_)
    · skip
      have hil : i < b.length := by simpa using c0
      refine AWp.skip ?_
      refine hK3 _ ?_
      refine AWp.block ?_
      refine AWp.regionM fun K4 hK4 => ?_
      refine ARun2.callM (read_c b i (by omega) hl) ?_
      refine ARun2.endm (hK4 _ ?_)
      refine AWp.seqK fun K5 hK5 => ?_
      refine AWp.regionW ?_
      refine AWp.condLM (fun c1 => ?_) (fun c1 => ?_)
      · skip
        have he : (readN b i).2.2 ≠ .ok := by intro h; rw [h] at c1; simp [Er.isOk] at c1
        have hr : splitN b = ([], (readN b i).2.2) := by unfold splitN; rw [scanInv_err hg hil he]; rw [if_neg he]
        refine AWp.regionW ?_
        refine AWp.ret ?_
        try simp only [thenQ, blockQ, noGo]
        refine bodyQ.m ?_
        clear hK5 K5 hK4 K4 hK3 K3 hK2 K2 hK1 K1
        rw [hr]
        first | done | exact Wk.go
      have he : (readN b i).2.2 = .ok := by rw [← isOk_iff]; simpa using c1
      have hst := scanInv_step hg hil he
      have hpl := hg.2.2.2
      refine AWp.skip ?_
      refine hK5 _ ?_
      refine AWp.regionM fun K6 hK6 => ?_
      refine ARun2.appendM ?_ ?_ ?_
      · rw [Facts.eb214, frmsA_len, List.length_map, List.length_cons, List.length_nil]; omega
      · rw [frmsA_len, List.length_map, List.length_cons, List.length_nil]; omega
      refine ARun2.endm (hK6 _ ?_)
      refine AWp.regionV ?_
      refine hK2 _ ((p ++ [(i, (readN b i).1)], k - 1, (readN b i).2.1)) (hst) (by have := readN_next he; show b.length - (readN b i).2.1 < b.length - i; omega) ?_
      refine Le.m 1 ?_ ?_
      · first | exact Go.Abs.evM | (refine Go.Abs.evS ?_; rw [List.map_append, List.map_cons, List.map_nil, frmsA_snoc]; rfl)
      · exact Go.Abs.evN
    have hil : ¬ i < b.length := by simpa using c0
    have hr : splitN b = (p.map (·.2), .ok) := by unfold splitN; rw [scanInv_end hg hil]; rw [if_pos rfl]
    refine AWp.exit ?_
    try simp only [thenQ, blockQ, noGo, reduceIte, Nat.reduceEqDiff]
    refine hK1 _ ?_
    refine AWp.pubD 0 ?_
    refine AWp.regionW ?_
    refine AWp.ret ?_
    try simp only [thenQ, blockQ, noGo]
    refine bodyQ.m ?_
    clear hK3 K3 hK2 K2 hK1 K1
    rw [hr]
    first | done | exact Wk.go
def ysOf (l : List (Nat × Frm)) : List (List AV) := l.map fun p => [nat p.1, frmA true p.2]
theorem all_iter (d : List UInt8) (hl : d.length ≤ 2 ^ 40) : IterC Tryz.prog 188 [.ref false (.agg [.sl false 1 (bys d)])] (ysOf (scan d d.length 0).1) := by
  refine IterC.of_body Tryz.func188 rfl (by rw [Tryz.ntmps188]; simp) fun lb => ?_
  refine AWp.scope ?_
  refine AWp.seq (AWp.label ?_)
  refine AWp.regionW ?_
  refine AWp.block ?_
  refine AWp.loopKT [0, 1] (fun (g : List (Nat × Frm) × Nat × Nat) => [(3, nat g.2.2)]) (fun g => []) (fun g => ysOf g.1) (fun g => scanInv d g.1 g.2.1 g.2.2) (fun g => d.length - g.2.2) (([], d.length, 0)) ?_ (scanInv_0 d) ?_
  · skip
    refine Le.m 0 ?_ ?_ ?_
    · exact Go.Abs.evM
    · exact Go.Abs.evN
    · exact ⟨rfl, rfl, rfl, rfl, rfl, rfl⟩
  · intro g hg K1 hK1
    obtain ⟨p, k, i⟩ := g
    dsimp only at hg ⊢
    refine AWp.seqK fun K2 hK2 => ?_
    refine AWp.regionW ?_
    refine AWp.condLM (fun c0 => ?_) (fun c0 => ?_)
    · skip
      have hil : i < d.length := by simpa using c0
      refine AWp.skip ?_
      refine hK2 _ ?_
      refine AWp.block ?_
      refine AWp.regionM fun K3 hK3 => ?_
      refine ARun2.callM (read_c d i (by omega) hl) ?_
      refine ARun2.endm (hK3 _ ?_)
      refine AWp.seqK fun K4 hK4 => ?_
      refine AWp.block ?_
      refine AWp.regionW ?_
      refine AWp.condLM (fun c1 => ?_) (fun c1 => ?_)
      · skip
        have he : (readN d i).2.2 ≠ .ok := by intro h; rw [h] at c1; simp [Er.isOk] at c1
        have hr := scanInv_err hg hil he
        refine AWp.exit ?_
        try simp only [thenQ, blockQ, noGo, reduceIte, Nat.reduceEqDiff]
        try simp only [noGo]
        try simp only [thenQ, blockQ, noGo]
        refine bodyQ.n ?_
        clear hK4 K4 hK3 K3 hK2 K2 hK1 K1
        exact ⟨fun _ => (by show ysOf p = _; rw [hr]), fun h => (by cases h)⟩
      have he : (readN d i).2.2 = .ok := by rw [← isOk_iff]; simpa using c1
      have hst := scanInv_step hg hil he
      obtain ⟨r, hsp⟩ := scan_split hg hil he
      have hsp2 : ysOf (scan d d.length 0).1 = ysOf p ++ [nat i, frmA true (readN d i).1] :: ysOf r := by rw [hsp]; simp [ysOf]
      refine AWp.regionM fun K5 hK5 => ?_
      refine ARun2.yieldM (ysOf r) (hsp2) fun b => ?_
      refine ARun2.endm (hK5 _ ?_)
      refine AWp.condLM (fun c2 => ?_) (fun c2 => ?_)
      · skip
        have hb : b = false := by simpa using c2
        subst hb
        refine AWp.exit ?_
        try simp only [thenQ, blockQ, noGo, reduceIte, Nat.reduceEqDiff]
        try simp only [noGo]
        try simp only [thenQ, blockQ, noGo]
        refine bodyQ.n ?_
        clear hK5 K5 hK4 K4 hK3 K3 hK2 K2 hK1 K1
        exact ⟨fun h => (by cases h), fun _ => ⟨ysOf r, hsp2.trans (by simp [AS.lit, frmA])⟩⟩
      have hb : b = true := by simpa using c2
      subst hb
      refine AWp.skip ?_
      refine hK4 _ ?_
      refine AWp.regionV ?_
      refine hK1 _ ((p ++ [(i, (readN d i).1)], k - 1, (readN d i).2.1)) (hst) (by have := readN_next he; show d.length - (readN d i).2.1 < d.length - i; omega) ?_
      refine Le.m 0 ?_ ?_ ?_
      · exact Go.Abs.evM
      · exact Go.Abs.evN
      · refine ⟨rfl, rfl, rfl, rfl, ?_, rfl⟩
        show ysOf (p ++ [(i, (readN d i).1)]) = ysOf p ++ [_]
        simp [ysOf, frmA]
    have hil : ¬ i < d.length := by simpa using c0
    have hr := scanInv_end hg hil
    refine AWp.exit ?_
    try simp only [thenQ, blockQ, noGo, reduceIte, Nat.reduceEqDiff]
    try simp only [noGo]
    try simp only [thenQ, blockQ, noGo]
    refine bodyQ.n ?_
    clear hK2 K2 hK1 K1
    exact ⟨fun _ => (by show ysOf p = _; rw [hr]), fun h => (by cases h)⟩
def chunkN (b : List UInt8) : GNode × Bool := rightN (.mk 6 b []) true
theorem take_step {α : Type} {l m : List α} {i : Nat} (hl : i < l.length) (hm : i < m.length) (h0 : l.take i = m.take i) (h : l[i] = m[i]) : l.take (i + 1) = m.take (i + 1) := by
  rw [List.take_succ_eq_append_getElem hl, List.take_succ_eq_append_getElem hm, h0, h]
theorem ne_at {α : Type} {l m : List α} {i : Nat} (hl : i < l.length) (hm : i < m.length) (h : l[i] ≠ m[i]) : l ≠ m := by
  rintro rfl; exact h rfl
theorem bys_at (l : List UInt8) (i : Nat) (h : i < l.length) : (bys l)[i]? = some (.val (.int .u8 (N l[i].toNat))) := by simp [bys, h]
theorem same01_c (l m : List UInt8) (hl : l.length ≤ 2 ^ 40) : PC Tryz.prog 38 [.sl false 1 (bys l), .sl false 1 (bys m)] (bool (decide (l = m))) := by
  refine PC.of_bodyW (by simp only [push_cast]) Tryz.func38 rfl (by rw [Tryz.ntmps38]; simp) ?_
  refine AWp.regionW ?_
  refine AWp.seqK fun K1 hK1 => ?_
  refine AWp.regionW ?_
  refine AWp.condLM (fun c0 => ?_) (fun c0 => ?_)
  · skip
    have hne : decide (l = m) = false := decide_eq_false (by rintro rfl; simp at c0)
    refine AWp.regionW ?_
    refine AWp.ret ?_
    try simp only [thenQ, blockQ, noGo]
    refine bodyQ.m ?_
    clear hK1 K1
    rw [hne]
    first | done | exact Hand.go
  have he : l.length = m.length := by simpa using c0
  refine AWp.skip ?_
  refine hK1 _ ?_
  refine AWp.seqK fun K2 hK2 => ?_
  refine AWp.regionW ?_
  refine AWp.block ?_
  refine AWp.loopK0 [0, 1] (fun (i : Nat) => [(5, nat i)]) (fun i => i ≤ l.length ∧ l.take i = m.take i) (fun i => l.length - i) (0) ?_ ⟨Nat.zero_le _, rfl⟩ ?_
  · skip
    refine Le.m 0 ?_ ?_
    · exact Go.Abs.evM
    · exact Go.Abs.evN
  · intro i hi K3 hK3
    refine AWp.seqK fun K4 hK4 => ?_
    refine AWp.regionW ?_
    refine AWp.condLM (fun c1 => ?_) (fun c1 => ?_)
    · skip
      have hil : i < l.length := by simpa using c1
      have hir : i < m.length := by omega
      refine AWp.skip ?_
      refine hK4 _ ?_
      refine AWp.seqK fun K5 hK5 => ?_
      refine AWp.block ?_
      refine AWp.drS [[(0, none)], [(5, none)], [(17, some 0), (18, some 1)], [(19, some 2)], [(1, none)], [(5, none)], [(21, some 4), (22, some 5)], [(23, some 6)], [(20, some 3), (24, some 7)]] fun G hG => ?_
      refine Dr.sim ?_
      try simp only [lca, lna]
      refine Dr.sim ?_
      try simp only [lca, lna]
      refine Dr.idx (i) (.val (.int .u8 (N l[i].toNat))) ?_ ?_
      · exact bys_at _ _ hil
      try simp only [lca, lna]
      refine Dr.sim ?_
      try simp only [lca, lna]
      refine Dr.sim ?_
      try simp only [lca, lna]
      refine Dr.sim ?_
      try simp only [lca, lna]
      refine Dr.idx (i) (.val (.int .u8 (N m[i].toNat))) ?_ ?_
      · exact bys_at _ _ hir
      try simp only [lca, lna]
      refine Dr.sim ?_
      try simp only [lca, lna]
      refine Dr.sim ?_
      try simp only [lca, lna]
      refine Dr.finM (n := 9) [(25, 8)] [0, 1, 5] hG Facts.mixed fun KD hKD => ?_
      refine ARun2.endm (hKD _ ?_); clear hKD KD hG G
      refine AWp.condLM (fun c2 => ?_) (fun c2 => ?_)
      · skip
        have hne : decide (l = m) = false := decide_eq_false (ne_at hil hir (by intro e; rw [e] at c2; simp at c2))
        refine AWp.regionW ?_
        refine AWp.ret ?_
        try simp only [thenQ, blockQ, noGo]
        refine bodyQ.m ?_
        clear hK5 K5 hK4 K4 hK3 K3 hK2 K2 hK1 K1
        rw [hne]
        first | done | exact Hand.go
      have hx : l[i] = m[i] := by apply UInt8.toNat_inj.1; simpa using c2
      refine AWp.skip ?_
      refine hK5 _ ?_
      refine AWp.regionV ?_
      refine hK3 _ (i + 1) (⟨by omega, take_step hil hir hi.2 hx⟩) (by omega) ?_
      refine Le.m 0 ?_ ?_
      · exact Go.Abs.evM
      · exact Go.Abs.evN
    have hil : i = l.length := by have := hi.1; simp at c1; omega
    have hq : decide (l = m) = true := decide_eq_true (by have := hi.2; rwa [hil, List.take_length, he, List.take_length] at this)
    refine AWp.exit ?_
    try simp only [thenQ, blockQ, noGo, reduceIte, Nat.reduceEqDiff]
    refine hK2 _ ?_
    refine AWp.regionW ?_
    refine AWp.ret ?_
    try simp only [thenQ, blockQ, noGo]
    refine bodyQ.m ?_
    clear hK4 K4 hK3 K3 hK2 K2 hK1 K1
    rw [hq]
    first | done | exact Hand.go
theorem same08_step (l r : List GNode) (hs : szs l ≤ 2 ^ 40) (ih : ∀ a ∈ l, ∀ b : GNode, PC Tryz.prog 22 [.sl false 3 (nodesA false a.kids), .sl false 3 (nodesA false b.kids)] (bool (sameL a.kids b.kids))) :
    PC Tryz.prog 22 [.sl false 3 (nodesA false l), .sl false 3 (nodesA false r)] (bool (sameL l r)) := by
  have hlen := szs_len l
  refine PC.of_bodyW (by simp only [push_cast]) Tryz.func22 rfl (by rw [Tryz.ntmps22]; simp) ?_
  refine AWp.regionW ?_
  refine AWp.seqK fun K1 hK1 => ?_
  refine AWp.regionW ?_
  refine AWp.condLM (fun c0 => ?_) (fun c0 => ?_)
  · skip
    have hne : l.length ≠ r.length := by simpa using c0
    refine AWp.regionW ?_
    refine AWp.ret ?_
    try simp only [thenQ, blockQ, noGo]
    refine bodyQ.m ?_
    clear hK1 K1
    rw [sameL_len hne]
    first | done | exact Hand.go
  have he : l.length = r.length := by simpa using c0
  refine AWp.skip ?_
  refine hK1 _ ?_
  refine AWp.seqK fun K2 hK2 => ?_
  refine AWp.regionW ?_
  refine AWp.block ?_
  refine AWp.loopK0 [0, 1] (fun (i : Nat) => [(5, nat i)]) (fun i => i ≤ l.length ∧ sameL (l.take i) (r.take i) = true) (fun i => l.length - i) (0) ?_ ⟨Nat.zero_le _, rfl⟩ ?_
  · skip
    refine Le.m 0 ?_ ?_
    · exact Go.Abs.evM
    · exact Go.Abs.evN
  · intro i hi K3 hK3
    refine AWp.seqK fun K4 hK4 => ?_
    refine AWp.regionW ?_
    refine AWp.condLM (fun c1 => ?_) (fun c1 => ?_)
    · skip
      have hil : i < l.length := by simpa using c1
      have hir : i < r.length := by omega
      have hm := List.getElem_mem hil
      have hsz := szs_mem hm
      have hse := GNode.sz_eq l[i]
      refine AWp.skip ?_
      refine hK4 _ ?_
      refine AWp.seqK fun K5 hK5 => ?_
      refine AWp.block ?_
      refine AWp.drS [[(0, none)], [(5, none)], [(17, some 0), (18, some 1)], [(19, some 2)], [(20, some 3)], [(1, none)], [(5, none)], [(22, some 5), (23, some 6)], [(24, some 7)], [(25, some 8)], [(21, some 4), (26, some 9)], [(27, some 10)], [(0, none), (28, some 11)], [(5, none), (28, some 11)], [(29, some 12), (30, some 13), (28, some 11)], [(31, some 14), (28, some 11)], [(32, some 15), (28, some 11)], [(1, none), (28, some 11)], [(5, none), (28, some 11)], [(34, some 17), (35, some 18), (28, some 11)], [(36, some 19), (28, some 11)], [(37, some 20), (28, some 11)], [(33, some 16), (38, some 21), (28, some 11)], [(39, some 22), (28, some 11)], [(28, some 11), (40, some 23)], [(41, some 24)], [(0, none), (42, some 25)], [(5, none), (42, some 25)], [(43, some 26), (44, some 27), (42, some 25)], [(45, some 28), (42, some 25)], [(46, some 29), (42, some 25)], [(1, none), (42, some 25)], [(5, none), (42, some 25)], [(48, some 31), (49, some 32), (42, some 25)], [(50, some 33), (42, some 25)], [(51, some 34), (42, some 25)], [(47, some 30), (52, some 35), (42, some 25)], [(53, some 36), (42, some 25)], [(42, some 25), (54, some 37)]] fun G hG => ?_
      refine Dr.sim ?_
      try simp only [lca, lna]
      refine Dr.sim ?_
      try simp only [lca, lna]
      refine Dr.idx (i) (nodeA false l[i]) ?_ ?_
      · exact nodesA_at _ _ _ hil
      try simp only [lca, lna]
      refine Dr.sim ?_
      try simp only [lca, lna]
      refine Dr.sim ?_
      try simp only [lca, lna]
      refine Dr.sim ?_
      try simp only [lca, lna]
      refine Dr.sim ?_
      try simp only [lca, lna]
      refine Dr.idx (i) (nodeA false r[i]) ?_ ?_
      · exact nodesA_at _ _ _ hir
      try simp only [lca, lna]
      refine Dr.sim ?_
      try simp only [lca, lna]
      refine Dr.sim ?_
      try simp only [lca, lna]
      refine Dr.sim ?_
      try simp only [lca, lna]
      refine Dr.sim ?_
      try simp only [lca, lna]
      refine Dr.simg ?_
      try simp only [lca, lna]
      refine Dr.simg ?_
      try simp only [lca, lna]
      refine Dr.idxg (i) (nodeA false l[i]) ?_ ?_
      · intro g11
        exact nodesA_at _ _ _ hil
      try simp only [lca, lna]
      refine Dr.simg ?_
      try simp only [lca, lna]
      refine Dr.simg ?_
      try simp only [lca, lna]
      refine Dr.simg ?_
      try simp only [lca, lna]
      refine Dr.simg ?_
      try simp only [lca, lna]
      refine Dr.idxg (i) (nodeA false r[i]) ?_ ?_
      · intro g11
        exact nodesA_at _ _ _ hir
      try simp only [lca, lna]
      refine Dr.simg ?_
      try simp only [lca, lna]
      refine Dr.simg ?_
      try simp only [lca, lna]
      refine Dr.callg (fun g11 => same01_c l[i].data r[i].data (by omega)) ?_
      try simp only [lca, lna]
      refine Dr.simg ?_
      try simp only [lca, lna]
      refine Dr.sim ?_
      try simp only [lca, lna]
      refine Dr.sim ?_
      try simp only [lca, lna]
      refine Dr.simg ?_
      try simp only [lca, lna]
      refine Dr.simg ?_
      try simp only [lca, lna]
      refine Dr.idxg (i) (nodeA false l[i]) ?_ ?_
      · intro g25
        exact nodesA_at _ _ _ hil
      try simp only [lca, lna]
      refine Dr.simg ?_
      try simp only [lca, lna]
      refine Dr.simg ?_
      try simp only [lca, lna]
      refine Dr.simg ?_
      try simp only [lca, lna]
      refine Dr.simg ?_
      try simp only [lca, lna]
      refine Dr.idxg (i) (nodeA false r[i]) ?_ ?_
      · intro g25
        exact nodesA_at _ _ _ hir
      try simp only [lca, lna]
      refine Dr.simg ?_
      try simp only [lca, lna]
      refine Dr.simg ?_
      try simp only [lca, lna]
      refine Dr.callg (fun g25 => ih l[i] hm r[i]) ?_
      try simp only [lca, lna]
      refine Dr.simg ?_
      try simp only [lca, lna]
      refine Dr.sim ?_
      try simp only [lca, lna]
      refine Dr.finM (n := 39) [(55, 38)] [0, 1, 5] hG Facts.mixed fun KD hKD => ?_
      refine ARun2.endm (hKD _ ?_); clear hKD KD hG G
      refine AWp.condLM (fun c2 => ?_) (fun c2 => ?_)
      · skip
        have h5 : sameN l[i] r[i] = false := by rw [sameN_eq]; revert c2; cases h1 : l[i].ty == r[i].ty <;> cases h2 : decide (l[i].data = r[i].data) <;> cases h3 : sameL l[i].kids r[i].kids <;> simp_all
        refine AWp.regionW ?_
        refine AWp.ret ?_
        try simp only [thenQ, blockQ, noGo]
        refine bodyQ.m ?_
        clear hK5 K5 hK4 K4 hK3 K3 hK2 K2 hK1 K1
        rw [sameL_at hil hir h5]
        first | done | exact Hand.go
      have h5 : sameN l[i] r[i] = true := by rw [sameN_eq]; revert c2; cases h1 : l[i].ty == r[i].ty <;> cases h2 : decide (l[i].data = r[i].data) <;> cases h3 : sameL l[i].kids r[i].kids <;> simp_all
      refine AWp.skip ?_
      refine hK5 _ ?_
      refine AWp.regionV ?_
      refine hK3 _ (i + 1) (⟨by omega, sameL_take hil hir hi.2 h5⟩) (by omega) ?_
      refine Le.m 0 ?_ ?_
      · exact Go.Abs.evM
      · exact Go.Abs.evN
    have hil : i = l.length := by have := hi.1; simp at c1; omega
    have hs : sameL l r = true := by have := hi.2; rwa [hil, List.take_length, he, List.take_length] at this
    refine AWp.exit ?_
    try simp only [thenQ, blockQ, noGo, reduceIte, Nat.reduceEqDiff]
    refine hK2 _ ?_
    refine AWp.regionW ?_
    refine AWp.ret ?_
    try simp only [thenQ, blockQ, noGo]
    refine bodyQ.m ?_
    clear hK4 K4 hK3 K3 hK2 K2 hK1 K1
    rw [hs]
    first | done | exact Hand.go
theorem same08_w : ∀ (w : Nat) (l r : List GNode), szs l ≤ w → szs l ≤ 2 ^ 40 → PC Tryz.prog 22 [.sl false 3 (nodesA false l), .sl false 3 (nodesA false r)] (bool (sameL l r)) := by
  have kl : ∀ (a : GNode) (l : List GNode), a ∈ l → szs a.kids < szs l := by
    intro a l ha
    have := szs_mem ha; rw [GNode.sz_eq] at this; omega
  intro w
  induction w with
  | zero => exact fun l r hw hs => same08_step l r hs (fun a ha b => by have := kl a l ha; omega)
  | succ w ih => exact fun l r hw hs => same08_step l r hs (fun a ha b => by have := kl a l ha; exact ih _ _ (by omega) (by omega))
theorem same08_c (l r : List GNode) (hs : szs l ≤ 2 ^ 40) : PC Tryz.prog 22 [.sl false 3 (nodesA false l), .sl false 3 (nodesA false r)] (bool (sameL l r)) := same08_w _ l r (Nat.le_refl _) hs
def twoB (t : Nat) : List UInt8 := [UInt8.ofNat (t / 256), UInt8.ofNat t]
theorem bits8 (a : UInt8) : BitVec.ofInt IntKind.u8.bits (N a.toNat) = a.toBitVec := by
  apply BitVec.eq_of_toNat_eq
  rw [BitVec.toNat_ofInt]
  have := a.toNat_lt
  show (N a.toNat % 2 ^ 8).toNat = a.toNat
  unfold N; omega
theorem or_zero (a b : UInt8) : (bitsV .or .u8 (N a.toNat) (N b.toNat) != 0) = (a.toNat * 256 + b.toNat != 0) := by
  have ha := a.toNat_lt
  have hb := b.toNat_lt
  have h1 : bitsV .or .u8 (N a.toNat) (N b.toNat) = N (a.toBitVec ||| b.toBitVec).toNat := by
    have hlt : (a.toBitVec ||| b.toBitVec).toNat < 256 := (a.toBitVec ||| b.toBitVec).isLt
    have e : (BitVec.ofInt IntKind.u8.bits (N a.toNat) ||| BitVec.ofInt IntKind.u8.bits (N b.toNat)).toNat = (a.toBitVec ||| b.toBitVec).toNat := by rw [bits8, bits8]; rfl
    show IntKind.u8.wrap ((BitVec.ofInt IntKind.u8.bits (N a.toNat) ||| BitVec.ofInt IntKind.u8.bits (N b.toNat)).toNat : Int) = _
    rw [e]
    generalize (a.toBitVec ||| b.toBitVec).toNat = z at hlt ⊢
    rw [IntKind.wrap_u8]
    unfold N; omega
  rw [h1, Bool.eq_iff_iff, bne_iff_ne, bne_iff_ne, Decidable.not_iff_not]
  have e1 : a.toBitVec.toNat = a.toNat := rfl
  have e2 : b.toBitVec.toNat = b.toNat := rfl
  constructor
  · intro h
    have h0 : (a.toBitVec ||| b.toBitVec).toNat = 0 := by unfold N at h; omega
    have h2 : a.toBitVec ||| b.toBitVec = 0#8 := BitVec.eq_of_toNat_eq (by rw [h0]; rfl)
    obtain ⟨h3, h4⟩ := BitVec.or_eq_zero_iff.1 h2
    have := congrArg BitVec.toNat h3
    have := congrArg BitVec.toNat h4
    simp at *
    omega
  · intro h
    have h3 : a.toBitVec = 0#8 := BitVec.eq_of_toNat_eq (by show a.toNat = 0; omega)
    have h4 : b.toBitVec = 0#8 := BitVec.eq_of_toNat_eq (by show b.toNat = 0; omega)
    rw [h3, h4]; rfl
theorem peek_bytes (d : List UInt8) (i : Nat) (h : i + 2 ≤ d.length) : peekN 2 d i = (d[i]'(by omega)).toNat * 256 + (d[i + 1]'(by omega)).toNat := by
  have hd : (d.drop i).take 2 = [d[i]'(by omega), d[i + 1]'(by omega)] := by
    rw [List.drop_eq_getElem_cons (by omega), List.drop_eq_getElem_cons (by omega)]; rfl
  unfold peekN
  rw [if_pos h, hd]
  simp [beN]
theorem cvalue_c (c : GChunk) (k : KForm) (hd : c.data.length ≤ 2 ^ 40) (h64 : c.ty = 64 → 17 ≤ c.data.length) (h194 : c.ty = 194 → 4 ≤ c.data.length ∧ (c.data.length - 4) % 8 = 0) :
    PC Tryz.prog 104 [chunkA false c, kformA k] (erA (valueE c)) := by
  refine PC.of_bodyW (by simp only [push_cast]) Tryz.func104 rfl (by rw [Tryz.ntmps104]; simp) ?_
  refine AWp.regionW ?_
  refine AWp.regionW ?_
  refine AWp.seqK fun K1 hK1 => ?_
  refine AWp.regionW ?_
  refine AWp.block ?_
  refine AWp.regionW ?_
  refine AWp.condLM (fun c0 => ?_) (fun c0 => ?_)
  · skip
    have h3 : c.ty = 64 := by simpa using c0
    have hl := h64 h3
    have hor := or_zero (c.data[6]'(by omega)) (c.data[7]'(by omega))
    rw [← peek_bytes c.data 6 (by omega)] at hor
    refine AWp.drS [[(2, none)], [(11, some 0)], [(12, some 1)], [(13, some 2)], [(2, none)], [(15, some 4)], [(16, some 5)], [(17, some 6)], [(14, some 3), (18, some 7)], [(19, some 8)]] fun G hG => ?_
    refine Dr.sim ?_
    try simp only [lca, lna]
    refine Dr.sim ?_
    try simp only [lca, lna]
    refine Dr.idx (6) (.val (.int .u8 (N (c.data[6]'(by omega)).toNat))) ?_ ?_
    · exact bys_at _ _ (by omega)
    try simp only [lca, lna]
    refine Dr.sim ?_
    try simp only [lca, lna]
    refine Dr.sim ?_
    try simp only [lca, lna]
    refine Dr.sim ?_
    try simp only [lca, lna]
    refine Dr.idx (7) (.val (.int .u8 (N (c.data[7]'(by omega)).toNat))) ?_ ?_
    · exact bys_at _ _ (by omega)
    try simp only [lca, lna]
    refine Dr.sim ?_
    try simp only [lca, lna]
    refine Dr.sim ?_
    try simp only [lca, lna]
    refine Dr.sim ?_
    try simp only [lca, lna]
    refine Dr.finM (n := 10) [(20, 9)] [5] hG Facts.mixed fun KD hKD => ?_
    refine ARun2.endm (hKD _ ?_); clear hKD KD hG G
    refine AWp.condLM (fun c1 => ?_) (fun c1 => ?_)
    · skip
      rw [hor] at c1
      have h : valueE c = .flt 11 10 := by unfold valueE oddN; rw [if_pos h3, if_pos (by simpa using c1)]
      refine AWp.regionV ?_
      refine hK1 _ ?_
      refine AWp.seqK fun K2 hK2 => ?_
      refine AWp.regionW ?_
      refine AWp.condF ?_
      refine AWp.skip ?_
      refine hK2 _ ?_
      refine AWp.regionM fun K3 hK3 => ?_
      refine ARun2.callM (fnew_c 11 10) ?_
      refine ARun2.endm (hK3 _ ?_)
      refine AWp.ret ?_
      try simp only [thenQ, blockQ, noGo]
      refine bodyQ.m ?_
      clear hK3 K3 hK2 K2 hK1 K1
      rw [h]
      first | done | exact Hand.go
    rw [hor] at c1
    have h : valueE c = .ok := by unfold valueE oddN; rw [if_pos h3, if_neg (by simpa using c1)]
    refine AWp.skip ?_
    refine hK1 _ ?_
    refine AWp.seqK fun K4 hK4 => ?_
    refine AWp.regionW ?_
    refine AWp.condT ?_
    refine AWp.regionW ?_
    refine AWp.ret ?_
    try simp only [thenQ, blockQ, noGo]
    refine bodyQ.m ?_
    clear hK4 K4 hK1 K1
    rw [h]
    first | done | exact Hand.go
  have h3 : ¬ c.ty = 64 := by simpa using c0
  refine AWp.regionW ?_
  refine AWp.condLM (fun c2 => ?_) (fun c2 => ?_)
  · skip
    have h4 : c.ty = 194 := by simpa using c2
    obtain ⟨l1, l2⟩ := h194 h4
    have hv : oddN c = oddAt c.data c.data.length 4 := by unfold oddN; rw [if_neg h3, if_pos h4]
    refine AWp.scope ?_
    refine AWp.seq (AWp.label ?_)
    refine AWp.regionW ?_
    refine AWp.block ?_
    -- SLOTS THAT TURN AND ARE NOT TOLD: [5]
    refine AWp.loopK0 [2, 5] (fun (g : Nat × Nat) => [(6, nat g.2)]) (fun g => oddAt c.data c.data.length 4 = oddAt c.data g.1 g.2 ∧ g.2 ≤ c.data.length ∧ (c.data.length - g.2) % 8 = 0 ∧ c.data.length - g.2 ≤ g.1) (fun g => c.data.length - g.2) ((c.data.length, 4)) ?_ ⟨rfl, l1, l2, Nat.sub_le _ _⟩ ?_
    · skip
      refine Le.m 2 ?_ ?_
      · exact Go.Abs.evM
      · exact Go.Abs.evN
    · intro g hg K5 hK5
      obtain ⟨q, i⟩ := g
      dsimp only at hg ⊢
      obtain ⟨hg1, hg2, hg3, hg4⟩ := hg
      refine AWp.seqK fun K6 hK6 => ?_
      refine AWp.regionW ?_
      refine AWp.condLM (fun c3 => ?_) (fun c3 => ?_)
      · skip
        have hil : i < c.data.length := by simpa using c3
        obtain ⟨q, rfl⟩ : ∃ q', q = q' + 1 := ⟨q - 1, by omega⟩
        rw [oddAt, if_pos hil] at hg1
        have e2 : ((c.data.take (i + 4)).drop (i + 2)).length = 2 := by rw [List.length_drop, List.length_take]; omega
        have pc : peekN 2 ((c.data.take (i + 4)).drop (i + 2)) 0 = peekN 2 c.data (i + 2) := peek_cut c.data (i + 2) 0 2 (by omega) (by omega)
        have hns := numbers_n 2 ((c.data.take (i + 4)).drop (i + 2)) (by omega) (by omega) (by rw [e2])
        rw [nums_1a _ e2, pc] at hns
        refine AWp.skip ?_
        refine hK6 _ ?_
        refine AWp.seqK fun K7 hK7 => ?_
        refine AWp.block ?_
        refine AWp.regionM fun K8 hK8 => ?_
        refine ARun2.sliceM (i + 2) (i + 4) ?_ ?_ ?_
        · omega
        · rw [bys_len]; omega
        refine ARun2.callM (hns) ?_
        refine ARun2.indexM (0) (u32 (peekN 2 c.data (i + 2))) ?_ ?_
        · rfl
        refine ARun2.endm (hK8 _ ?_)
        refine AWp.condLM (fun c4 => ?_) (fun c4 => ?_)
        · skip
          have hp : 1 < peekN 2 c.data (i + 2) := by simpa using c4
          rw [if_pos hp] at hg1
          have h : valueE c = .flt 11 (4 + (i + 2)) := by unfold valueE; rw [hv, hg1]
          refine AWp.regionW ?_
          refine AWp.exit ?_
          try simp only [thenQ, blockQ, noGo, reduceIte, Nat.reduceEqDiff]
          try simp only [noGo]
          refine hK1 _ ?_
          refine AWp.seqK fun K9 hK9 => ?_
          refine AWp.regionW ?_
          refine AWp.condF ?_ (by simp only [push_cast, ↓reduceIte, Nat.reduceEqDiff, Nat.reduceLT, Nat.reduceAdd, Nat.reduceSub, Nat.reduceMul, Nat.reduceLeDiff, Nat.reducePow, Int.reduceLT, Int.reduceToNat, reduceCtorEq, Int.reduceNeg, Int.reduceEq, Nat.reduceBEq, Nat.reduceBNe, Int.reduceBEq, Int.reduceBNe, String.reduceEq])
          refine AWp.skip ?_
          refine hK9 _ ?_
          refine AWp.regionM fun K10 hK10 => ?_
          refine ARun2.callM (fnew_c 11 (4 + (i + 2))) ?_
          refine ARun2.endm (hK10 _ ?_)
          refine AWp.ret ?_
          try simp only [thenQ, blockQ, noGo]
          refine bodyQ.m ?_
          clear hK10 K10 hK9 K9 hK8 K8 hK7 K7 hK6 K6 hK5 K5 hK1 K1
          rw [h]
          first | done | exact Hand.go
        have hp : ¬ 1 < peekN 2 c.data (i + 2) := by simpa using c4
        rw [if_neg hp] at hg1
        refine AWp.skip ?_
        refine hK7 _ ?_
        refine AWp.regionV ?_
        refine hK5 _ ((q, i + 8)) (⟨hg1, by show i + 8 ≤ _; omega, by show (c.data.length - (i + 8)) % 8 = 0; omega, by show c.data.length - (i + 8) ≤ q; omega⟩) (by show c.data.length - (i + 8) < c.data.length - i; omega) ?_
        refine Le.m 2 ?_ ?_
        · exact Go.Abs.evM
        · exact Go.Abs.evN
      have hil : ¬ i < c.data.length := by simpa using c3
      have h : valueE c = .ok := by
        unfold valueE; rw [hv, hg1]
        cases q with
        | zero => rfl
        | succ q => rw [oddAt, if_neg hil]
      refine AWp.exit ?_
      try simp only [thenQ, blockQ, noGo, reduceIte, Nat.reduceEqDiff]
      try simp only [noGo]
      refine hK1 _ ?_
      refine AWp.seqK fun K11 hK11 => ?_
      refine AWp.regionW ?_
      refine AWp.condT ?_
      refine AWp.regionW ?_
      refine AWp.ret ?_
      try simp only [thenQ, blockQ, noGo]
      refine bodyQ.m ?_
      clear hK11 K11 hK6 K6 hK5 K5 hK1 K1
      rw [h]
      first | done | exact Hand.go
  have h4 : ¬ c.ty = 194 := by simpa using c2
  have h : valueE c = .ok := by unfold valueE oddN; rw [if_neg h3, if_neg h4]
  refine AWp.skip ?_
  refine hK1 _ ?_
  refine AWp.seqK fun K12 hK12 => ?_
  refine AWp.regionW ?_
  refine AWp.condT ?_
  refine AWp.regionW ?_
  refine AWp.ret ?_
  try simp only [thenQ, blockQ, noGo]
  refine bodyQ.m ?_
  clear hK12 K12 hK1 K1
  rw [h]
  first | done | exact Hand.go
def fnsA (l : List FuncId) : List AV := l.map fun f => .fn (.func f) [] []
@[push_cast] theorem fnsA_len (l : List FuncId) : (fnsA l).length = l.length := by simp [fnsA]
theorem fnsA_at (l : List FuncId) (i : Nat) (h : i < l.length) : (fnsA l)[i]? = some (.fn (.func (l.getD i 0)) [] []) := by simp [fnsA, h]
@[push_cast] theorem fnsA_cons (f : FuncId) (l : List FuncId) : fnsA (f :: l) = .fn (.func f) [] [] :: fnsA l := rfl
@[push_cast] theorem fnsA_nil : fnsA [] = [] := rfl
@[push_cast] theorem fnsA_ids (p : Nat → Bool) (l : List FuncId) : AV.idsOkL p (fnsA l) = true := by
  rw [AV.idsOkL_iff]; intro x hx; simp only [fnsA, List.mem_map] at hx; obtain ⟨f, _, rfl⟩ := hx; rfl
@[push_cast] theorem fnsA_hand (ids : List Nat) (l : List FuncId) : AV.handL ids (fnsA l) = fnsA l := by
  rw [AV.handL_map, fnsA, List.map_map]; rfl
set_option maxRecDepth 100000 in
theorem cfirst_c (c : GChunk) (k : KForm) (fs : List FuncId) (ers : List Er) (hle : fs.length = ers.length) (hl : fs.length ≤ 2 ^ 40) (hc : ∀ i, i < fs.length → callable Tryz.prog (fs.getD i 0) = true)
    (h : ∀ i, i < fs.length → (∀ j, j < i → ers.getD j .ok = .ok) → PC Tryz.prog (fs.getD i 0) [chunkA false c, kformA k] (erA (ers.getD i .ok))) : PC Tryz.prog 100 [chunkA false c, kformA k, .sl false 1 (fnsA fs)] (erA (firstE ers)) := by
  refine PC.of_bodyW (by simp only [push_cast]) Tryz.func100 rfl (by rw [Tryz.ntmps100]; simp) ?_
  refine AWp.regionW ?_
  refine AWp.seqK fun K1 hK1 => ?_
  refine AWp.regionW ?_
  refine AWp.block ?_
  refine AWp.loopK0 [3, 4, 10, 11] (fun (i : Nat) => [(12, nat i)]) (fun i => i ≤ fs.length ∧ ∀ j, j < i → ers.getD j .ok = .ok) (fun i => fs.length - i) (0) ?_ ⟨Nat.zero_le _, fun j hj => by omega⟩ ?_
  · skip
    refine Le.m 2 ?_ ?_
    · exact Go.Abs.evM
    · exact Go.Abs.evN
  · intro i hi K2 hK2
    refine AWp.regionW ?_
    refine AWp.seqK fun K3 hK3 => ?_
    refine AWp.condLM (fun c0 => ?_) (fun c0 => ?_)
    · skip
      have hil : i < fs.length := by simpa using c0
      have hci := hc i hil
      have hpi := h i hil hi.2
      obtain ⟨f, hf⟩ : ∃ f, fs.getD i 0 = f := ⟨_, rfl⟩
      rw [hf] at hci hpi
      refine AWp.skip ?_
      refine hK3 _ ?_
      refine AWp.seqK fun K4 hK4 => ?_
      refine AWp.block ?_
      refine AWp.regionM fun K5 hK5 => ?_
      refine ARun2.indexM (i) (.fn (.func f) [] []) ?_ ?_
      · rw [← hf]; exact fnsA_at _ _ hil
      refine ARun2.endm (hK5 _ ?_)
      refine AWp.regionM fun K6 hK6 => ?_
      refine ARun2.callVM (hpi) ?_
      refine ARun2.endm (hK6 _ ?_)
      refine AWp.regionW ?_
      refine AWp.condLM (fun c1 => ?_) (fun c1 => ?_)
      · skip
        have he : ers.getD i .ok ≠ .ok := by intro h; rw [h] at c1; cases c1
        have hr := firstE_take ers i (by omega) hi.2 he
        refine AWp.regionW ?_
        refine AWp.ret ?_
        try simp only [thenQ, blockQ, noGo]
        refine bodyQ.m ?_
        clear hK6 K6 hK5 K5 hK4 K4 hK3 K3 hK2 K2 hK1 K1
        rw [hr]
        first | done | exact Hand.go
      have he : ers.getD i .ok = .ok := by rw [← isOk_iff]; simpa using c1
      refine AWp.skip ?_
      refine hK4 _ ?_
      refine AWp.regionV ?_
      refine hK2 _ (i + 1) (⟨hil, fun j hj => (Nat.lt_or_ge j i).elim (hi.2 j) (fun h => (show i = j by omega) ▸ he)⟩) (by omega) ?_
      refine Le.m 2 ?_ ?_
      · exact Go.Abs.evM
      · exact Go.Abs.evN
    have hil : i = fs.length := by have := hi.1; simp at c0; omega
    have hr := firstE_ok ers fun j hj => hi.2 j (by omega)
    refine AWp.exit ?_
    try simp only [thenQ, blockQ, noGo, reduceIte, Nat.reduceEqDiff]
    refine hK1 _ ?_
    refine AWp.regionW ?_
    refine AWp.ret ?_
    try simp only [thenQ, blockQ, noGo]
    refine bodyQ.m ?_
    clear hK3 K3 hK2 K2 hK1 K1
    rw [hr]
    first | done | exact Hand.go
theorem csize_c (c : GChunk) (hd : c.data.length ≤ 2 ^ 40) (hs : nSize c.kids ≤ 2 ^ 30) : PC Tryz.prog 84 [chunkA false c] (nat (4 + c.data.length + nSize c.kids)) := by
  refine PC.of_bodyW (by simp only [push_cast]) Tryz.func84 rfl (by rw [Tryz.ntmps84]; simp) ?_
  refine AWp.regionW ?_
  refine AWp.drS [[(1, none)], [(3, some 0)], [(4, some 1)], [(5, some 2)], [(1, none)], [(7, some 4)], [(8, some 5)], [(6, some 3), (9, some 6)], [(10, some 7)]] fun G hG => ?_
  refine Dr.sim ?_
  try simp only [lca, lna]
  refine Dr.sim ?_
  try simp only [lca, lna]
  refine Dr.sim ?_
  try simp only [lca, lna]
  refine Dr.sim ?_
  try simp only [lca, lna]
  refine Dr.sim ?_
  try simp only [lca, lna]
  refine Dr.sim ?_
  try simp only [lca, lna]
  refine Dr.call (size_c c.kids hs) ?_
  try simp only [lca, lna]
  refine Dr.sim ?_
  try simp only [lca, lna]
  refine Dr.sim ?_
  try simp only [lca, lna]
  refine Dr.finM (n := 9) [(2, 8)] [] hG Facts.mixed fun KD hKD => ?_
  refine ARun2.endm (hKD _ ?_); clear hKD KD hG G
  refine AWp.ret ?_
  try simp only [thenQ, blockQ, noGo]
  refine bodyQ.m ?_
  first | done | exact Hand.go
theorem putB2 (x : Nat) : putB 2 x = twoB x := by
  simp [putB, twoB, List.range_succ]
theorem gap03_c (n : Nat) (h : n < 2 ^ 60) : PC Tryz.prog 57 [nat n] (nat (gapN n)) := by
  refine PC.of_bodyW (by simp only [push_cast]) Tryz.func57 rfl (by rw [Tryz.ntmps57]; simp) ?_
  refine AWp.regionW ?_
  refine AWp.regionW ?_
  refine AWp.seqK fun K1 hK1 => ?_
  refine AWp.block ?_
  refine AWp.loopK0 [0] (fun (i : Nat) => [(3, nat i)]) (fun i => i ≤ gapN n ∧ i ≤ 3) (fun i => gapN n - i) (0) ?_ ⟨Nat.zero_le _, by omega⟩ ?_
  · skip
    refine Le.m 0 ?_ ?_
    · exact Go.Abs.evM
    · exact Go.Abs.evN
  · intro i hi K2 hK2
    refine AWp.seqK fun K3 hK3 => ?_
    refine AWp.regionW ?_
    refine AWp.condLM (fun c0 => ?_) (fun c0 => ?_)
    · skip
      have h0 : i < gapN n := by have := hi.1; simp at c0; unfold gapN at *; omega
      refine AWp.skip ?_
      refine hK3 _ ?_
      refine AWp.block ?_
      refine AWp.regionV ?_
      refine hK2 _ (i + 1) (⟨h0, by have := gapN_le n; omega⟩) (by omega) ?_
      refine Le.m 0 ?_ ?_
      · exact Go.Abs.evM
      · exact Go.Abs.evN
    have h0 : i = gapN n := by have := hi.1; simp at c0; unfold gapN at *; omega
    refine AWp.exit ?_
    try simp only [thenQ, blockQ, noGo, reduceIte, Nat.reduceEqDiff]
    refine hK1 _ ?_
    refine AWp.regionW ?_
    refine AWp.ret ?_
    try simp only [thenQ, blockQ, noGo]
    refine bodyQ.m ?_
    clear hK3 K3 hK2 K2 hK1 K1
    rw [h0]
    first | done | exact Hand.go
theorem right01_c (k : Nat) : PC Tryz.prog 171 [nat k] (bool (k == 1 || k == 2 || k == 4)) := by
  refine PC.of_bodyW (by simp only [push_cast]) Tryz.func171 rfl (by rw [Tryz.ntmps171]; simp) ?_
  refine AWp.regionW ?_
  refine AWp.regionA fun K1 hK1 => ?_
  refine ARun.segm 3 fun KS hKS => ?_
  refine ARun2.endm (hKS _ ?_); clear hKS KS
  apply ARun.grpM 2 2 false 7 [0, 5]
  · intro g2 KG hKG
    refine ARun2.gom ?_
    exact ARun2.endm (hKG _ Le.grpM)
  refine ARun.segm 2 fun KS hKS => ?_
  refine ARun2.endm (hKS _ ?_); clear hKS KS
  apply ARun.grpM 2 6 false 11 [9]
  · intro g6 KG hKG
    refine ARun2.gom ?_
    exact ARun2.endm (hKG _ Le.grpM)
  refine ARun2.gom ?_
  refine ARun2.endm (hK1 _ ?_)
  refine AWp.ret ?_
  try simp only [thenQ, blockQ, noGo]
  refine bodyQ.m ?_
  clear hK1 K1
  simp only [Bool.or_assoc]
  first | done | exact Hand.go
theorem mul8 {x : Nat} {b : UInt8} (h : x < 2 ^ 24) : IntKind.u32.wrap (IntKind.u32.wrap (N x * 256) + N b.toNat) = N (x * 256 + b.toNat) := by
  have := b.toNat_lt
  rw [IntKind.wrap_u32, IntKind.wrap_u32]; unfold N; omega
theorem number01_c (k : Nat) (l : List UInt8) (i : Nat) (hk : k = 1 ∨ k = 2 ∨ k = 4) (hl : l.length ≤ 2 ^ 40) (hi : i ≤ 2 ^ 40) :
    PC Tryz.prog 146 [.sl false 1 (bys l), nat i, nat k] (.tup [u32 (peekN k l i), bool (decide (i + k ≤ l.length))]) := by
  have hr : (k == 1 || k == 2 || k == 4) = true := by rcases hk with rfl | rfl | rfl <;> rfl
  refine PC.of_bodyW (by simp only [push_cast]) Tryz.func146 rfl (by rw [Tryz.ntmps146]; simp) ?_
  refine AWp.regionW ?_
  refine AWp.seqK fun K1 hK1 => ?_
  refine AWp.regionM fun K2 hK2 => ?_
  refine ARun2.callM (hr ▸ right01_c k) ?_
  refine ARun2.endm (hK2 _ ?_)
  refine AWp.condLM (fun c0 => ?_) (fun c0 => ?_)
  · skip
    have h0 : ¬ i + k ≤ l.length := by simpa using c0
    have e : peekN k l i = 0 := if_neg h0
    have e2 : decide (i + k ≤ l.length) = false := decide_eq_false h0
    refine AWp.regionW ?_
    refine AWp.ret ?_
    try simp only [thenQ, blockQ, noGo]
    refine bodyQ.m ?_
    clear hK2 K2 hK1 K1
    rw [e, e2]
    first | done | exact Hand.go
  have h0 : i + k ≤ l.length := by simpa using c0
  have e : peekN k l i = beN ((l.drop i).take k) := if_pos h0
  have e2 : decide (i + k ≤ l.length) = true := decide_eq_true h0
  refine AWp.skip ?_
  refine hK1 _ ?_
  refine AWp.regionW ?_
  refine AWp.seqK fun K3 hK3 => ?_
  refine AWp.regionW ?_
  refine AWp.block ?_
  refine AWp.loopK0 [0, 1, 2] (fun (j : Nat) => [(9, nat j), (8, u32 (beN ((l.drop i).take j)))]) (fun j => j ≤ k) (fun j => k - j) (0) ?_ (Nat.zero_le _) ?_
  · skip
    refine Le.m 0 ?_ ?_
    · exact Go.Abs.evM
    · exact Go.Abs.evN
  · intro j hj K4 hK4
    refine AWp.seqK fun K5 hK5 => ?_
    refine AWp.regionW ?_
    refine AWp.condLM (fun c1 => ?_) (fun c1 => ?_)
    · skip
      have hjk : j < k := by simpa using c1
      have hlt : i + j < l.length := by omega
      have hjd : j < (l.drop i).length := by rw [List.length_drop]; omega
      have hx : beN ((l.drop i).take j) < 2 ^ 24 := Nat.lt_of_lt_of_le (beN_lt2 _ 3 (Nat.le_trans (List.length_take_le _ _) (by omega))) (by decide)
      have hs : beN ((l.drop i).take (j + 1)) = beN ((l.drop i).take j) * 256 + l[i + j].toNat := by
        rw [List.take_succ_eq_append_getElem hjd, beN_snoc, List.getElem_drop]
      refine AWp.skip ?_
      refine hK5 _ ?_
      refine AWp.seqK fun K6 hK6 => ?_
      refine AWp.block ?_
      refine AWp.regionN fun K7 hK7 => ?_
      refine ARun2.indexM (i + j) (.val (.int .u8 (N l[i + j].toNat))) ?_ ?_
      · exact bys_at _ _ hlt
      refine ARun2.endm (hK7 _ ?_)
      refine hK6 _ ?_
      refine AWp.regionV ?_
      refine hK4 _ (j + 1) (by omega) (by omega) ?_
      refine Le.m 0 ?_ ?_
      · exact Go.Abs.evM
      · simp only [push_cast, ↓reduceIte, Nat.reduceEqDiff, Nat.reduceLT, Nat.reduceAdd, Nat.reduceSub, Nat.reduceMul, Nat.reduceLeDiff, Nat.reducePow, Int.reduceLT, Int.reduceToNat, reduceCtorEq, Int.reduceNeg, Int.reduceEq, Nat.reduceBEq, Nat.reduceBNe, Int.reduceBEq, Int.reduceBNe, String.reduceEq]
        try simp (disch := omega) only [w_nat, w_add, w_addl, w_addr, w_sub, w_subl, w_mul, w_mull, w_mulr, w_u32, w_u16, w_u8, w_u32a, N_zero]
        rw [mul8 hx, hs]
    have hjk : j = k := by simp at c1; omega
    subst hjk
    refine AWp.exit ?_
    try simp only [thenQ, blockQ, noGo, reduceIte, Nat.reduceEqDiff]
    refine hK3 _ ?_
    refine AWp.regionW ?_
    refine AWp.ret ?_
    try simp only [thenQ, blockQ, noGo]
    refine bodyQ.m ?_
    clear hK5 K5 hK4 K4 hK3 K3 hK2 K2 hK1 K1
    rw [e, e2]
    first | done | exact Hand.go
def countedR (d : List UInt8) : Bool := decide (4 ≤ d.length ∧ 2 * peekN 4 d 0 = d.length - 4)
theorem counted08_c (d : List UInt8) (hl : d.length ≤ 2 ^ 40) : PC Tryz.prog 111 [.sl false 1 (bys d)] (bool (countedR d)) := by
  have hp := peekN_lt 4 d 0 (by omega)
  have hc : (N (2 * peekN 4 d 0) == IntKind.i64.wrap (N d.length - 4)) = countedR d := by
    unfold countedR
    rw [IntKind.wrap_i64, Bool.eq_iff_iff, beq_iff_eq, decide_eq_true_iff]
    unfold N; omega
  refine PC.of_bodyW (by simp only [push_cast]) Tryz.func111 rfl (by rw [Tryz.ntmps111]; simp) ?_
  refine AWp.regionW ?_
  refine AWp.regionM fun K1 hK1 => ?_
  refine ARun2.callM (number01_c 4 d 0 (by omega) hl (by omega)) ?_
  refine ARun2.endm (hK1 _ ?_)
  refine AWp.regionW ?_
  refine AWp.ret ?_
  try simp only [thenQ, blockQ, noGo]
  refine bodyQ.m ?_
  clear hK1 K1
  rw [hc]
  first | done | exact Hand.go
theorem inside08_c (k : Nat) (hk : k ≤ 4) : PC Tryz.prog 112 [nat k] (nat (insideN k).1) := by
  have hq : (insideN k).1 = if k = 3 then 2 else if k = 0 then 0 else 1 := by
    have h : k = 0 ∨ k = 1 ∨ k = 2 ∨ k = 3 ∨ k = 4 := by omega
    rcases h with rfl | rfl | rfl | rfl | rfl <;> rfl
  refine PC.of_bodyW (by simp only [push_cast]) Tryz.func112 rfl (by rw [Tryz.ntmps112]; simp) ?_
  refine AWp.regionW ?_
  refine AWp.seqK fun K1 hK1 => ?_
  refine AWp.regionW ?_
  refine AWp.condLM (fun c0 => ?_) (fun c0 => ?_)
  · skip
    refine AWp.regionW ?_
    refine AWp.ret ?_
    try simp only [thenQ, blockQ, noGo]
    refine bodyQ.m ?_
    clear hK1 K1
    rw [hq, if_pos (by simpa using c0)]
    first | done | exact Hand.go
  refine AWp.skip ?_
  refine hK1 _ ?_
  refine AWp.seqK fun K2 hK2 => ?_
  refine AWp.regionW ?_
  refine AWp.condLM (fun c1 => ?_) (fun c1 => ?_)
  · skip
    refine AWp.regionW ?_
    refine AWp.ret ?_
    try simp only [thenQ, blockQ, noGo]
    refine bodyQ.m ?_
    clear hK2 K2 hK1 K1
    rw [hq, if_neg (by simpa using c0), if_pos (by simpa using c1)]
    first | done | exact Hand.go
  refine AWp.skip ?_
  refine hK2 _ ?_
  refine AWp.regionW ?_
  refine AWp.ret ?_
  try simp only [thenQ, blockQ, noGo]
  refine bodyQ.m ?_
  clear hK2 K2 hK1 K1
  rw [hq, if_neg (by simpa using c0), if_neg (by simpa using c1)]
  first | done | exact Hand.go
theorem fits07_c (f : ShForm) (n : Nat) (hn : n < 2 ^ 40) (hl : f.least < 2 ^ 40) (hm : f.most < 2 ^ 40) (hu : 0 < f.unit) (hu2 : f.unit < 2 ^ 40) : PC Tryz.prog 109 [formA f, nat n] (bool (fitsN f n)) := by
  refine PC.of_bodyW (by simp only [push_cast]) Tryz.func109 rfl (by rw [Tryz.ntmps109]; simp) ?_
  refine AWp.regionW ?_
  refine AWp.seqK fun K1 hK1 => ?_
  refine AWp.regionW ?_
  refine AWp.block ?_
  refine AWp.loopK [1, 2] (fun (i : Nat) => [(5, nat (f.least + i * f.unit))]) (fun i => [.box 145 [nat f.cls, u16 f.ty, .val (.string f.name), nat f.least, nat f.most, nat f.unit, nat f.kids]]) (fun i => ∀ j, j < i → f.least + j * f.unit ≠ n) (fun i => f.most + 1 - (f.least + i * f.unit)) (0) ?_ (fun j h => by omega) ?_
  · skip
    refine Le.m 1 ?_ ?_
    · exact Go.Abs.evM
    · simp only [push_cast, ↓reduceIte, Nat.reduceEqDiff, Nat.reduceLT, Nat.reduceAdd, Nat.reduceSub, Nat.reduceMul, Nat.reduceLeDiff, Nat.reducePow, Int.reduceLT, Int.reduceToNat, reduceCtorEq, Int.reduceNeg, Int.reduceEq, Nat.reduceBEq, Nat.reduceBNe, Int.reduceBEq, Int.reduceBNe, String.reduceEq]
      try simp (disch := omega) only [w_nat, w_add, w_addl, w_addr, w_sub, w_subl, w_mul, w_mull, w_mulr, w_u32, w_u16, w_u8, w_u32a, N_zero]
      simp only [Nat.zero_mul, Nat.add_zero]
  · intro i hi K2 hK2
    refine AWp.seqK fun K3 hK3 => ?_
    refine AWp.regionW ?_
    refine AWp.condLM (fun c0 => ?_) (fun c0 => ?_)
    · skip
      have h0 : f.least + i * f.unit ≤ f.most := by simpa using c0
      have hs : (i + 1) * f.unit = i * f.unit + f.unit := by rw [Nat.add_mul, Nat.one_mul]
      refine AWp.skip ?_
      refine hK3 _ ?_
      refine AWp.seqK fun K4 hK4 => ?_
      refine AWp.block ?_
      refine AWp.regionW ?_
      refine AWp.condLM (fun c1 => ?_) (fun c1 => ?_)
      · skip
        have h1 : f.least + i * f.unit = n := by simpa using c1
        have hf : fitsN f n = true := by
          have e : n - f.least = i * f.unit := by omega
          unfold fitsN
          rw [e, Nat.mul_mod_left]
          simp
          omega
        refine AWp.regionW ?_
        refine AWp.ret ?_
        try simp only [thenQ, blockQ, noGo]
        refine bodyQ.m ?_
        clear hK4 K4 hK3 K3 hK2 K2 hK1 K1
        rw [hf]
        first | done | exact Hand.go
      have h1 : f.least + i * f.unit ≠ n := by simpa using c1
      refine AWp.skip ?_
      refine hK4 _ ?_
      refine AWp.regionV ?_
      refine hK2 _ (i + 1) ((fun j hj => (Nat.lt_or_ge j i).elim (fun h => hi j h) (fun h => (show j = i by omega) ▸ h1))) (by omega) ?_
      refine Le.m 1 ?_ ?_
      · exact Go.Abs.evM
      · simp only [push_cast, ↓reduceIte, Nat.reduceEqDiff, Nat.reduceLT, Nat.reduceAdd, Nat.reduceSub, Nat.reduceMul, Nat.reduceLeDiff, Nat.reducePow, Int.reduceLT, Int.reduceToNat, reduceCtorEq, Int.reduceNeg, Int.reduceEq, Nat.reduceBEq, Nat.reduceBNe, Int.reduceBEq, Int.reduceBNe, String.reduceEq]
        try simp (disch := omega) only [w_nat, w_add, w_addl, w_addr, w_sub, w_subl, w_mul, w_mull, w_mulr, w_u32, w_u16, w_u8, w_u32a, N_zero]
        rw [hs, ← Nat.add_assoc]
    have h0 : f.most < f.least + i * f.unit := by simpa using c0
    have hf : fitsN f n = false := by
      unfold fitsN
      by_cases h2 : f.least ≤ n ∧ n ≤ f.most
      · have h3 : (n - f.least) % f.unit ≠ 0 := by
          intro h3
          obtain ⟨j, hj⟩ := Nat.dvd_of_mod_eq_zero h3
          rw [Nat.mul_comm] at hj
          have hlt : j < i := by
            rcases Nat.lt_or_ge j i with h | h
            · exact h
            · have := Nat.mul_le_mul_right f.unit h
              omega
          exact hi j hlt (by omega)
        simp [h3]
      · rcases Nat.lt_or_ge n f.least with h4 | h4
        · simp; omega
        · simp; omega
    refine AWp.exit ?_
    try simp only [thenQ, blockQ, noGo, reduceIte, Nat.reduceEqDiff]
    refine hK1 _ ?_
    refine AWp.regionW ?_
    refine AWp.ret ?_
    try simp only [thenQ, blockQ, noGo]
    refine bodyQ.m ?_
    clear hK3 K3 hK2 K2 hK1 K1
    rw [hf]
    first | done | exact Hand.go
theorem kidsOk_eq (f : ShForm) (l : List GNode) (hf : f.kids ≤ 4) : kidsOk f l =
    if f.kids = 0 then l.length == 0 else if f.kids = 1 then l.length == 1 else if f.kids = 4 then (l.length == 1 && ((l.headD default).ty == 5 || (l.headD default).ty == 6)) else (decide (1 ≤ l.length) && decide (l.length ≤ 16384)) := by
  have key : ∀ k n : Nat, k ≤ 4 → ∀ b : Bool, (decide ((insideN k).2.1 ≤ n) && decide (n ≤ (insideN k).2.2) && (k != 4 || b)) = if k = 0 then n == 0 else if k = 1 then n == 1 else if k = 4 then (n == 1 && b) else (decide (1 ≤ n) && decide (n ≤ 16384)) := by
    intro k n hk b
    have h : k = 0 ∨ k = 1 ∨ k = 2 ∨ k = 3 ∨ k = 4 := by omega
    have h1 : (decide (1 ≤ n) && decide (n ≤ 1)) = (n == 1) := by rw [Bool.eq_iff_iff]; simp; omega
    rcases h with rfl | rfl | rfl | rfl | rfl
    · rw [Bool.eq_iff_iff]; simp [insideN]
    · rw [Bool.eq_iff_iff]; simp [insideN]; omega
    · simp [insideN]
    · simp [insideN]
    · simp [insideN, ← h1]
  unfold kidsOk
  rw [Bool.or_assoc]
  exact key _ _ hf _
theorem wanted_c (f : ShForm) (l : List GNode) (hl : l.length ≤ 2 ^ 40) (hf : f.kids ≤ 4) : PC Tryz.prog 110 [formA f, .sl false 3 (nodesA false l)] (bool (kidsOk f l)) := by
  have hq := kidsOk_eq f l hf
  refine PC.of_bodyW (by simp only [push_cast]) Tryz.func110 rfl (by rw [Tryz.ntmps110]; simp) ?_
  refine AWp.regionW ?_
  refine AWp.seqK fun K1 hK1 => ?_
  refine AWp.regionW ?_
  refine AWp.block ?_
  refine AWp.regionW ?_
  refine AWp.condLM (fun c0 => ?_) (fun c0 => ?_)
  · skip
    have h0 : f.kids = 0 := by simpa using c0
    refine AWp.regionW ?_
    refine AWp.ret ?_
    try simp only [thenQ, blockQ, noGo]
    refine bodyQ.m ?_
    clear hK1 K1
    rw [hq, if_pos h0]
    first | done | exact Hand.go
  have h0 : ¬ f.kids = 0 := by simpa using c0
  refine AWp.regionW ?_
  refine AWp.condLM (fun c1 => ?_) (fun c1 => ?_)
  · skip
    have h1 : f.kids = 1 := by simpa using c1
    refine AWp.regionW ?_
    refine AWp.ret ?_
    try simp only [thenQ, blockQ, noGo]
    refine bodyQ.m ?_
    clear hK1 K1
    rw [hq, if_neg h0, if_pos h1]
    first | done | exact Hand.go
  have h1 : ¬ f.kids = 1 := by simpa using c1
  refine AWp.regionW ?_
  refine AWp.condLM (fun c2 => ?_) (fun c2 => ?_)
  · skip
    have h2 : f.kids = 4 := by simpa using c2
    refine AWp.regionA fun K2 hK2 => ?_
    refine ARun.segm 4 fun KS hKS => ?_
    refine ARun2.endm (hKS _ ?_); clear hKS KS
    apply ARun.grpM 12 3 true 34 [22]
    · intro g3 KG hKG
      have hne : 0 < l.length := by have := beq_iff_eq.1 g3; omega
      refine ARun.segm 6 fun KS hKS => ?_
      refine ARun2.indexM (0) (nodeA false (l.headD default)) ?_ ?_
      · exact nodesA_head _ _ hne
      refine ARun2.endm (hKS _ ?_); clear hKS KS
      apply ARun.grpM 5 9 false 33 [22, 28]
      · intro g9 KG hKG
        refine ARun2.gom ?_
        refine ARun2.indexM (0) (nodeA false (l.headD default)) ?_ ?_
        · exact nodesA_head _ _ hne
        exact ARun2.endm (hKG _ Le.grpM)
      refine ARun2.gom ?_
      exact ARun2.endm (hKG _ Le.grpM)
    refine ARun2.gom ?_
    refine ARun2.endm (hK2 _ ?_)
    refine AWp.ret ?_
    try simp only [thenQ, blockQ, noGo]
    refine bodyQ.m ?_
    clear hK2 K2 hK1 K1
    rw [hq, if_neg h0, if_neg h1, if_pos h2]
    first | done | exact Hand.go
  have h2 : ¬ f.kids = 4 := by simpa using c2
  refine AWp.skip ?_
  refine hK1 _ ?_
  refine AWp.regionA fun K3 hK3 => ?_
  refine ARun.segm 4 fun KS hKS => ?_
  refine ARun2.endm (hKS _ ?_); clear hKS KS
  apply ARun.grpM 3 3 true 42 [39]
  · intro g3 KG hKG
    refine ARun2.gom ?_
    exact ARun2.endm (hKG _ Le.grpM)
  refine ARun2.gom ?_
  refine ARun2.endm (hK3 _ ?_)
  refine AWp.ret ?_
  try simp only [thenQ, blockQ, noGo]
  refine bodyQ.m ?_
  clear hK3 K3 hK1 K1
  rw [hq, if_neg h0, if_neg h1, if_neg h2]
  first | done | exact Hand.go
def refForms : List ShForm := paramForms.map (fun f => { f with cls := 1 }) ++ causeForms.map (fun f => { f with cls := 2 })
set_option maxRecDepth 100000 in
set_option maxHeartbeats 1000000 in
theorem table07_c : PC Tryz.prog 145 [] (.sl false 7 (formsA refForms)) := by
  refine PC.of_bodyW (by simp only [push_cast]) Tryz.func145 rfl (by rw [Tryz.ntmps145]; simp) ?_
  refine AWp.regionW ?_
  refine AWp.regionW ?_
  refine AWp.regionW ?_
  refine AWp.ret ?_
  try simp only [thenQ, blockQ, noGo]
  refine bodyQ.m ?_
  simp only [refForms, formsA, paramForms, causeForms, List.map_cons, List.map_nil, List.cons_append, List.nil_append]
  first | done | exact Hand.go
theorem refOf_eq (c t : Nat) (hc : c = 1 ∨ c = 2) : (refForms.find? fun f => f.cls == c && f.ty == t).getD zeroForm = shapeOf c t := by
  have key : ∀ (l : List ShForm) (c' : Nat), (l.map (fun f => { f with cls := c' })).find? (fun f => f.cls == c && f.ty == t) = if c' = c then (l.find? fun f => f.ty == t).map (fun f => { f with cls := c' }) else none := by
    intro l c'
    induction l with
    | nil => simp
    | cons a l ih =>
      by_cases h : c' = c
      · subst h
        simp only [if_true] at ih
        by_cases ht : a.ty = t
        · simp [List.find?_cons, ht]
        · have ht' : (a.ty == t) = false := by simpa using ht
          simp [List.find?_cons, ht', ih]
      · have hcc : (c' == c) = false := by simpa using h
        simp only [if_neg h] at ih ⊢
        simp [List.find?_cons, hcc, ih]
  unfold refForms shapeOf
  rw [List.find?_append, key, key]
  rcases hc with rfl | rfl
  · simp [formsN]
  · simp [formsN]
theorem of07_c (c t : Nat) (hc : c = 1 ∨ c = 2) : PC Tryz.prog 108 [nat c, u16 t] (formA (shapeOf c t)) := by
  have hlen : refForms.length ≤ 2 ^ 40 := by decide
  have hq := refOf_eq c t hc
  refine PC.of_bodyW (by simp only [push_cast]) Tryz.func108 rfl (by rw [Tryz.ntmps108]; simp) ?_
  refine AWp.regionW ?_
  refine AWp.regionM fun K1 hK1 => ?_
  refine ARun2.callM (table07_c) ?_
  refine ARun2.endm (hK1 _ ?_)
  refine AWp.seqK fun K2 hK2 => ?_
  refine AWp.regionW ?_
  refine AWp.block ?_
  refine AWp.loopK0 [0, 1, 4, 5] (fun (i : Nat) => [(6, nat i)]) (fun i => i ≤ refForms.length ∧ refForms.find? (fun f => f.cls == c && f.ty == t) = (refForms.drop i).find? fun f => f.cls == c && f.ty == t) (fun i => refForms.length - i) (0) ?_ ⟨Nat.zero_le _, rfl⟩ ?_
  · skip
    refine Le.m 1 ?_ ?_
    · exact Go.Abs.evM
    · exact Go.Abs.evN
  · intro i hi K3 hK3
    refine AWp.seqK fun K4 hK4 => ?_
    refine AWp.regionW ?_
    refine AWp.condLM (fun c0 => ?_) (fun c0 => ?_)
    · skip
      have hil : i < refForms.length := by simpa using c0
      have hd : refForms.drop i = refForms[i] :: refForms.drop (i + 1) := List.drop_eq_getElem_cons hil
      refine AWp.skip ?_
      refine hK4 _ ?_
      refine AWp.seqK fun K5 hK5 => ?_
      refine AWp.block ?_
      refine AWp.regionA fun K6 hK6 => ?_
      refine ARun.segm 8 fun KS hKS => ?_
      refine ARun2.indexM (i) (formA refForms[i]) ?_ ?_
      · exact formsA_at _ _ hil
      refine ARun2.endm (hKS _ ?_); clear hKS KS
      apply ARun.grpM 7 7 true 28 [0, 1, 4, 5, 6, 21]
      · intro g7 KG hKG
        refine ARun2.gom ?_
        refine ARun2.indexM (i) (formA refForms[i]) ?_ ?_
        · exact formsA_at _ _ hil
        exact ARun2.endm (hKG _ Le.grpM)
      refine ARun2.gom ?_
      refine ARun2.endm (hK6 _ ?_)
      refine AWp.condLM (fun c1 => ?_) (fun c1 => ?_)
      · skip
        have h1 : (refForms[i].cls == c && refForms[i].ty == t) = true := by simpa using c1
        have hv : shapeOf c t = refForms[i] := by rw [← hq, hi.2, hd, List.find?_cons, h1]; rfl
        refine AWp.regionM fun K7 hK7 => ?_
        refine ARun2.indexM (i) (formA refForms[i]) ?_ ?_
        · exact formsA_at _ _ hil
        refine ARun2.endm (hK7 _ ?_)
        refine AWp.ret ?_
        try simp only [thenQ, blockQ, noGo]
        refine bodyQ.m ?_
        clear hK7 K7 hK6 K6 hK5 K5 hK4 K4 hK3 K3 hK2 K2 hK1 K1
        rw [hv]
        first | done | exact Hand.go
      have h1 : (refForms[i].cls == c && refForms[i].ty == t) = false := by simpa using c1
      refine AWp.skip ?_
      refine hK5 _ ?_
      refine AWp.regionV ?_
      refine hK3 _ (i + 1) (⟨by omega, by rw [hi.2, hd, List.find?_cons, h1]⟩) (by omega) ?_
      refine Le.m 1 ?_ ?_
      · exact Go.Abs.evM
      · exact Go.Abs.evN
    have hil : refForms.length ≤ i := by simpa using c0
    have hv : shapeOf c t = zeroForm := by rw [← hq, hi.2, List.drop_of_length_le hil]; rfl
    refine AWp.exit ?_
    try simp only [thenQ, blockQ, noGo, reduceIte, Nat.reduceEqDiff]
    refine hK2 _ ?_
    refine AWp.regionW ?_
    refine AWp.ret ?_
    try simp only [thenQ, blockQ, noGo]
    refine bodyQ.m ?_
    clear hK4 K4 hK3 K3 hK2 K2 hK1 K1
    rw [hv]
    first | done | exact Hand.go
theorem sumUp_le (l : List GNode) (i : Nat) : sumUp 0 ((nLens (l.take i)).map (4 + ·)) ≤ nSize l := by
  have e : (nLens (l.take i)).map (4 + ·) = ((nLens l).map (4 + ·)).take i := by
    rw [nLens_map, nLens_map, List.map_take, List.map_take]
  rw [e]; exact sumUp_take _ i
def szR (l : List GNode) (i : Nat) : Nat := if i < l.length then upN (sumUp 0 ((nLens (l.take i)).map (4 + ·))) else nSize l
theorem upN_mod (n : Nat) : upN n % 4 = 0 := by unfold upN gapN; omega
theorem szR_step (l : List GNode) (i : Nat) (h : i < l.length) : szR l (i + 1) = if i < l.length - 1 then szR l i + (4 + vlen l[i]) + gapN (4 + vlen l[i]) else szR l i + (4 + vlen l[i]) := by
  have e : sumUp 0 ((nLens (l.take (i + 1))).map (4 + ·)) = upN (sumUp 0 ((nLens (l.take i)).map (4 + ·))) + (4 + vlen l[i]) := by
    rw [List.take_succ_eq_append_getElem h]
    have : nLens (l.take i ++ [l[i]]) = nLens (l.take i) ++ [vlen l[i]] := by rw [nLens_map, nLens_map, List.map_append]; rfl
    rw [this, List.map_append]
    exact sumUp_append _ _ _
  have hu := upN_mod (sumUp 0 ((nLens (l.take i)).map (4 + ·)))
  unfold szR
  rw [if_pos h]
  by_cases h2 : i < l.length - 1
  · rw [if_pos (by omega), if_pos h2, e]
    generalize upN (sumUp 0 ((nLens (l.take i)).map (4 + ·))) = u at hu
    unfold upN gapN; omega
  · rw [if_neg (by omega), if_neg h2, ← e]
    have : i + 1 = l.length := by omega
    rw [this, List.take_length]; rfl
theorem szR_le (l : List GNode) (i : Nat) : szR l i ≤ nSize l + 3 := by
  unfold szR
  split
  · have h1 := sumUp_le l i
    have h2 := gapN_le (sumUp 0 ((nLens (l.take i)).map (4 + ·)))
    unfold upN; omega
  · omega
theorem szR_zero (l : List GNode) : szR l 0 = 0 := by
  unfold szR
  split
  · simp [nLens, sumUp, upN, gapN]
  · have : l = [] := by cases l <;> simp_all
    subst this; rfl
theorem size08_step (l : List GNode) (hs : nSize l ≤ 2 ^ 30) (ih : ∀ a ∈ l, PC Tryz.prog 27 [.sl false 3 (nodesA false a.kids)] (nat (nSize a.kids))) :
    PC Tryz.prog 27 [.sl false 3 (nodesA false l)] (nat (nSize l)) := by
  have hlen := nSize_len l
  refine PC.of_bodyW (by simp only [push_cast]) Tryz.func27 rfl (by rw [Tryz.ntmps27]; simp) ?_
  refine AWp.regionW ?_
  refine AWp.regionW ?_
  refine AWp.seqK fun K1 hK1 => ?_
  refine AWp.regionW ?_
  refine AWp.block ?_
  refine AWp.loopK0 [0] (fun (i : Nat) => [(4, nat i), (3, nat (szR l i))]) (fun i => i ≤ l.length) (fun i => l.length - i) (0) ?_ (Nat.zero_le _) ?_
  · skip
    refine Le.m 0 ?_ ?_
    · exact Go.Abs.evM
    · simp only [push_cast, ↓reduceIte, Nat.reduceEqDiff, Nat.reduceLT, Nat.reduceAdd, Nat.reduceSub, Nat.reduceMul, Nat.reduceLeDiff, Nat.reducePow, Int.reduceLT, Int.reduceToNat, reduceCtorEq, Int.reduceNeg, Int.reduceEq, Nat.reduceBEq, Nat.reduceBNe, Int.reduceBEq, Int.reduceBNe, String.reduceEq]
      try simp (disch := omega) only [w_nat, w_add, w_addl, w_addr, w_sub, w_subl, w_mul, w_mull, w_mulr, w_u32, w_u16, w_u8, w_u32a, N_zero]
      rw [szR_zero]; rfl
  · intro i hi K2 hK2
    refine AWp.seqK fun K3 hK3 => ?_
    refine AWp.regionW ?_
    refine AWp.condLM (fun c0 => ?_) (fun c0 => ?_)
    · skip
      have hil : i < l.length := by simpa using c0
      have hm := List.getElem_mem hil
      have hv := vlen_mem hm
      have he := vlen_eq l[i]
      have hst := szR_step l i hil
      have hle := szR_le l i
      have hg := gapN_le (4 + vlen l[i])
      refine AWp.skip ?_
      refine hK3 _ ?_
      refine AWp.seqK fun K4 hK4 => ?_
      refine AWp.block ?_
      refine AWp.drS [[(0, none)], [(4, none)], [(12, some 0), (13, some 1)], [(14, some 2)], [(15, some 3)], [(16, some 4)], [(17, some 5)], [(0, none)], [(4, none)], [(19, some 7), (20, some 8)], [(21, some 9)], [(22, some 10)], [(23, some 11)], [(18, some 6), (24, some 12)], [(25, some 13)]] fun G hG => ?_
      refine Dr.sim ?_
      try simp only [lca, lna]
      refine Dr.sim ?_
      try simp only [lca, lna]
      refine Dr.idx (i) (nodeA false l[i]) ?_ ?_
      · exact nodesA_at _ _ _ hil
      try simp only [lca, lna]
      refine Dr.sim ?_
      try simp only [lca, lna]
      refine Dr.sim ?_
      try simp only [lca, lna]
      refine Dr.sim ?_
      try simp only [lca, lna]
      refine Dr.sim ?_
      try simp only [lca, lna]
      refine Dr.sim ?_
      try simp only [lca, lna]
      refine Dr.sim ?_
      try simp only [lca, lna]
      refine Dr.idx (i) (nodeA false l[i]) ?_ ?_
      · exact nodesA_at _ _ _ hil
      try simp only [lca, lna]
      refine Dr.sim ?_
      try simp only [lca, lna]
      refine Dr.sim ?_
      try simp only [lca, lna]
      refine Dr.call (ih l[i] hm) ?_
      try simp only [lca, lna]
      refine Dr.sim ?_
      try simp only [lca, lna]
      refine Dr.sim ?_
      try simp only [lca, lna]
      refine Dr.finM (n := 15) [(5, 14)] [0, 3, 4] hG Facts.mixed fun KD hKD => ?_
      refine ARun2.endm (hKD _ ?_); clear hKD KD hG G
      refine AWp.regionW ?_
      refine AWp.regionW ?_
      refine AWp.condLM (fun c1 => ?_) (fun c1 => ?_)
      · skip
        have h1 : i < l.length - 1 := by simpa using c1
        rw [if_pos h1] at hst
        refine AWp.regionN fun K5 hK5 => ?_
        rw [show 4 + l[i].data.length + nSize l[i].kids = 4 + vlen l[i] by omega]
        refine ARun2.callM (gap03_c (4 + vlen l[i]) (by omega)) ?_
        refine ARun2.endm (hK5 _ ?_)
        refine hK4 _ ?_
        refine AWp.regionV ?_
        refine hK2 _ (i + 1) (by omega) (by omega) ?_
        refine Le.m 0 ?_ ?_
        · exact Go.Abs.evM
        · simp only [push_cast, ↓reduceIte, Nat.reduceEqDiff, Nat.reduceLT, Nat.reduceAdd, Nat.reduceSub, Nat.reduceMul, Nat.reduceLeDiff, Nat.reducePow, Int.reduceLT, Int.reduceToNat, reduceCtorEq, Int.reduceNeg, Int.reduceEq, Nat.reduceBEq, Nat.reduceBNe, Int.reduceBEq, Int.reduceBNe, String.reduceEq]
          try simp (disch := omega) only [w_nat, w_add, w_addl, w_addr, w_sub, w_subl, w_mul, w_mull, w_mulr, w_u32, w_u16, w_u8, w_u32a, N_zero]
          first | (rw [hst]; done) | (rw [hst]; congr 3; omega)
      have h1 : ¬ i < l.length - 1 := by simpa using c1
      rw [if_neg h1] at hst
      refine AWp.skip ?_
      refine hK4 _ ?_
      refine AWp.regionV ?_
      refine hK2 _ (i + 1) (by omega) (by omega) ?_
      refine Le.m 0 ?_ ?_
      · exact Go.Abs.evM
      · simp only [push_cast, ↓reduceIte, Nat.reduceEqDiff, Nat.reduceLT, Nat.reduceAdd, Nat.reduceSub, Nat.reduceMul, Nat.reduceLeDiff, Nat.reducePow, Int.reduceLT, Int.reduceToNat, reduceCtorEq, Int.reduceNeg, Int.reduceEq, Nat.reduceBEq, Nat.reduceBNe, Int.reduceBEq, Int.reduceBNe, String.reduceEq]
        try simp (disch := omega) only [w_nat, w_add, w_addl, w_addr, w_sub, w_subl, w_mul, w_mull, w_mulr, w_u32, w_u16, w_u8, w_u32a, N_zero]
        first | (rw [hst]; done) | (rw [hst]; congr 3; omega)
    have hil : i = l.length := by simp at c0; omega
    subst hil
    refine AWp.exit ?_
    try simp only [thenQ, blockQ, noGo, reduceIte, Nat.reduceEqDiff]
    refine hK1 _ ?_
    refine AWp.regionW ?_
    refine AWp.ret ?_
    try simp only [thenQ, blockQ, noGo]
    refine bodyQ.m ?_
    clear hK3 K3 hK2 K2 hK1 K1
    unfold szR; rw [if_neg (Nat.lt_irrefl _)]
    first | done | exact Hand.go
theorem size08_w : ∀ (w : Nat) (l : List GNode), szs l ≤ w → nSize l ≤ 2 ^ 30 → PC Tryz.prog 27 [.sl false 3 (nodesA false l)] (nat (nSize l)) := by
  have kl : ∀ (a : GNode) (l : List GNode), a ∈ l → szs a.kids < szs l := by
    intro a l ha
    have := szs_mem ha; rw [GNode.sz_eq] at this; omega
  intro w
  induction w with
  | zero => exact fun l hw hs => size08_step l hs (fun a ha => by have := kl a l ha; omega)
  | succ w ih => exact fun l hw hs => size08_step l hs (fun a ha => by have := kl a l ha; have := nSize_kids ha; exact ih _ (by omega) (by omega))
theorem size08_c (l : List GNode) (hs : nSize l ≤ 2 ^ 30) : PC Tryz.prog 27 [.sl false 3 (nodesA false l)] (nat (nSize l)) := size08_w _ l (Nat.le_refl _) hs
theorem form_small (c t : Nat) : (shapeOf c t).kids ≤ 4 ∧ (shapeOf c t).least < 2 ^ 40 ∧ (shapeOf c t).most < 2 ^ 40 ∧ (shapeOf c t).unit < 2 ^ 40 ∧ (shapeHas c t = true → (shapeOf c t).cls = c ∧ 0 < (shapeOf c t).unit) ∧ (shapeHas c t = false → shapeOf c t = zeroForm) := by
  have key : ∀ l : List ShForm, (∀ f ∈ l, f.kids ≤ 4 ∧ f.least < 2 ^ 40 ∧ f.most < 2 ^ 40 ∧ f.unit < 2 ^ 40 ∧ 0 < f.unit) →
      let g := (((l.find? fun f => f.ty == t).map fun f => { f with cls := c }).getD zeroForm)
      g.kids ≤ 4 ∧ g.least < 2 ^ 40 ∧ g.most < 2 ^ 40 ∧ g.unit < 2 ^ 40 ∧ ((l.find? fun f => f.ty == t).isSome = true → g.cls = c ∧ 0 < g.unit) ∧ ((l.find? fun f => f.ty == t).isSome = false → g = zeroForm) := by
    intro l hl
    cases hf : l.find? (fun f => f.ty == t) with
    | none => simp [zeroForm]
    | some f =>
      have := hl f (List.mem_of_find?_eq_some hf)
      simp
      omega
  refine key (formsN c) ?_
  match c with
  | 0 => intro f hf; simp [formsN] at hf
  | 1 => decide
  | 2 => decide
  | _ + 3 => intro f hf; simp [formsN] at hf
theorem counted_eq (c t : Nat) (d : List UInt8) (k : List GNode) (h : badN c t d.length k = false) (hc : c = 2) (ht : t = 2) : (!countedR d) = countedN c t d := by
  subst hc; subst ht
  have hf : fitsN (shapeOf 2 2) d.length = true := by
    unfold badN at h
    have : shapeHas 2 2 = true := rfl
    rw [this] at h
    cases hq : fitsN (shapeOf 2 2) d.length with
    | true => rfl
    | false => rw [hq] at h; simp at h
  have hl : 6 ≤ d.length ∧ (d.length - 6) % 2 = 0 := by
    have e : shapeOf 2 2 = ⟨2, 2, ⟨#[109, 105, 115, 115, 105, 110, 103, 45, 112, 97, 114, 97, 109, 101, 116, 101, 114]⟩, 6, 65531, 2, 0⟩ := rfl
    rw [e] at hf
    unfold fitsN at hf
    simp only [Bool.and_eq_true, decide_eq_true_eq, beq_iff_eq] at hf
    exact ⟨hf.1.1, hf.2⟩
  unfold countedR countedN
  rw [Bool.eq_iff_iff]
  simp
  omega
theorem check08_step (c dp : Nat) (n : GNode) (hc : c = 1 ∨ c = 2) (hdp : dp < 2 ^ 60) (hs : nSize [n] ≤ 2 ^ 30)
    (ih : ∀ (c dp : Nat) (a : GNode), a ∈ n.kids → (c = 1 ∨ c = 2) → dp < 2 ^ 60 → nSize [a] ≤ 2 ^ 30 → PC Tryz.prog 49 [nat c, nodeA false a, nat dp] (nat (checkN c dp a))) :
    PC Tryz.prog 49 [nat c, nodeA false n, nat dp] (nat (checkN c dp n)) := by
  have hkl := nSize_len n.kids
  have hk1 := nSize_kids1 n
  have hdl := nSize_data n
  obtain ⟨f1, f2, f3, f4, f5, f6⟩ := form_small c n.ty
  have hcl : (shapeOf c n.ty).cls = if shapeHas c n.ty = true then c else 0 := by
    cases h : shapeHas c n.ty with
    | true => exact (f5 h).1
    | false => rw [f6 h]; rfl
  have hc0 : ((shapeOf c n.ty).cls == 0) = !shapeHas c n.ty := by
    rw [hcl]; cases shapeHas c n.ty <;> simp; omega
  have hc1 : decide (0 < (shapeOf c n.ty).cls) = shapeHas c n.ty := by
    rw [hcl]; cases shapeHas c n.ty <;> simp; omega
  refine PC.of_bodyW (by simp only [push_cast]) Tryz.func49 rfl (by rw [Tryz.ntmps49]; simp) ?_
  refine AWp.regionW ?_
  refine AWp.seqK fun K1 hK1 => ?_
  refine AWp.regionW ?_
  refine AWp.condLM (fun c0 => ?_) (fun c0 => ?_)
  · skip
    have h0 : 4 < dp := by simpa using c0
    refine AWp.regionW ?_
    refine AWp.ret ?_
    try simp only [thenQ, blockQ, noGo]
    refine bodyQ.m ?_
    clear hK1 K1
    rw [checkN_eq, if_pos h0]
    first | done | exact Hand.go
  have h0 : ¬ 4 < dp := by simpa using c0
  refine AWp.skip ?_
  refine hK1 _ ?_
  refine AWp.regionM fun K2 hK2 => ?_
  refine ARun2.callM (of07_c c n.ty hc) ?_
  refine ARun2.endm (hK2 _ ?_)
  refine AWp.seqK fun K3 hK3 => ?_
  refine AWp.regionA fun K4 hK4 => ?_
  refine ARun.segm 4 fun KS hKS => ?_
  refine ARun2.endm (hKS _ ?_); clear hKS KS
  apply ARun.grpM 4 3 true 23 [0, 2, 4, 7, 19]
  · intro g3 KG hKG
    refine ARun2.gom ?_
    exact ARun2.endm (hKG _ Le.grpM)
  refine ARun2.gom ?_
  refine ARun2.endm (hK4 _ ?_)
  refine AWp.condLM (fun c1 => ?_) (fun c1 => ?_)
  · skip
    rw [hc0] at c1
    have hb : badN c n.ty n.data.length n.kids = true := by unfold badN; rw [c1]; rfl
    refine AWp.regionW ?_
    refine AWp.ret ?_
    try simp only [thenQ, blockQ, noGo]
    refine bodyQ.m ?_
    clear hK4 K4 hK3 K3 hK2 K2 hK1 K1
    rw [checkN_eq, if_neg h0, if_pos hb]
    first | done | exact Hand.go
  rw [hc0] at c1
  refine AWp.skip ?_
  refine hK3 _ ?_
  refine AWp.seqK fun K5 hK5 => ?_
  refine AWp.regionA fun K6 hK6 => ?_
  refine ARun.segm 4 fun KS hKS => ?_
  refine ARun2.endm (hKS _ ?_); clear hKS KS
  apply ARun.grpM 13 3 true 41 [0, 2, 4, 7, 28]
  · intro g3 KG hKG
    rw [hc1] at g3
    refine ARun.segm 7 fun KS hKS => ?_
    refine ARun2.callM (fits07_c (shapeOf c n.ty) n.data.length (by omega) f2 f3 (f5 g3).2 f4) ?_
    refine ARun2.endm (hKS _ ?_); clear hKS KS
    apply ARun.grpM 5 10 false 40 [0, 2, 4, 7, 28, 35]
    · intro g10 KG hKG
      refine ARun2.gom ?_
      refine ARun2.callM (wanted_c (shapeOf c n.ty) n.kids (by omega) f1) ?_
      exact ARun2.endm (hKG _ Le.grpM)
    refine ARun2.gom ?_
    exact ARun2.endm (hKG _ Le.grpM)
  refine ARun2.gom ?_
  refine ARun2.endm (hK6 _ ?_)
  refine AWp.condLM (fun c2 => ?_) (fun c2 => ?_)
  · skip
    rw [hc1] at c2
    have hb : badN c n.ty n.data.length n.kids = true := by
      unfold badN; revert c1 c2
      cases shapeHas c n.ty <;> cases fitsN (shapeOf c n.ty) n.data.length <;> cases kidsOk (shapeOf c n.ty) n.kids <;> simp
    refine AWp.regionW ?_
    refine AWp.ret ?_
    try simp only [thenQ, blockQ, noGo]
    refine bodyQ.m ?_
    clear hK6 K6 hK5 K5 hK4 K4 hK3 K3 hK2 K2 hK1 K1
    rw [checkN_eq, if_neg h0, if_pos hb]
    first | done | exact Hand.go
  rw [hc1] at c2
  have hb : badN c n.ty n.data.length n.kids = false := by
    unfold badN; revert c1 c2
    cases shapeHas c n.ty <;> cases fitsN (shapeOf c n.ty) n.data.length <;> cases kidsOk (shapeOf c n.ty) n.kids <;> simp
  have hb' : ¬ badN c n.ty n.data.length n.kids = true := by rw [hb]; simp
  refine AWp.skip ?_
  refine hK5 _ ?_
  refine AWp.seqK fun K7 hK7 => ?_
  refine AWp.regionA fun K8 hK8 => ?_
  refine ARun.segm 3 fun KS hKS => ?_
  refine ARun2.endm (hKS _ ?_); clear hKS KS
  apply ARun.grpM 3 2 true 48 [2, 4, 7, 45]
  · intro g2 KG hKG
    refine ARun2.gom ?_
    exact ARun2.endm (hKG _ Le.grpM)
  refine ARun.segm 2 fun KS hKS => ?_
  refine ARun2.endm (hKS _ ?_); clear hKS KS
  apply ARun.grpM 4 7 true 54 [2, 4, 7, 50]
  · intro g7 KG hKG
    refine ARun2.gom ?_
    refine ARun2.callM (counted08_c n.data (by omega)) ?_
    exact ARun2.endm (hKG _ Le.grpM)
  refine ARun2.gom ?_
  refine ARun2.endm (hK8 _ ?_)
  refine AWp.condLM (fun c3 => ?_) (fun c3 => ?_)
  · skip
    have h3 : countedN c n.ty n.data = true := by
      simp only [Bool.and_eq_true, beq_iff_eq] at c3
      rw [← counted_eq c n.ty n.data n.kids hb c3.1.1 c3.1.2]; exact c3.2
    refine AWp.regionW ?_
    refine AWp.ret ?_
    try simp only [thenQ, blockQ, noGo]
    refine bodyQ.m ?_
    clear hK8 K8 hK7 K7 hK6 K6 hK5 K5 hK4 K4 hK3 K3 hK2 K2 hK1 K1
    rw [checkN_eq, if_neg h0, if_neg hb', if_pos h3]
    first | done | exact Hand.go
  have h3 : ¬ countedN c n.ty n.data = true := by
    intro h3
    have e : c = 2 ∧ n.ty = 2 := by unfold countedN at h3; simp only [Bool.and_eq_true, beq_iff_eq] at h3; exact ⟨h3.1, h3.2.1⟩
    rw [← counted_eq c n.ty n.data n.kids hb e.1 e.2] at h3
    rw [e.1, e.2, h3] at c3
    simp at c3
  refine AWp.skip ?_
  refine hK7 _ ?_
  refine AWp.seqK fun K9 hK9 => ?_
  refine AWp.regionW ?_
  refine AWp.block ?_
  refine AWp.loopK0 [2, 4, 7] (fun (i : Nat) => [(8, nat i)]) (fun i => i ≤ n.kids.length ∧ checkL (insideN (shapeOf c n.ty).kids).1 (dp + 1) (n.kids.take i) = 0) (fun i => n.kids.length - i) (0) ?_ ⟨Nat.zero_le _, rfl⟩ ?_
  · skip
    refine Le.m 2 ?_ ?_
    · exact Go.Abs.evM
    · exact Go.Abs.evN
  · intro i hi K10 hK10
    refine AWp.seqK fun K11 hK11 => ?_
    refine AWp.regionW ?_
    refine AWp.condLM (fun c4 => ?_) (fun c4 => ?_)
    · skip
      have hil : i < n.kids.length := by simpa using c4
      have hm := List.getElem_mem hil
      have hci := inside_class c n.ty n.data.length n.kids hb (by omega)
      refine AWp.skip ?_
      refine hK11 _ ?_
      refine AWp.seqK fun K12 hK12 => ?_
      refine AWp.block ?_
      refine AWp.drS [[(7, none)], [(63, some 0)], [(64, some 1)], [(4, none)], [(66, some 3)], [(8, none)], [(67, some 4), (68, some 5)], [(69, some 6)], [(2, none)], [(71, some 8)], [(65, some 2), (70, some 7), (72, some 9)], [(73, some 10)]] fun G hG => ?_
      refine Dr.sim ?_
      try simp only [lca, lna]
      refine Dr.sim ?_
      try simp only [lca, lna]
      refine Dr.call (inside08_c (shapeOf c n.ty).kids f1) ?_
      try simp only [lca, lna]
      refine Dr.sim ?_
      try simp only [lca, lna]
      refine Dr.sim ?_
      try simp only [lca, lna]
      refine Dr.sim ?_
      try simp only [lca, lna]
      refine Dr.idx (i) (nodeA false n.kids[i]) ?_ ?_
      · exact nodesA_at _ _ _ hil
      try simp only [lca, lna]
      refine Dr.sim ?_
      try simp only [lca, lna]
      refine Dr.sim ?_
      try simp only [lca, lna]
      refine Dr.sim ?_
      try simp only [lca, lna]
      refine Dr.call (ih (insideN (shapeOf c n.ty).kids).1 (dp + 1) n.kids[i] hm hci (by omega) (by have := nSize_one hm; omega)) ?_
      try simp only [lca, lna]
      refine Dr.sim ?_
      try simp only [lca, lna]
      refine Dr.finM (n := 12) [(9, 11)] [2, 4, 7, 8] hG Facts.mixed fun KD hKD => ?_
      refine ARun2.endm (hKD _ ?_); clear hKD KD hG G
      refine AWp.regionW ?_
      refine AWp.condLM (fun c5 => ?_) (fun c5 => ?_)
      · skip
        have h5 : checkN (insideN (shapeOf c n.ty).kids).1 (dp + 1) n.kids[i] ≠ 0 := by simpa using c5
        refine AWp.regionW ?_
        refine AWp.ret ?_
        try simp only [thenQ, blockQ, noGo]
        refine bodyQ.m ?_
        clear hK12 K12 hK11 K11 hK10 K10 hK9 K9 hK8 K8 hK7 K7 hK6 K6 hK5 K5 hK4 K4 hK3 K3 hK2 K2 hK1 K1
        have hL := checkL_at _ _ n.kids i hil hi.2 h5
        rw [checkN_eq c dp n, if_neg h0, if_neg hb', if_neg h3, if_pos (by rw [hL]; exact h5), hL]
        first | done | exact Hand.go
      have h5 : checkN (insideN (shapeOf c n.ty).kids).1 (dp + 1) n.kids[i] = 0 := by simpa using c5
      refine AWp.skip ?_
      refine hK12 _ ?_
      refine AWp.regionV ?_
      refine hK10 _ (i + 1) (⟨by omega, by rw [List.take_succ_eq_append_getElem hil, checkL_snoc, hi.2]; simpa using h5⟩) (by omega) ?_
      refine Le.m 2 ?_ ?_
      · exact Go.Abs.evM
      · exact Go.Abs.evN
    have hil : i = n.kids.length := by have := hi.1; simp at c4; omega
    have hL : checkL (insideN (shapeOf c n.ty).kids).1 (dp + 1) n.kids = 0 := by have := hi.2; rwa [hil, List.take_length] at this
    subst hil
    refine AWp.exit ?_
    try simp only [thenQ, blockQ, noGo, reduceIte, Nat.reduceEqDiff]
    refine hK9 _ ?_
    refine AWp.seqK fun K13 hK13 => ?_
    refine AWp.regionM fun K14 hK14 => ?_
    refine ARun2.callM (size08_c [n] hs) ?_
    refine ARun2.endm (hK14 _ ?_)
    refine AWp.condLM (fun c6 => ?_) (fun c6 => ?_)
    · skip
      have h6 : 65535 < nSize [n] := by simpa using c6
      refine AWp.regionW ?_
      refine AWp.ret ?_
      try simp only [thenQ, blockQ, noGo]
      refine bodyQ.m ?_
      clear hK14 K14 hK13 K13 hK11 K11 hK10 K10 hK9 K9 hK8 K8 hK7 K7 hK6 K6 hK5 K5 hK4 K4 hK3 K3 hK2 K2 hK1 K1
      rw [checkN_eq, if_neg h0, if_neg hb', if_neg h3, if_neg (by rw [hL]; simp), if_pos h6]
      first | done | exact Hand.go
    have h6 : ¬ 65535 < nSize [n] := by simpa using c6
    refine AWp.skip ?_
    refine hK13 _ ?_
    refine AWp.regionW ?_
    refine AWp.ret ?_
    try simp only [thenQ, blockQ, noGo]
    refine bodyQ.m ?_
    clear hK14 K14 hK13 K13 hK11 K11 hK10 K10 hK9 K9 hK8 K8 hK7 K7 hK6 K6 hK5 K5 hK4 K4 hK3 K3 hK2 K2 hK1 K1
    rw [checkN_eq, if_neg h0, if_neg hb', if_neg h3, if_neg (by rw [hL]; simp), if_neg h6]
    first | done | exact Hand.go
theorem check08_w : ∀ (w c dp : Nat) (n : GNode), n.sz ≤ w → (c = 1 ∨ c = 2) → dp < 2 ^ 60 → nSize [n] ≤ 2 ^ 30 → PC Tryz.prog 49 [nat c, nodeA false n, nat dp] (nat (checkN c dp n)) := by
  intro w
  induction w with
  | zero => intro c dp n h; have := n.sz_eq; omega
  | succ w ih => exact fun c dp n hw hc hdp hs => check08_step c dp n hc hdp hs (fun c dp a ha hc hdp hs => ih c dp a (by have := szs_lt ha; omega) hc hdp hs)
theorem check08_c (c dp : Nat) (n : GNode) (hc : c = 1 ∨ c = 2) (hdp : dp < 2 ^ 60) (hs : nSize [n] ≤ 2 ^ 30) : PC Tryz.prog 49 [nat c, nodeA false n, nat dp] (nat (checkN c dp n)) := check08_w _ c dp n (Nat.le_refl _) hc hdp hs
def cntL (g : GNode → Nat) : List GNode → Nat → Nat
  | [], s => s
  | n :: l, s => if s < 1000 then cntL g l (s + 1 + n.data.length / 1000 + g n) else s
def countF : Nat → List GNode → Nat
  | 0, _ => 1000
  | f + 1, l => cntL (fun n => countF f n.kids) l 0
theorem cntL_le (g : GNode → Nat) (hg : ∀ n, g n ≤ 1000 + 2000 * szs n.kids) : ∀ (l : List GNode) (s : Nat), cntL g l s ≤ s + 2000 * szs l
  | [], s => by simp [cntL, szs]
  | n :: l, s => by
    have h1 := n.sz_eq
    have h2 := hg n
    have h3 := cntL_le g hg l (s + 1 + n.data.length / 1000 + g n)
    simp only [cntL, szs]
    split <;> omega
theorem countF_le : ∀ (f : Nat) (l : List GNode), countF f l ≤ 1000 + 2000 * szs l
  | 0, l => by simp [countF]
  | f + 1, l => by
    have := cntL_le (fun n => countF f n.kids) (fun n => countF_le f n.kids) l 0
    simp only [countF]; omega
theorem szs_take (l : List GNode) (i : Nat) (h : i < l.length) : szs (l.take (i + 1)) = szs (l.take i) + l[i].sz := by
  rw [List.take_succ_eq_append_getElem h]
  generalize l.take i = a
  induction a with
  | nil => simp [szs]
  | cons x a ih => simp only [List.cons_append, szs, ih]; omega
theorem szs_take_le (l : List GNode) : ∀ i, szs (l.take i) ≤ szs l := by
  induction l with
  | nil => simp [szs]
  | cons x l ih => intro i; cases i with
    | zero => simp [szs]
    | succ i => have := ih i; simp only [List.take_succ_cons, szs]; omega
theorem count_step (f dp : Nat) (hf : f + dp = 21) (l : List GNode) (hs : szs l ≤ 2 ^ 30) (ih : ∀ a ∈ l, 0 < f → PC Tryz.prog 46 [.sl false 3 (nodesA false a.kids), nat (dp + 1)] (nat (countF (f - 1) a.kids))) :
    PC Tryz.prog 46 [.sl false 3 (nodesA false l), nat dp] (nat (countF f l)) := by
  have hlen := szs_len l
  refine PC.of_bodyW (by simp only [push_cast]) Tryz.func46 rfl (by rw [Tryz.ntmps46]; simp) ?_
  refine AWp.regionW ?_
  refine AWp.regionW ?_
  refine AWp.seqK fun K1 hK1 => ?_
  refine AWp.regionW ?_
  refine AWp.condLM (fun c0 => ?_) (fun c0 => ?_)
  · skip
    have h0 : f = 0 := by have := of_decide_eq_true c0; omega
    refine AWp.regionW ?_
    refine AWp.ret ?_
    try simp only [thenQ, blockQ, noGo]
    refine bodyQ.m ?_
    clear hK1 K1
    rw [h0, countF]
    first | done | exact Hand.go
  obtain ⟨e, rfl⟩ : ∃ e, f = e + 1 := ⟨f - 1, by have : ¬ 20 < dp := of_decide_eq_false c0; omega⟩
  rw [Nat.add_sub_cancel] at ih
  have hq : countF (e + 1) l = cntL (fun n => countF e n.kids) l 0 := rfl
  refine AWp.skip ?_
  refine hK1 _ ?_
  refine AWp.seqK fun K2 hK2 => ?_
  refine AWp.regionW ?_
  refine AWp.block ?_
  refine AWp.loopK0 [0, 1] (fun (x : Nat × Nat) => [(6, nat x.1), (5, nat x.2)]) (fun x => x.1 ≤ l.length ∧ cntL (fun n => countF e n.kids) (l.drop x.1) x.2 = countF (e + 1) l ∧ x.2 ≤ 2000 * szs (l.take x.1)) (fun x => l.length - x.1) ((0, 0)) ?_ ⟨Nat.zero_le _, rfl, Nat.zero_le _⟩ ?_
  · skip
    refine Le.m 0 ?_ ?_
    · exact Go.Abs.evM
    · exact Go.Abs.evN
  · intro x hx K3 hK3
    obtain ⟨i, s⟩ := x
    obtain ⟨hi, hc, hb⟩ := hx
    simp only at hi hc hb
    refine AWp.seqK fun K4 hK4 => ?_
    refine AWp.regionA fun K5 hK5 => ?_
    refine ARun.segm 5 fun KS hKS => ?_
    refine ARun2.endm (hKS _ ?_); clear hKS KS
    apply ARun.grpM 2 4 true 15 [0, 1, 5, 6, 13]
    · intro g4 KG hKG
      refine ARun2.gom ?_
      exact ARun2.endm (hKG _ Le.grpM)
    refine ARun2.gom ?_
    refine ARun2.endm (hK5 _ ?_)
    refine AWp.condLM (fun c1 => ?_) (fun c1 => ?_)
    · skip
      have h1 : i < l.length ∧ s < 1000 := by simpa using c1
      have hil := h1.1
      have hm := List.getElem_mem hil
      have hsm := szs_mem hm
      have hse := GNode.sz_eq l[i]
      have hcl := countF_le e l[i].kids
      have hst := szs_take l i hil
      have hd : l.drop i = l[i] :: l.drop (i + 1) := List.drop_eq_getElem_cons hil
      refine AWp.skip ?_
      refine hK4 _ ?_
      refine AWp.seqK fun K6 hK6 => ?_
      refine AWp.block ?_
      refine AWp.drE [[(5, none)], [(19, some 0)], [(0, none)], [(6, none)], [(21, some 2), (22, some 3)], [(23, some 4)], [(24, some 5)], [(25, some 6)], [(26, some 7)], [(20, some 1), (27, some 8)], [(0, none)], [(6, none)], [(29, some 10), (30, some 11)], [(31, some 12)], [(32, some 13)], [(1, none)], [(34, some 15)], [(33, some 14), (35, some 16)], [(28, some 9), (36, some 17)], [(37, some 18)]] fun G hG => ?_
      refine Dr.sim ?_
      try simp only [lca, lna]
      refine Dr.sim ?_
      try simp only [lca, lna]
      refine Dr.sim ?_
      try simp only [lca, lna]
      refine Dr.sim ?_
      try simp only [lca, lna]
      refine Dr.idx (i) (nodeA false l[i]) ?_ ?_
      · exact nodesA_at _ _ _ hil
      try simp only [lca, lna]
      refine Dr.sim ?_
      try simp only [lca, lna]
      refine Dr.sim ?_
      try simp only [lca, lna]
      refine Dr.sim ?_
      try simp only [lca, lna]
      refine Dr.sim ?_
      try simp only [lca, lna]
      refine Dr.sim ?_
      try simp only [lca, lna]
      refine Dr.sim ?_
      try simp only [lca, lna]
      refine Dr.sim ?_
      try simp only [lca, lna]
      refine Dr.idx (i) (nodeA false l[i]) ?_ ?_
      · exact nodesA_at _ _ _ hil
      try simp only [lca, lna]
      refine Dr.sim ?_
      try simp only [lca, lna]
      refine Dr.sim ?_
      try simp only [lca, lna]
      refine Dr.sim ?_
      try simp only [lca, lna]
      refine Dr.sim ?_
      try simp only [lca, lna]
      refine Dr.call (ih l[i] hm (by omega)) ?_
      try simp only [lca, lna]
      refine Dr.sim ?_
      try simp only [lca, lna]
      refine Dr.sim ?_
      try simp only [lca, lna]
      refine Dr.finN (n := 20) [(5, 19)] [0, 1, 6] hG Facts.mixed fun KD hKD => ?_
      refine ARun2.endm (hKD _ ?_); clear hKD KD hG G
      refine hK6 _ ?_
      refine AWp.regionV ?_
      refine hK3 _ ((i + 1, s + 1 + l[i].data.length / 1000 + countF e l[i].kids)) (⟨hil, by rw [← hc, hd, cntL, if_pos h1.2], by simp only; omega⟩) (by simp only; omega) ?_
      refine Le.m 0 ?_ ?_
      · exact Go.Abs.evM
      · exact Go.Abs.evN
    have h1 : ¬ (i < l.length ∧ s < 1000) := by intro h; simp [h.1, h.2] at c1
    have hr : countF (e + 1) l = s := by
      rw [← hc]
      rcases Nat.lt_or_ge i l.length with h | h
      · rw [List.drop_eq_getElem_cons h, cntL, if_neg (fun h2 => h1 ⟨h, h2⟩)]
      · rw [List.drop_of_length_le h, cntL]
    refine AWp.exit ?_
    try simp only [thenQ, blockQ, noGo, reduceIte, Nat.reduceEqDiff]
    refine hK2 _ ?_
    refine AWp.regionW ?_
    refine AWp.ret ?_
    try simp only [thenQ, blockQ, noGo]
    refine bodyQ.m ?_
    clear hK5 K5 hK4 K4 hK3 K3 hK2 K2 hK1 K1
    rw [hr]
    first | done | exact Hand.go
theorem count_w : ∀ (f dp : Nat) (l : List GNode), f + dp = 21 → szs l ≤ 2 ^ 30 → PC Tryz.prog 46 [.sl false 3 (nodesA false l), nat dp] (nat (countF f l)) := by
  intro f
  induction f with
  | zero => exact fun dp l h hs => count_step 0 dp h l hs (fun a _ h => by omega)
  | succ f ih => exact fun dp l h hs => count_step (f + 1) dp h l hs (fun a ha _ => ih (dp + 1) a.kids (by omega) (by have := szs_mem ha; rw [GNode.sz_eq] at this; omega))
def fewN (l : List GNode) : Bool := decide (countF 21 l ≤ 200)
theorem few_c (l : List GNode) (hs : szs l ≤ 2 ^ 30) : PC Tryz.prog 11 [.sl false 3 (nodesA false l)] (bool (fewN l)) := by
  refine PC.of_bodyW (by simp only [push_cast]) Tryz.func11 rfl (by rw [Tryz.ntmps11]; simp) ?_
  refine AWp.regionW ?_
  refine AWp.regionM fun K1 hK1 => ?_
  refine ARun2.callM (count_w 21 0 l rfl hs) ?_
  refine ARun2.endm (hK1 _ ?_)
  refine AWp.ret ?_
  try simp only [thenQ, blockQ, noGo]
  refine bodyQ.m ?_
  clear hK1 K1
  rw [fewN]
  first | done | exact Hand.go
theorem putB2_be (a b : UInt8) : putB 2 (beN [a, b]) = [a, b] := by
  have ha := a.toNat_lt
  have hb := b.toNat_lt
  rw [putB2, twoB]
  have e : beN [a, b] = a.toNat * 256 + b.toNat := by simp [beN]
  rw [e]
  congr 1
  · apply UInt8.toNat_inj.1; rw [UInt8.toNat_ofNat']; omega
  · congr 1; apply UInt8.toNat_inj.1; rw [UInt8.toNat_ofNat']; omega
end Go.Proofs.YtokbbdodbjiciaaGreatDoor.C
namespace Go.Abs
@[push_cast] theorem bys_fresh (l : List UInt8) : AV.freshL (bys l) = true := by
  unfold bys
  induction l with
  | nil => rfl
  | cons x l ih => simp only [List.map_cons, AV.freshL, AV.fresh, ih]; rfl
@[push_cast] theorem bys_ones (l : List UInt8) : (bys l).all AV.one = true := by
  unfold bys
  rw [List.all_eq_true]; intro x hx; simp only [List.mem_map] at hx; obtain ⟨b, _, rfl⟩ := hx; rfl
mutual
theorem nodeA_fresh : ∀ n : GNode, (nodeA true n).fresh = true
  | .mk t d k => by simp only [nodeA, AV.fresh, AV.freshL, bys_fresh, nodesA_fresh k, Bool.and_true]
theorem nodesA_fresh : ∀ l : List GNode, AV.freshL (nodesA true l) = true
  | [] => by simp [nodesA, AV.freshL]
  | n :: l => by simp only [nodesA, AV.freshL, nodeA_fresh n, nodesA_fresh l, Bool.and_true]
end
attribute [push_cast] nodesA_fresh
end Go.Abs
namespace Go.Proofs.YtokbbdodbjiciaaGreatDoor.C
open Go.Abs
theorem nclone_fstep (n : GNode) (hs : n.sz ≤ 2 ^ 40) (ih : ∀ a : GNode, a.sz < n.sz → PC Tryz.prog 51 [nodeA false a] (nodeA true a)) : PC Tryz.prog 51 [nodeA false n] (nodeA true n) := by
  have hsz := n.sz_eq
  have hlen := szs_len n.kids
  refine PC.of_bodyK (by simp only [push_cast]) Tryz.func51 rfl (by rw [Tryz.ntmps51]; simp) ?_
  refine AWp.regionW ?_
  refine AWp.drS [[(1, none)], [(6, some 0)], [(1, none)], [(8, some 2)], [(9, some 3)], [(7, some 1), (10, some 4)], []] fun G hG => ?_
  refine Dr.sim ?_
  try simp only [lca, lna]
  refine Dr.sim ?_
  try simp only [lca, lna]
  refine Dr.sim ?_
  try simp only [lca, lna]
  refine Dr.sim ?_
  try simp only [lca, lna]
  refine Dr.call (clone_c n.data (by omega)) ?_
  try simp only [lca, lna]
  refine Dr.sim ?_
  try simp only [lca, lna]
  refine Dr.al ?_
  try simp only [lca, lna]
  refine Dr.finA (n := 7) 6 [(11, 5), (3, 6)] [1, 2] hG Facts.mixed fun KD hKD => ?_
  refine ARun2.endm (hKD _ ?_); clear hKD KD hG G
  refine AWp.seqK fun K1 hK1 => ?_
  refine AWp.regionW ?_
  refine AWp.block ?_
  refine AWp.nilBox 2 2 26 3 rfl rfl ?_
  refine Go.Abs.evS2 ?_
  refine AWp.loopK [2, 3, 13, 14] (fun (i : Nat) => [(15, nat i)]) (fun i => [.box 26 [u16 n.ty, .sl false 1 (bys n.data), .sl false 3 (nodesA false n.kids)], .box 26 [.val (.int .u16 0), .val (.slice none 0 0), .val (.slice none 0 0)], .box 26 [u16 n.ty, .sl true 1 (bys n.data), .own 3], .row 26 3 (nodesA true (n.kids.take i))]) (fun i => i ≤ n.kids.length) (fun i => n.kids.length - i) (0) ?_ (Nat.zero_le _) ?_
  · skip
    refine Le.m 4 ?_ ?_
    · exact Go.Abs.evM
    · exact Go.Abs.evN
  · intro i hi K2 hK2
    refine AWp.regionW ?_
    refine AWp.seqK fun K3 hK3 => ?_
    refine AWp.condLM (fun c0 => ?_) (fun c0 => ?_)
    · skip
      have hil : i < n.kids.length := by simpa using c0
      refine AWp.skip ?_
      refine hK3 _ ?_
      refine AWp.seqK fun K4 hK4 => ?_
      refine AWp.block ?_
      refine AWp.regionM fun K5 hK5 => ?_
      refine ARun2.indexM (i) (nodeA false n.kids[i]) ?_ ?_
      · exact nodesA_at _ _ _ hil
      refine ARun2.endm (hK5 _ ?_)
      refine AWp.drE [[(3, none)], [(19, some 0)], [(5, none)], [(21, some 2)], [(22, some 3)]] fun G hG => ?_
      refine Dr.sim ?_
      try simp only [lca, lna]
      refine Dr.sim ?_
      try simp only [lca, lna]
      refine Dr.sim ?_
      try simp only [lca, lna]
      refine Dr.call (ih n.kids[i] (szs_lt (List.getElem_mem hil))) ?_
      try simp only [lca, lna]
      refine Dr.build ?_
      try simp only [lca, lna]
      refine Dr.finN (n := 5) [(20, 1), (23, 4)] [2, 3, 13, 14, 15] hG Facts.mixed fun KD hKD => ?_
      refine ARun2.appendM ?_ ?_ ?_
      · rw [Facts.eb24, nodesA_len, List.length_take, List.length_cons, List.length_nil]; omega
      · rw [nodesA_len, List.length_take, List.length_cons, List.length_nil]; omega
      refine ARun2.endm (hKD _ ?_); clear hKD KD hG G
      refine hK4 _ ?_
      refine AWp.regionV ?_
      refine hK2 _ (i + 1) (by omega) (by omega) ?_
      refine Le.m 4 ?_ ?_
      · first | exact Go.Abs.evM | (refine Go.Abs.evS ?_; rw [List.take_succ_eq_append_getElem hil, nodesA_snoc, nodeA_eq])
      · exact Go.Abs.evN
    have hil : i = n.kids.length := by simp at c0; omega
    subst hil
    refine AWp.exit ?_
    try simp only [thenQ, blockQ, noGo, reduceIte, Nat.reduceEqDiff]
    refine hK1 _ ?_
    refine AWp.pubD 3 ?_
    refine AWp.regionW ?_
    refine AWp.ret ?_
    try simp only [thenQ, blockQ, noGo]
    refine bodyQ.m ?_
    clear hK3 K3 hK2 K2 hK1 K1
    rw [List.take_length]
    first | done | exact Wk.go
theorem nclone_fw : ∀ (w : Nat) (n : GNode), n.sz ≤ w → n.sz ≤ 2 ^ 40 → PC Tryz.prog 51 [nodeA false n] (nodeA true n) := by
  intro w
  induction w with
  | zero => intro n h; have := n.sz_eq; omega
  | succ w ih => exact fun n hw hs => nclone_fstep n hs (fun a h => ih a (by omega) (by omega))
theorem nclone_f (n : GNode) (hs : n.sz ≤ 2 ^ 40) : PC Tryz.prog 51 [nodeA false n] (nodeA true n) := nclone_fw _ n (Nat.le_refl _) hs
theorem right_f (n : GNode) (ok : Bool) (hs : n.sz ≤ 2 ^ 26) : PC Tryz.prog 154 [nodeA false n, bool ok] (.tup [nodeA true (rightN n ok).1, bool (rightN n ok).2]) := by
  have h1 := nSize_sz n
  refine PC.of_bodyK (by simp only [push_cast]) Tryz.func154 rfl (by rw [Tryz.ntmps154]; simp) ?_
  refine AWp.regionW ?_
  refine AWp.seqK fun K1 hK1 => ?_
  refine AWp.regionA fun K2 hK2 => ?_
  refine ARun.segm 3 fun KS hKS => ?_
  refine ARun2.endm (hKS _ ?_); clear hKS KS
  apply ARun.grpM 3 2 false 11 [2, 4, 8]
  · intro g2 KG hKG
    refine ARun2.gom ?_
    refine ARun2.callM (check_c 2 n (by omega) (by omega)) ?_
    exact ARun2.endm (hKG _ Le.grpM)
  refine ARun2.gom ?_
  refine ARun2.endm (hK2 _ ?_)
  refine AWp.condLM (fun c0 => ?_) (fun c0 => ?_)
  · skip
    have h0 : rightN n ok = (.zero, false) := by unfold rightN; cases ok <;> cases h : checkN 2 1 n == 0 <;> simp_all
    refine AWp.regionW ?_
    refine AWp.ret ?_
    try simp only [thenQ, blockQ, noGo]
    refine bodyQ.m ?_
    clear hK2 K2 hK1 K1
    rw [h0]
    first | done | exact Wk.go
  have h0 : rightN n ok = (n, true) := by unfold rightN; cases ok <;> cases h : checkN 2 1 n == 0 <;> simp_all
  refine AWp.skip ?_
  refine hK1 _ ?_
  refine AWp.regionM fun K3 hK3 => ?_
  refine ARun2.callM (nclone_f n (by omega)) ?_
  refine ARun2.endm (hK3 _ ?_)
  refine AWp.ret ?_
  try simp only [thenQ, blockQ, noGo]
  refine bodyQ.m ?_
  clear hK3 K3 hK2 K2 hK1 K1
  rw [h0]
  first | done | exact Wk.go
theorem chunk_f (b : List UInt8) (hl : b.length ≤ 2 ^ 24) : PC Tryz.prog 120 [.sl false 1 (bys b)] (.tup [nodeA true (chunkN b).1, bool (chunkN b).2]) := by
  refine PC.of_bodyK (by simp only [push_cast]) Tryz.func120 rfl (by rw [Tryz.ntmps120]; simp) ?_
  refine AWp.regionW ?_
  refine AWp.regionM fun K1 hK1 => ?_
  refine ARun2.callM (right_f (.mk 6 b []) true (by simp only [GNode.sz, szs]; omega)) ?_
  refine ARun2.endm (hK1 _ ?_)
  refine AWp.ret ?_
  try simp only [thenQ, blockQ, noGo]
  refine bodyQ.m ?_
  clear hK1 K1
  rw [chunkN]
  first | done | exact Wk.go
def classOf (t : Nat) : Nat := (kinsideN (kindOf t).kids).1
def preE (c : GChunk) : Er := firstE [flagsE c (kindOf c.ty), dataE c (kindOf c.ty), kidsE c (kindOf c.ty), countE c, valueE c]
def startC (c : GChunk) : Nat := if kindHas c.ty = true then (preE c).codeOf.1 else if 0 < c.kids.length then 7 else 0
def checkC (c : GChunk) : Nat :=
  if startC c ≠ 0 then startC c else if checkL (classOf c.ty) 1 c.kids ≠ 0 then checkL (classOf c.ty) 1 c.kids
  else if 65535 < 4 + c.data.length + nSize c.kids then 4 else 0
def Er.isN : Er → Bool
  | .ok => true
  | .code c => c != 0
  | .flt c _ => c != 0
theorem firstE_isN : ∀ l : List Er, (∀ e ∈ l, e.isN = true) → (firstE l).isN = true
  | [], _ => rfl
  | e :: l, h => by
    rw [firstE]
    split
    · exact firstE_isN l fun x hx => h x (by simp [hx])
    · exact h e (by simp)
theorem preE_isN (c : GChunk) : (preE c).isN = true := by
  refine firstE_isN _ fun e he => ?_
  simp only [List.mem_cons, List.not_mem_nil, or_false] at he
  rcases he with rfl | rfl | rfl | rfl | rfl
  · unfold flagsE; split <;> rfl
  · unfold dataE; split <;> rfl
  · unfold kidsE; split <;> rfl
  · unfold countE; split <;> rfl
  · unfold valueE; split <;> rfl
theorem isN_code {e : Er} (h : e.isN = true) : e.codeOf.2 = true ↔ e.codeOf.1 ≠ 0 := by
  cases e <;> simp [Er.codeOf, Er.isN] at * <;> exact h
theorem isN_ok {e : Er} (h : e.isN = true) : e.codeOf.1 = 0 ↔ e = .ok := by
  cases e <;> simp [Er.codeOf, Er.isN] at * <;> exact h
theorem errA_code {e : Nat} (h : e ≠ 0) : errA e = .ifc 136 (nat e) := by
  unfold errA; rw [show (e == 0) = false by simpa using h]; rfl
theorem data_ok {c : GChunk} (h : dataE c (kindOf c.ty) = .ok) : (c.ty = 3 → 12 ≤ c.data.length) ∧ (c.ty = 64 → 17 ≤ c.data.length) ∧ (c.ty = 194 → 4 ≤ c.data.length ∧ (c.data.length - 4) % 8 = 0) := by
  have hf : kfitsN (kindOf c.ty) c.data.length = true := by
    unfold dataE at h
    cases hk : kfitsN (kindOf c.ty) c.data.length with
    | true => rfl
    | false => rw [hk] at h; cases h
  unfold kfitsN at hf
  simp only [Bool.and_eq_true, decide_eq_true_eq, beq_iff_eq] at hf
  obtain ⟨⟨h1, h2⟩, h3⟩ := hf
  refine ⟨fun e => ?_, fun e => ?_, fun e => ?_⟩
  · rw [e] at h1; exact h1
  · rw [e] at h1; exact h1
  · rw [e] at h1 h3; exact ⟨h1, h3⟩
theorem firstE_pre {l : List Er} (h : firstE l = .ok) : ∀ e ∈ l, e = .ok := by
  induction l with
  | nil => simp
  | cons e l ih =>
    rw [firstE] at h
    split at h
    · rename_i he
      intro x hx
      rcases List.mem_cons.1 hx with rfl | hx
      · exact he
      · exact ih h x hx
    · rename_i he; exact absurd h he
theorem kclass (k : KForm) (l : List GNode) (h : kkidsOk k l = true) (hk : k.kids ≤ 6) (hl : 0 < l.length) : (kinsideN k.kids).1 = 1 ∨ (kinsideN k.kids).1 = 2 := by
  have hh : k.kids = 0 ∨ k.kids = 1 ∨ k.kids = 2 ∨ k.kids = 3 ∨ k.kids = 4 ∨ k.kids = 5 ∨ k.kids = 6 := by omega
  unfold kkidsOk at h
  rcases hh with e | e | e | e | e | e | e <;> rw [e] at h ⊢ <;> first | exact .inl rfl | exact .inr rfl | skip
  simp [kinsideN] at h
  rw [h] at hl; simp at hl
theorem pre_kids {c : GChunk} (h : preE c = .ok) : kkidsOk (kindOf c.ty) c.kids = true := by
  have := firstE_pre h (kidsE c (kindOf c.ty)) (by simp)
  unfold kidsE at this
  cases hk : kkidsOk (kindOf c.ty) c.kids with
  | true => rfl
  | false => rw [hk] at this; cases this
set_option maxRecDepth 100000 in
theorem firsts_c (c : GChunk) (hd : c.data.length ≤ 2 ^ 40) (hk : c.kids.length ≤ 2 ^ 40) (hh : kindHas c.ty = true) :
    PC Tryz.prog 100 [chunkA false c, kformA (kindOf c.ty), .sl false 1 [.fn (.func 101) [] [], .fn (.func 102) [] [], .fn (.func 107) [] [], .fn (.func 103) [] [], .fn (.func 104) [] []]] (erA (preE c)) := by
  have hb := kind_bd c.ty
  have hu := (hb.2.2.2.2.2.2.1 hh).1
  refine cfirst_c c (kindOf c.ty) [101, 102, 107, 103, 104] [flagsE c (kindOf c.ty), dataE c (kindOf c.ty), kidsE c (kindOf c.ty), countE c, valueE c] rfl (by decide) ?_ ?_
  · intro i hi
    match i, hi with
    | 0, _ => rfl
    | 1, _ => rfl
    | 2, _ => rfl
    | 3, _ => rfl
    | 4, _ => rfl
    | i + 5, h => simp at h; omega
  · intro i hi hok
    match i, hi with
    | 0, _ => exact cflags_c c _
    | 1, _ => exact cdata_c c _ hd (by omega) hu (by omega)
    | 2, _ => exact ckids_c c _ (by omega) hk
    | 3, _ => exact ccount_c c _ hd (data_ok (hok 1 (by omega))).1
    | 4, _ => exact cvalue_c c _ hd (data_ok (hok 1 (by omega))).2.1 (data_ok (hok 1 (by omega))).2.2
    | i + 5, h => simp at h; omega
theorem ccheck_c (c : GChunk) (ht : c.ty < 256) (hd : c.data.length ≤ 2 ^ 40) (hs : nSize c.kids ≤ 2 ^ 30) : PC Tryz.prog 85 [chunkA false c] (errA (checkC c)) := by
  have hkl := nSize_len c.kids
  have hb := kind_bd c.ty
  have hC : checkC c = checkC c := rfl
  conv at hC => rhs; unfold checkC
  generalize checkC c = C at hC
  have hst : startC c = startC c := rfl
  conv at hst => rhs; unfold startC
  have hki := kinside_c (kindOf c.ty).kids (by omega)
  have hcc : classOf c.ty = (kinsideN (kindOf c.ty).kids).1 := rfl
  generalize (kinsideN (kindOf c.ty).kids).2.1 = u1 at hki
  generalize (kinsideN (kindOf c.ty).kids).2.2 = u2 at hki
  rw [← hcc] at hki
  generalize hcl : classOf c.ty = cl at hki hC
  refine PC.of_bodyW (by simp only [push_cast]) Tryz.func85 rfl (by rw [Tryz.ntmps85]; simp) ?_
  refine AWp.regionW ?_
  refine AWp.regionM fun K1 hK1 => ?_
  refine ARun2.callM (kof_c c.ty ht) ?_
  refine ARun2.endm (hK1 _ ?_)
  refine AWp.regionM fun K2 hK2 => ?_
  refine ARun2.callM (hki) ?_
  refine ARun2.endm (hK2 _ ?_)
  refine AWp.regionW ?_
  refine AWp.seqK fun K3 hK3 => ?_
  refine AWp.block ?_
  refine AWp.regionW ?_
  refine AWp.condLM (fun c0 => ?_) (fun c0 => ?_)
  · skip
    have hh : kindHas c.ty = true := c0
    have hfs := firsts_c c hd (by omega) hh
    rw [if_pos hh] at hst
    have hN := preE_isN c
    refine AWp.regionN fun K4 hK4 => ?_
    refine ARun2.callM (hfs) ?_
    refine ARun2.endm (hK4 _ ?_)
    refine hK3 _ ?_
    refine AWp.seqK fun K5 hK5 => ?_
    refine AWp.regionM fun K6 hK6 => ?_
    refine ARun2.callM (code_c (preE c)) ?_
    refine ARun2.endm (hK6 _ ?_)
    refine AWp.regionW ?_
    refine AWp.condLM (fun c2 => ?_) (fun c2 => ?_)
    · skip
      have hne := (isN_code hN).1 c2
      rw [hst, if_pos hne] at hC
      refine AWp.regionW ?_
      refine AWp.ret ?_
      try simp only [thenQ, blockQ, noGo]
      refine bodyQ.m ?_
      clear hK6 K6 hK5 K5 hK4 K4 hK3 K3 hK2 K2 hK1 K1
      rw [hC, errA_code hne]
      first | done | exact Hand.go
    have h0 : (preE c).codeOf.1 = 0 := by
      cases h : (preE c).codeOf.1 with
      | zero => rfl
      | succ n => have := (isN_code hN).2 (by rw [h]; simp); rw [c2] at this; cases this
    have hcls : 0 < c.kids.length → cl = 1 ∨ cl = 2 := fun h => hcl ▸ kclass _ _ (pre_kids ((isN_ok hN).1 h0)) (by omega) h
    rw [hst, h0, if_neg (by simp)] at hC
    refine AWp.skip ?_
    refine hK5 _ ?_
    refine AWp.seqK fun K7 hK7 => ?_
    refine AWp.regionW ?_
    refine AWp.block ?_
    refine AWp.loopK0 [1, 5, 48, 49] (fun (i : Nat) => [(50, nat i)]) (fun i => i ≤ c.kids.length ∧ checkL cl 1 (c.kids.take i) = 0) (fun i => c.kids.length - i) (0) ?_ ⟨Nat.zero_le _, rfl⟩ ?_
    · skip
      refine Le.m 2 ?_ ?_
      · exact Go.Abs.evM
      · exact Go.Abs.evN
    · intro i hi K8 hK8
      refine AWp.regionW ?_
      refine AWp.seqK fun K9 hK9 => ?_
      refine AWp.condLM (fun c3 => ?_) (fun c3 => ?_)
      · skip
        have hil : i < c.kids.length := by simpa using c3
        have hm := List.getElem_mem hil
        have hcl2 := hcls (by omega)
        refine AWp.skip ?_
        refine hK9 _ ?_
        refine AWp.seqK fun K10 hK10 => ?_
        refine AWp.block ?_
        refine AWp.regionM fun K11 hK11 => ?_
        refine ARun2.indexM (i) (nodeA false c.kids[i]) ?_ ?_
        · exact nodesA_at _ _ _ hil
        refine ARun2.endm (hK11 _ ?_)
        refine AWp.regionM fun K12 hK12 => ?_
        refine ARun2.callM (check_c cl c.kids[i] hcl2 (by have := nSize_one hm; omega)) ?_
        refine ARun2.endm (hK12 _ ?_)
        refine AWp.regionW ?_
        refine AWp.condLM (fun c4 => ?_) (fun c4 => ?_)
        · skip
          have h5 : checkN cl 1 c.kids[i] ≠ 0 := by simpa using c4
          have hL := checkL_at _ _ c.kids i hil hi.2 h5
          rw [hL, if_pos h5] at hC
          refine AWp.regionW ?_
          refine AWp.ret ?_
          try simp only [thenQ, blockQ, noGo]
          refine bodyQ.m ?_
          clear hK12 K12 hK11 K11 hK10 K10 hK9 K9 hK8 K8 hK7 K7 hK6 K6 hK5 K5 hK4 K4 hK3 K3 hK2 K2 hK1 K1
          rw [hC]
          first | done | exact Hand.go
        have h5 : checkN cl 1 c.kids[i] = 0 := by simpa using c4
        refine AWp.skip ?_
        refine hK10 _ ?_
        refine AWp.regionV ?_
        refine hK8 _ (i + 1) (⟨by omega, by rw [List.take_succ_eq_append_getElem hil, checkL_snoc, hi.2]; simpa using h5⟩) (by omega) ?_
        refine Le.m 2 ?_ ?_
        · exact Go.Abs.evM
        · exact Go.Abs.evN
      have hil : i = c.kids.length := by have := hi.1; simp at c3; omega
      have hL : checkL cl 1 c.kids = 0 := by have := hi.2; rwa [hil, List.take_length] at this
      subst hil
      rw [hL, if_neg (by simp)] at hC
      refine AWp.exit ?_
      try simp only [thenQ, blockQ, noGo, reduceIte, Nat.reduceEqDiff]
      refine hK7 _ ?_
      refine AWp.seqK fun K13 hK13 => ?_
      refine AWp.regionM fun K14 hK14 => ?_
      refine ARun2.callM (csize_c c hd hs) ?_
      refine ARun2.endm (hK14 _ ?_)
      refine AWp.condLM (fun c5 => ?_) (fun c5 => ?_)
      · skip
        rw [if_pos (by simpa using c5)] at hC
        refine AWp.regionW ?_
        refine AWp.ret ?_
        try simp only [thenQ, blockQ, noGo]
        refine bodyQ.m ?_
        clear hK14 K14 hK13 K13 hK9 K9 hK8 K8 hK7 K7 hK6 K6 hK5 K5 hK4 K4 hK3 K3 hK2 K2 hK1 K1
        rw [hC]
        first | done | exact Hand.go
      rw [if_neg (by simpa using c5)] at hC
      refine AWp.skip ?_
      refine hK13 _ ?_
      refine AWp.regionW ?_
      refine AWp.ret ?_
      try simp only [thenQ, blockQ, noGo]
      refine bodyQ.m ?_
      clear hK14 K14 hK13 K13 hK9 K9 hK8 K8 hK7 K7 hK6 K6 hK5 K5 hK4 K4 hK3 K3 hK2 K2 hK1 K1
      rw [hC]
      first | done | exact Hand.go
  have hh : ¬ kindHas c.ty = true := by rw [c0]; simp
  rw [if_neg hh] at hst
  refine AWp.regionW ?_
  refine AWp.condLM (fun c1 => ?_) (fun c1 => ?_)
  · skip
    have hp : 0 < c.kids.length := by simpa using c1
    rw [if_pos hp] at hst
    refine AWp.regionV ?_
    refine hK3 _ ?_
    refine AWp.seqK fun K15 hK15 => ?_
    refine AWp.regionM fun K16 hK16 => ?_
    refine ARun2.callM (code_c (.code 7)) ?_
    refine ARun2.endm (hK16 _ ?_)
    refine AWp.regionW ?_
    refine AWp.condT ?_ (by first | (simp only [push_cast, ↓reduceIte, Nat.reduceEqDiff, Nat.reduceLT, Nat.reduceAdd, Nat.reduceSub, Nat.reduceMul, Nat.reduceLeDiff, Nat.reducePow, Int.reduceLT, Int.reduceToNat, reduceCtorEq, Int.reduceNeg, Int.reduceEq, Nat.reduceBEq, Nat.reduceBNe, Int.reduceBEq, Int.reduceBNe, String.reduceEq]; done) | (simp only [push_cast, ↓reduceIte, Nat.reduceEqDiff, Nat.reduceLT, Nat.reduceAdd, Nat.reduceSub, Nat.reduceMul, Nat.reduceLeDiff, Nat.reducePow, Int.reduceLT, Int.reduceToNat, reduceCtorEq, Int.reduceNeg, Int.reduceEq, Nat.reduceBEq, Nat.reduceBNe, Int.reduceBEq, Int.reduceBNe, String.reduceEq]; rfl))
    refine AWp.regionW ?_
    refine AWp.ret ?_
    try simp only [thenQ, blockQ, noGo]
    refine bodyQ.m ?_
    clear hK16 K16 hK15 K15 hK3 K3 hK2 K2 hK1 K1
    rw [hC, hst, if_pos (by simp), errA_code (by simp)]; simp only [Er.codeOf]
    first | done | exact Hand.go
  have hp : ¬ 0 < c.kids.length := by simpa using c1
  rw [if_neg hp] at hst
  refine AWp.skip ?_
  refine hK3 _ ?_
  refine AWp.seqK fun K17 hK17 => ?_
  refine AWp.regionM fun K18 hK18 => ?_
  refine ARun2.callM (code_c .ok) ?_
  refine ARun2.endm (hK18 _ ?_)
  refine AWp.regionW ?_
  refine AWp.condF ?_ (by first | (simp only [push_cast, ↓reduceIte, Nat.reduceEqDiff, Nat.reduceLT, Nat.reduceAdd, Nat.reduceSub, Nat.reduceMul, Nat.reduceLeDiff, Nat.reducePow, Int.reduceLT, Int.reduceToNat, reduceCtorEq, Int.reduceNeg, Int.reduceEq, Nat.reduceBEq, Nat.reduceBNe, Int.reduceBEq, Int.reduceBNe, String.reduceEq]; done) | (simp only [push_cast, ↓reduceIte, Nat.reduceEqDiff, Nat.reduceLT, Nat.reduceAdd, Nat.reduceSub, Nat.reduceMul, Nat.reduceLeDiff, Nat.reducePow, Int.reduceLT, Int.reduceToNat, reduceCtorEq, Int.reduceNeg, Int.reduceEq, Nat.reduceBEq, Nat.reduceBNe, Int.reduceBEq, Int.reduceBNe, String.reduceEq]; rfl))
  refine AWp.skip ?_
  refine hK17 _ ?_
  refine AWp.seqK fun K19 hK19 => ?_
  refine AWp.regionW ?_
  refine AWp.block ?_
  have hcls : 0 < c.kids.length → cl = 1 ∨ cl = 2 := fun h => absurd h hp
  rw [hst, if_neg (by simp)] at hC
  refine AWp.loopK0 [1, 5, 48, 49] (fun (i : Nat) => [(50, nat i)]) (fun i => i ≤ c.kids.length ∧ checkL cl 1 (c.kids.take i) = 0) (fun i => c.kids.length - i) (0) ?_ ⟨Nat.zero_le _, rfl⟩ ?_
  · skip
    refine Le.m 2 ?_ ?_
    · exact Go.Abs.evM
    · exact Go.Abs.evN
  · intro i hi K20 hK20
    refine AWp.regionW ?_
    refine AWp.seqK fun K21 hK21 => ?_
    refine AWp.condLM (fun c3 => ?_) (fun c3 => ?_)
    · skip
      have hil : i < c.kids.length := by simpa using c3
      have hm := List.getElem_mem hil
      have hcl2 := hcls (by omega)
      exfalso; omega
    have hil : i = c.kids.length := by have := hi.1; simp at c3; omega
    have hL : checkL cl 1 c.kids = 0 := by have := hi.2; rwa [hil, List.take_length] at this
    subst hil
    rw [hL, if_neg (by simp)] at hC
    refine AWp.exit ?_
    try simp only [thenQ, blockQ, noGo, reduceIte, Nat.reduceEqDiff]
    refine hK19 _ ?_
    refine AWp.seqK fun K22 hK22 => ?_
    refine AWp.regionM fun K23 hK23 => ?_
    refine ARun2.callM (csize_c c hd hs) ?_
    refine ARun2.endm (hK23 _ ?_)
    refine AWp.condLM (fun c5 => ?_) (fun c5 => ?_)
    · skip
      rw [if_pos (by simpa using c5)] at hC
      refine AWp.regionW ?_
      refine AWp.ret ?_
      try simp only [thenQ, blockQ, noGo]
      refine bodyQ.m ?_
      clear hK23 K23 hK22 K22 hK21 K21 hK20 K20 hK19 K19 hK18 K18 hK17 K17 hK3 K3 hK2 K2 hK1 K1
      rw [hC]
      first | done | exact Hand.go
    rw [if_neg (by simpa using c5)] at hC
    refine AWp.skip ?_
    refine hK22 _ ?_
    refine AWp.regionW ?_
    refine AWp.ret ?_
    try simp only [thenQ, blockQ, noGo]
    refine bodyQ.m ?_
    clear hK23 K23 hK22 K22 hK21 K21 hK20 K20 hK19 K19 hK18 K18 hK17 K17 hK3 K3 hK2 K2 hK1 K1
    rw [hC]
    first | done | exact Hand.go
@[push_cast] theorem chunkA_hand (ids : List Nat) (b : Bool) (c : GChunk) : (chunkA b c).hand ids = chunkA false c := by
  simp only [chunkA, AV.hand, AV.handL, bys_hand, nodesA_hand]
theorem cclone_f (c : GChunk) (hd : c.data.length ≤ 2 ^ 40) (hs : szs c.kids ≤ 2 ^ 39) : PC Tryz.prog 41 [chunkA false c] (chunkA true c) := by
  refine PC.of_bodyK (by simp only [push_cast]) Tryz.func41 rfl (by rw [Tryz.ntmps41]; simp) ?_
  refine AWp.regionW ?_
  refine AWp.regionM fun K1 hK1 => ?_
  refine ARun2.callM (nclone_f (.mk 0 [] c.kids) (by simp only [GNode.sz]; simp; omega)) ?_
  refine ARun2.endm (hK1 _ ?_)
  refine AWp.drS [[(1, none)], [(9, some 0)], [(1, none)], [(11, some 2)], [(1, none)], [(13, some 4)], [(14, some 5)], [(3, none)], [(10, some 1), (12, some 3), (15, some 6), (16, some 7)]] fun G hG => ?_
  refine Dr.sim ?_
  try simp only [lca, lna]
  refine Dr.sim ?_
  try simp only [lca, lna]
  refine Dr.sim ?_
  try simp only [lca, lna]
  refine Dr.sim ?_
  try simp only [lca, lna]
  refine Dr.sim ?_
  try simp only [lca, lna]
  refine Dr.sim ?_
  try simp only [lca, lna]
  refine Dr.call (clone_c c.data hd) ?_
  try simp only [lca, lna]
  refine Dr.sim ?_
  try simp only [lca, lna]
  refine Dr.sim ?_
  try simp only [lca, lna]
  refine Dr.finM (n := 9) [(17, 8)] [2] hG Facts.mixed fun KD hKD => ?_
  refine ARun2.endm (hKD _ ?_); clear hKD KD hG G
  refine AWp.ret ?_
  try simp only [thenQ, blockQ, noGo]
  refine bodyQ.m ?_
  clear hK1 K1
  first | done | exact Wk.go
set_option maxRecDepth 100000 in
set_option maxHeartbeats 1000000 in
theorem table11_c : PC Tryz.prog 90 [] (.sl false 7 (kformsA kindForms)) := by
  refine PC.of_bodyW (by simp only [push_cast]) Tryz.func90 rfl (by rw [Tryz.ntmps90]; simp) ?_
  refine AWp.regionW ?_
  refine AWp.regionW ?_
  refine AWp.regionW ?_
  refine AWp.ret ?_
  try simp only [thenQ, blockQ, noGo]
  refine bodyQ.m ?_
  simp only [kformsA, kindForms, List.map_cons, List.map_nil]
  first | done | exact Hand.go
theorem of11_c (t : Nat) : PC Tryz.prog 43 [u8 t] (.tup [kformA (kindOf t), bool (kindHas t)]) := by
  refine PC.of_bodyW (by simp only [push_cast]) Tryz.func43 rfl (by rw [Tryz.ntmps43]; simp) ?_
  refine AWp.regionW ?_
  refine AWp.regionM fun K1 hK1 => ?_
  refine ARun2.callM (table11_c) ?_
  refine ARun2.endm (hK1 _ ?_)
  refine AWp.seqK fun K2 hK2 => ?_
  refine AWp.regionW ?_
  refine AWp.block ?_
  refine AWp.loopK0 [0, 2, 4] (fun (i : Nat) => [(5, nat i)]) (fun i => i ≤ 23 ∧ ∀ m, m < i → (kf m).ty ≠ t) (fun i => 23 - i) (0) ?_ ⟨Nat.zero_le _, fun m h => by omega⟩ ?_
  · skip
    refine Le.m 1 ?_ ?_
    · exact Go.Abs.evM
    · exact Go.Abs.evN
  · intro i hi K3 hK3
    refine AWp.seqK fun K4 hK4 => ?_
    refine AWp.regionW ?_
    refine AWp.condLM (fun c0 => ?_) (fun c0 => ?_)
    · skip
      have hil : i < 23 := by simpa using c0
      refine AWp.skip ?_
      refine hK4 _ ?_
      refine AWp.seqK fun K5 hK5 => ?_
      refine AWp.block ?_
      refine AWp.regionM fun K6 hK6 => ?_
      refine ARun2.indexM (i) (kformA (kf i)) ?_ ?_
      · exact kformsA_kf i hil
      refine ARun2.endm (hK6 _ ?_)
      refine AWp.condLM (fun c1 => ?_) (fun c1 => ?_)
      · skip
        have h1 : (kf i).ty = t := by simpa using c1
        obtain ⟨e1, e2⟩ := kind_at t i hil h1
        refine AWp.regionM fun K7 hK7 => ?_
        refine ARun2.indexM (i) (kformA (kf i)) ?_ ?_
        · exact kformsA_kf i hil
        refine ARun2.endm (hK7 _ ?_)
        refine AWp.ret ?_
        try simp only [thenQ, blockQ, noGo]
        refine bodyQ.m ?_
        clear hK7 K7 hK6 K6 hK5 K5 hK4 K4 hK3 K3 hK2 K2 hK1 K1
        rw [e1, e2]
        first | done | exact Hand.go
      have h1 : (kf i).ty ≠ t := by simpa using c1
      refine AWp.skip ?_
      refine hK5 _ ?_
      refine AWp.regionV ?_
      refine hK3 _ (i + 1) (⟨hil, fun m hm => (Nat.lt_or_ge m i).elim (hi.2 m) (fun h => (show i = m by omega) ▸ h1)⟩) (by omega) ?_
      refine Le.m 1 ?_ ?_
      · exact Go.Abs.evM
      · exact Go.Abs.evN
    have hil : 23 ≤ i := by simpa using c0
    obtain ⟨e1, e2⟩ := kind_none t fun m hm => hi.2 m (by omega)
    refine AWp.exit ?_
    try simp only [thenQ, blockQ, noGo, reduceIte, Nat.reduceEqDiff]
    refine hK2 _ ?_
    refine AWp.regionW ?_
    refine AWp.ret ?_
    try simp only [thenQ, blockQ, noGo]
    refine bodyQ.m ?_
    clear hK4 K4 hK3 K3 hK2 K2 hK1 K1
    rw [e1, e2]; simp only [zeroK]
    first | done | exact Hand.go
theorem fits11_c (f : KForm) (n : Nat) (hn : n < 2 ^ 40) (hl : f.least < 2 ^ 40) (hm : f.most < 2 ^ 40) (hu : 0 < f.unit) (hu2 : f.unit < 2 ^ 40) : PC Tryz.prog 70 [kformA f, nat n] (bool (kfitsN f n)) := by
  refine PC.of_bodyW (by simp only [push_cast]) Tryz.func70 rfl (by rw [Tryz.ntmps70]; simp) ?_
  refine AWp.regionW ?_
  refine AWp.seqK fun K1 hK1 => ?_
  refine AWp.regionW ?_
  refine AWp.block ?_
  refine AWp.loopK [1, 2] (fun (i : Nat) => [(5, nat (f.least + i * f.unit))]) (fun i => [.box 70 [u8 f.ty, .val (.string f.name), u8 f.mask, nat f.least, nat f.most, nat f.unit, nat f.kids]]) (fun i => ∀ j, j < i → f.least + j * f.unit ≠ n) (fun i => f.most + 1 - (f.least + i * f.unit)) (0) ?_ (fun j h => by omega) ?_
  · skip
    refine Le.m 1 ?_ ?_
    · exact Go.Abs.evM
    · simp only [push_cast, ↓reduceIte, Nat.reduceEqDiff, Nat.reduceLT, Nat.reduceAdd, Nat.reduceSub, Nat.reduceMul, Nat.reduceLeDiff, Nat.reducePow, Int.reduceLT, Int.reduceToNat, reduceCtorEq, Int.reduceNeg, Int.reduceEq, Nat.reduceBEq, Nat.reduceBNe, Int.reduceBEq, Int.reduceBNe, String.reduceEq]
      try simp (disch := omega) only [w_nat, w_add, w_addl, w_addr, w_sub, w_subl, w_mul, w_mull, w_mulr, w_u32, w_u16, w_u8, w_u32a, N_zero]
      simp only [Nat.zero_mul, Nat.add_zero]
  · intro i hi K2 hK2
    refine AWp.seqK fun K3 hK3 => ?_
    refine AWp.regionW ?_
    refine AWp.condLM (fun c0 => ?_) (fun c0 => ?_)
    · skip
      have h0 : f.least + i * f.unit ≤ f.most := by simpa using c0
      have hs : (i + 1) * f.unit = i * f.unit + f.unit := by rw [Nat.add_mul, Nat.one_mul]
      refine AWp.skip ?_
      refine hK3 _ ?_
      refine AWp.seqK fun K4 hK4 => ?_
      refine AWp.block ?_
      refine AWp.regionW ?_
      refine AWp.condLM (fun c1 => ?_) (fun c1 => ?_)
      · skip
        have h1 : f.least + i * f.unit = n := by simpa using c1
        have hf : kfitsN f n = true := by
          have e : n - f.least = i * f.unit := by omega
          unfold kfitsN
          rw [e, Nat.mul_mod_left]
          simp
          omega
        refine AWp.regionW ?_
        refine AWp.ret ?_
        try simp only [thenQ, blockQ, noGo]
        refine bodyQ.m ?_
        clear hK4 K4 hK3 K3 hK2 K2 hK1 K1
        rw [hf]
        first | done | exact Hand.go
      have h1 : f.least + i * f.unit ≠ n := by simpa using c1
      refine AWp.skip ?_
      refine hK4 _ ?_
      refine AWp.regionV ?_
      refine hK2 _ (i + 1) ((fun j hj => (Nat.lt_or_ge j i).elim (fun h => hi j h) (fun h => (show j = i by omega) ▸ h1))) (by omega) ?_
      refine Le.m 1 ?_ ?_
      · exact Go.Abs.evM
      · simp only [push_cast, ↓reduceIte, Nat.reduceEqDiff, Nat.reduceLT, Nat.reduceAdd, Nat.reduceSub, Nat.reduceMul, Nat.reduceLeDiff, Nat.reducePow, Int.reduceLT, Int.reduceToNat, reduceCtorEq, Int.reduceNeg, Int.reduceEq, Nat.reduceBEq, Nat.reduceBNe, Int.reduceBEq, Int.reduceBNe, String.reduceEq]
        try simp (disch := omega) only [w_nat, w_add, w_addl, w_addr, w_sub, w_subl, w_mul, w_mull, w_mulr, w_u32, w_u16, w_u8, w_u32a, N_zero]
        rw [hs, ← Nat.add_assoc]
    have h0 : f.most < f.least + i * f.unit := by simpa using c0
    have hf : kfitsN f n = false := by
      unfold kfitsN
      by_cases h2 : f.least ≤ n ∧ n ≤ f.most
      · have h3 : (n - f.least) % f.unit ≠ 0 := by
          intro h3
          obtain ⟨j, hj⟩ := Nat.dvd_of_mod_eq_zero h3
          rw [Nat.mul_comm] at hj
          have hlt : j < i := by
            rcases Nat.lt_or_ge j i with h | h
            · exact h
            · have := Nat.mul_le_mul_right f.unit h
              omega
          exact hi j hlt (by omega)
        simp [h3]
      · rcases Nat.lt_or_ge n f.least with h4 | h4
        · simp; omega
        · simp; omega
    refine AWp.exit ?_
    try simp only [thenQ, blockQ, noGo, reduceIte, Nat.reduceEqDiff]
    refine hK1 _ ?_
    refine AWp.regionW ?_
    refine AWp.ret ?_
    try simp only [thenQ, blockQ, noGo]
    refine bodyQ.m ?_
    clear hK3 K3 hK2 K2 hK1 K1
    rw [hf]
    first | done | exact Hand.go
theorem class11_c (k : Nat) (hk : k ≤ 6) : PC Tryz.prog 44 [nat k] (nat (kinsideN k).1) := by
  have hq : (kinsideN k).1 = if k = 3 ∨ k = 4 then 2 else if 1 ≤ k then 1 else 0 := by
    have h : k = 0 ∨ k = 1 ∨ k = 2 ∨ k = 3 ∨ k = 4 ∨ k = 5 ∨ k = 6 := by omega
    rcases h with rfl | rfl | rfl | rfl | rfl | rfl | rfl <;> rfl
  refine PC.of_bodyW (by simp only [push_cast]) Tryz.func44 rfl (by rw [Tryz.ntmps44]; simp) ?_
  refine AWp.regionW ?_
  refine AWp.seqK fun K1 hK1 => ?_
  refine AWp.regionA fun K2 hK2 => ?_
  refine ARun.segm 3 fun KS hKS => ?_
  refine ARun2.endm (hKS _ ?_); clear hKS KS
  apply ARun.grpM 2 2 false 7 [0, 5]
  · intro g2 KG hKG
    refine ARun2.gom ?_
    exact ARun2.endm (hKG _ Le.grpM)
  refine ARun2.gom ?_
  refine ARun2.endm (hK2 _ ?_)
  refine AWp.condLM (fun c0 => ?_) (fun c0 => ?_)
  · skip
    refine AWp.regionW ?_
    refine AWp.ret ?_
    try simp only [thenQ, blockQ, noGo]
    refine bodyQ.m ?_
    clear hK2 K2 hK1 K1
    rw [hq, if_pos (by simpa using c0)]
    first | done | exact Hand.go
  refine AWp.skip ?_
  refine hK1 _ ?_
  refine AWp.seqK fun K3 hK3 => ?_
  refine AWp.regionA fun K4 hK4 => ?_
  refine ARun.segm 3 fun KS hKS => ?_
  refine ARun2.endm (hKS _ ?_); clear hKS KS
  apply ARun.grpM 2 2 true 13 [11]
  · intro g2 KG hKG
    refine ARun2.gom ?_
    exact ARun2.endm (hKG _ Le.grpM)
  refine ARun2.gom ?_
  refine ARun2.endm (hK4 _ ?_)
  refine AWp.condLM (fun c1 => ?_) (fun c1 => ?_)
  · skip
    refine AWp.regionW ?_
    refine AWp.ret ?_
    try simp only [thenQ, blockQ, noGo]
    refine bodyQ.m ?_
    clear hK4 K4 hK3 K3 hK2 K2 hK1 K1
    rw [hq, if_neg (by simpa using c0), if_pos (by simp at c1; omega)]
    first | done | exact Hand.go
  refine AWp.skip ?_
  refine hK3 _ ?_
  refine AWp.regionW ?_
  refine AWp.ret ?_
  try simp only [thenQ, blockQ, noGo]
  refine bodyQ.m ?_
  clear hK4 K4 hK3 K3 hK2 K2 hK1 K1
  rw [hq, if_neg (by simpa using c0), if_neg (by simp at c1; omega)]
  first | done | exact Hand.go
theorem kk_ref (q n y : Nat) (hq : q ≤ 6) : (decide ((kinsideN q).2.1 ≤ n) && decide (n ≤ (kinsideN q).2.2) && (q != 1 || y == 1) && (q != 6 || (y == 5 || y == 6))) =
    if q = 0 then n == 0 else if q = 1 then (n == 1 && y == 1) else if q = 4 then (decide (1 ≤ n) && decide (n ≤ 16384)) else if q = 5 then (n == 1 || n == 2) else if q = 6 then (decide (2 ≤ n) && decide (n ≤ 16384) && (y == 5 || y == 6)) else decide (n ≤ 16384) := by
  have h : q = 0 ∨ q = 1 ∨ q = 2 ∨ q = 3 ∨ q = 4 ∨ q = 5 ∨ q = 6 := by omega
  rcases h with rfl | rfl | rfl | rfl | rfl | rfl | rfl <;> rw [Bool.eq_iff_iff] <;> simp [kinsideN] <;> omega
theorem wanted12_c (k : KForm) (l : List GNode) (hk : k.kids ≤ 6) (hl : l.length ≤ 2 ^ 40) : PC Tryz.prog 71 [kformA k, .sl false 3 (nodesA false l)] (bool (kkidsOk k l)) := by
  have hq : kkidsOk k l = _ := kk_ref k.kids l.length (l.headD default).ty hk
  refine PC.of_bodyW (by simp only [push_cast]) Tryz.func71 rfl (by rw [Tryz.ntmps71]; simp) ?_
  refine AWp.regionW ?_
  refine AWp.regionW ?_
  refine AWp.seqK fun K1 hK1 => ?_
  refine AWp.regionW ?_
  refine AWp.block ?_
  refine AWp.regionW ?_
  refine AWp.condLM (fun c0 => ?_) (fun c0 => ?_)
  · skip
    have h0 : k.kids = 0 := by simpa using c0
    rw [if_pos h0] at hq
    refine AWp.regionW ?_
    refine AWp.ret ?_
    try simp only [thenQ, blockQ, noGo]
    refine bodyQ.m ?_
    clear hK1 K1
    rw [hq]
    first | done | exact Hand.go
  have h0 : ¬ k.kids = 0 := by simpa using c0
  rw [if_neg h0] at hq
  refine AWp.regionW ?_
  refine AWp.condLM (fun c1 => ?_) (fun c1 => ?_)
  · skip
    rw [if_pos (by simpa using c1)] at hq
    refine AWp.regionA fun K2 hK2 => ?_
    refine ARun.segm 3 fun KS hKS => ?_
    refine ARun2.endm (hKS _ ?_); clear hKS KS
    apply ARun.grpM 5 2 true 23 [18]
    · intro g2 KG hKG
      have hn : 0 < l.length := by simp at g2; omega
      refine ARun2.gom ?_
      refine ARun2.indexM (0) (nodeA false (l.headD default)) ?_ ?_
      · exact nodesA_head false l hn
      exact ARun2.endm (hKG _ Le.grpM)
    refine ARun2.gom ?_
    refine ARun2.endm (hK2 _ ?_)
    refine AWp.ret ?_
    try simp only [thenQ, blockQ, noGo]
    refine bodyQ.m ?_
    clear hK2 K2 hK1 K1
    rw [hq]
    first | done | exact Hand.go
  rw [if_neg (by simpa using c1)] at hq
  refine AWp.regionW ?_
  refine AWp.condLM (fun c2 => ?_) (fun c2 => ?_)
  · skip
    rw [if_pos (by simpa using c2)] at hq
    refine AWp.regionA fun K3 hK3 => ?_
    refine ARun.segm 3 fun KS hKS => ?_
    refine ARun2.endm (hKS _ ?_); clear hKS KS
    apply ARun.grpM 2 2 true 31 [29]
    · intro g2 KG hKG
      refine ARun2.gom ?_
      exact ARun2.endm (hKG _ Le.grpM)
    refine ARun2.gom ?_
    refine ARun2.endm (hK3 _ ?_)
    refine AWp.ret ?_
    try simp only [thenQ, blockQ, noGo]
    refine bodyQ.m ?_
    clear hK3 K3 hK1 K1
    rw [hq]
    first | done | exact Hand.go
  rw [if_neg (by simpa using c2)] at hq
  refine AWp.regionW ?_
  refine AWp.condLM (fun c3 => ?_) (fun c3 => ?_)
  · skip
    rw [if_pos (by simpa using c3)] at hq
    refine AWp.regionA fun K4 hK4 => ?_
    refine ARun.segm 3 fun KS hKS => ?_
    refine ARun2.endm (hKS _ ?_); clear hKS KS
    apply ARun.grpM 2 2 false 39 [37]
    · intro g2 KG hKG
      refine ARun2.gom ?_
      exact ARun2.endm (hKG _ Le.grpM)
    refine ARun2.gom ?_
    refine ARun2.endm (hK4 _ ?_)
    refine AWp.ret ?_
    try simp only [thenQ, blockQ, noGo]
    refine bodyQ.m ?_
    clear hK4 K4 hK1 K1
    rw [hq]
    first | done | exact Hand.go
  rw [if_neg (by simpa using c3)] at hq
  refine AWp.regionW ?_
  refine AWp.condLM (fun c4 => ?_) (fun c4 => ?_)
  · skip
    rw [if_pos (by simpa using c4)] at hq
    refine AWp.regionA fun K5 hK5 => ?_
    refine ARun.segm 3 fun KS hKS => ?_
    refine ARun2.endm (hKS _ ?_); clear hKS KS
    apply ARun.grpM 2 2 true 47 [1, 45]
    · intro g2 KG hKG
      refine ARun2.gom ?_
      exact ARun2.endm (hKG _ Le.grpM)
    refine ARun.segm 2 fun KS hKS => ?_
    refine ARun2.endm (hKS _ ?_); clear hKS KS
    apply ARun.grpM 12 6 true 61 [49]
    · intro g6 KG hKG
      have hn : 0 < l.length := by simp at g6; omega
      refine ARun.segm 6 fun KS hKS => ?_
      refine ARun2.indexM (0) (nodeA false (l.headD default)) ?_ ?_
      · exact nodesA_head false l hn
      refine ARun2.endm (hKS _ ?_); clear hKS KS
      apply ARun.grpM 5 12 false 60 [49, 55]
      · intro g12 KG hKG
        refine ARun2.gom ?_
        refine ARun2.indexM (0) (nodeA false (l.headD default)) ?_ ?_
        · exact nodesA_head false l hn
        exact ARun2.endm (hKG _ Le.grpM)
      refine ARun2.gom ?_
      exact ARun2.endm (hKG _ Le.grpM)
    refine ARun2.gom ?_
    refine ARun2.endm (hK5 _ ?_)
    refine AWp.ret ?_
    try simp only [thenQ, blockQ, noGo]
    refine bodyQ.m ?_
    clear hK5 K5 hK1 K1
    rw [hq]
    first | done | exact Hand.go
  rw [if_neg (by simpa using c4)] at hq
  refine AWp.skip ?_
  refine hK1 _ ?_
  refine AWp.regionW ?_
  refine AWp.ret ?_
  try simp only [thenQ, blockQ, noGo]
  refine bodyQ.m ?_
  clear hK1 K1
  rw [hq]
  first | done | exact Hand.go
theorem number12_c (d : List UInt8) (i : Nat) (hd : d.length ≤ 2 ^ 40) (hi : i + 2 ≤ d.length) : PC Tryz.prog 113 [.sl false 1 (bys d), nat i] (nat (peekN 2 d i)) := by
  have hp := peek_bytes d i hi
  have h1 := (d[i]'(by omega)).toNat_lt
  have h2 := (d[i + 1]'(by omega)).toNat_lt
  refine PC.of_bodyW (by simp only [push_cast]) Tryz.func113 rfl (by rw [Tryz.ntmps113]; simp) ?_
  refine AWp.regionW ?_
  refine AWp.drS [[(0, none)], [(1, none)], [(5, some 0), (6, some 1)], [(7, some 2)], [(8, some 3)], [(9, some 4)], [(0, none)], [(1, none)], [(12, some 7)], [(11, some 6), (13, some 8)], [(14, some 9)], [(15, some 10)], [(10, some 5), (16, some 11)], [(17, some 12)]] fun G hG => ?_
  refine Dr.sim ?_
  try simp only [lca, lna]
  refine Dr.sim ?_
  try simp only [lca, lna]
  refine Dr.idx (i) (.val (.int .u8 (N (d[i]'(by omega)).toNat))) ?_ ?_
  · exact bys_at _ _ (by omega)
  try simp only [lca, lna]
  refine Dr.sim ?_
  try simp only [lca, lna]
  refine Dr.sim ?_
  try simp only [lca, lna]
  refine Dr.sim ?_
  try simp only [lca, lna]
  refine Dr.sim ?_
  try simp only [lca, lna]
  refine Dr.sim ?_
  try simp only [lca, lna]
  refine Dr.sim ?_
  try simp only [lca, lna]
  refine Dr.idx (i + 1) (.val (.int .u8 (N (d[i + 1]'(by omega)).toNat))) ?_ ?_
  · exact bys_at _ _ (by omega)
  try simp only [lca, lna]
  refine Dr.sim ?_
  try simp only [lca, lna]
  refine Dr.sim ?_
  try simp only [lca, lna]
  refine Dr.sim ?_
  try simp only [lca, lna]
  refine Dr.sim ?_
  try simp only [lca, lna]
  refine Dr.finM (n := 14) [(4, 13)] [] hG Facts.mixed fun KD hKD => ?_
  refine ARun2.endm (hKD _ ?_); clear hKD KD hG G
  refine AWp.ret ?_
  try simp only [thenQ, blockQ, noGo]
  refine bodyQ.m ?_
  rw [hp, Nat.mul_comm]
  first | done | exact Hand.go
theorem counted12_c (c : GChunk) (hd : c.data.length ≤ 2 ^ 40) (h : c.ty = 3 → 12 ≤ c.data.length ∧ (c.data.length - 12) % 4 = 0) : PC Tryz.prog 72 [u8 c.ty, .sl false 1 (bys c.data)] (bool (!sackBad c)) := by
  have p1 := peek2_lt c.data 8
  have p2 := peek2_lt c.data 10
  have hs : (c.ty != 3 || 4 * (peekN 2 c.data 8 + peekN 2 c.data 10) == c.data.length - 12) = !sackBad c := by
    unfold sackBad
    by_cases h3 : c.ty = 3
    · have := h h3
      rw [Bool.eq_iff_iff]; simp [h3]; omega
    · have e : (c.ty == 3) = false := by simpa using h3
      simp [bne, e]
  refine PC.of_bodyW (by simp only [push_cast]) Tryz.func72 rfl (by rw [Tryz.ntmps72]; simp) ?_
  refine AWp.regionW ?_
  refine AWp.regionA fun K1 hK1 => ?_
  refine ARun.segm 3 fun KS hKS => ?_
  refine ARun2.endm (hKS _ ?_); clear hKS KS
  apply ARun.grpM 10 2 false 17 [7]
  · intro g2 KG hKG
    have h3 : c.ty = 3 := by simpa using g2
    have hl := h h3
    refine ARun2.gom ?_
    refine ARun2.callM (number12_c c.data 8 hd (by omega)) ?_
    refine ARun2.callM (number12_c c.data 10 hd (by omega)) ?_
    exact ARun2.endm (hKG _ Le.grpM)
  refine ARun2.gom ?_
  refine ARun2.endm (hK1 _ ?_)
  refine AWp.ret ?_
  try simp only [thenQ, blockQ, noGo]
  refine bodyQ.m ?_
  clear hK1 K1
  rw [← hs]
  first | done | exact Hand.go
def oddI (c : GChunk) : Int := match oddN c with
  | some i => N i
  | none => -1
theorem odd12_c (c : GChunk) (hd : c.data.length ≤ 2 ^ 40) (h64 : c.ty = 64 → 17 ≤ c.data.length) (h194 : c.ty = 194 → 4 ≤ c.data.length ∧ (c.data.length - 4) % 8 = 0) :
    PC Tryz.prog 73 [u8 c.ty, .sl false 1 (bys c.data)] (.val (.int .i64 (oddI c))) := by
  refine PC.of_bodyW (by simp only [push_cast]) Tryz.func73 rfl (by rw [Tryz.ntmps73]; simp) ?_
  refine AWp.regionW ?_
  refine AWp.seqK fun K1 hK1 => ?_
  refine AWp.regionA fun K2 hK2 => ?_
  refine ARun.segm 3 fun KS hKS => ?_
  refine ARun2.endm (hKS _ ?_); clear hKS KS
  apply ARun.grpM 3 2 true 11 [0, 1, 8]
  · intro g2 KG hKG
    have h3 : c.ty = 64 := by simpa using g2
    have hl := h64 h3
    refine ARun2.gom ?_
    refine ARun2.callM (number12_c c.data 6 hd (by omega)) ?_
    exact ARun2.endm (hKG _ Le.grpM)
  refine ARun2.gom ?_
  refine ARun2.endm (hK2 _ ?_)
  refine AWp.condLM (fun c0 => ?_) (fun c0 => ?_)
  · skip
    have hr : oddI c = 6 := by
      simp at c0
      unfold oddI oddN; rw [if_pos c0.1, if_pos c0.2]; rfl
    refine AWp.regionW ?_
    refine AWp.ret ?_
    try simp only [thenQ, blockQ, noGo]
    refine bodyQ.m ?_
    clear hK2 K2 hK1 K1
    rw [hr]
    first | done | exact Hand.go
  have hq : oddN c = if c.ty = 194 then oddAt c.data c.data.length 4 else none := by
    unfold oddN
    by_cases h3 : c.ty = 64
    · have hp : peekN 2 c.data 6 = 0 := by simp [h3] at c0; exact c0
      rw [if_pos h3, if_neg (by rw [hp]; simp), if_neg (by omega)]
    · rw [if_neg h3]
  refine AWp.skip ?_
  refine hK1 _ ?_
  refine AWp.seqK fun K3 hK3 => ?_
  refine AWp.regionW ?_
  refine AWp.block ?_
  refine AWp.loopK0 [0, 1] (fun (g : Nat × Nat) => [(5, nat (g.2 + 2))]) (fun g => (c.ty = 194 → oddAt c.data c.data.length 4 = oddAt c.data g.1 g.2 ∧ g.2 ≤ c.data.length ∧ (c.data.length - g.2) % 8 = 0 ∧ c.data.length - g.2 ≤ g.1)) (fun g => c.data.length - g.2) ((c.data.length, 4)) ?_ (fun h => ⟨rfl, (h194 h).1, (h194 h).2, Nat.sub_le _ _⟩) ?_
  · skip
    refine Le.m 0 ?_ ?_
    · exact Go.Abs.evM
    · exact Go.Abs.evN
  · intro g hg K4 hK4
    obtain ⟨q, i⟩ := g
    dsimp only at hg ⊢
    refine AWp.seqK fun K5 hK5 => ?_
    refine AWp.regionA fun K6 hK6 => ?_
    refine ARun.segm 3 fun KS hKS => ?_
    refine ARun2.endm (hKS _ ?_); clear hKS KS
    apply ARun.grpM 4 2 true 19 [0, 1, 5, 15]
    · intro g2 KG hKG
      have h4 : c.ty = 194 := by simpa using g2
      have hgg := hg h4
      refine ARun2.gom ?_
      exact ARun2.endm (hKG _ Le.grpM)
    refine ARun2.gom ?_
    refine ARun2.endm (hK6 _ ?_)
    refine AWp.condLM (fun c1 => ?_) (fun c1 => ?_)
    · skip
      have h4 : c.ty = 194 ∧ i + 2 < c.data.length := by simpa using c1
      obtain ⟨hg1, hg2, hg3, hg4⟩ := hg h4.1
      obtain ⟨q, rfl⟩ : ∃ q', q = q' + 1 := ⟨q - 1, by omega⟩
      rw [oddAt, if_pos (by omega)] at hg1
      refine AWp.skip ?_
      refine hK5 _ ?_
      refine AWp.seqK fun K7 hK7 => ?_
      refine AWp.block ?_
      refine AWp.regionM fun K8 hK8 => ?_
      refine ARun2.callM (number12_c c.data (i + 2) hd (by omega)) ?_
      refine ARun2.endm (hK8 _ ?_)
      refine AWp.condLM (fun c2 => ?_) (fun c2 => ?_)
      · skip
        have hp : 1 < peekN 2 c.data (i + 2) := by simpa using c2
        rw [if_pos hp] at hg1
        have hr : oddI c = N (i + 2) := by unfold oddI; rw [hq, if_pos h4.1, hg1]
        refine AWp.regionW ?_
        refine AWp.ret ?_
        try simp only [thenQ, blockQ, noGo]
        refine bodyQ.m ?_
        clear hK8 K8 hK7 K7 hK6 K6 hK5 K5 hK4 K4 hK3 K3 hK2 K2 hK1 K1
        rw [hr]
        first | done | exact Hand.go
      have hp : ¬ 1 < peekN 2 c.data (i + 2) := by simpa using c2
      rw [if_neg hp] at hg1
      refine AWp.skip ?_
      refine hK7 _ ?_
      refine AWp.regionV ?_
      refine hK4 _ ((q, i + 8)) ((fun _ => ⟨hg1, by show i + 8 ≤ _; omega, by show (c.data.length - (i + 8)) % 8 = 0; omega, by show c.data.length - (i + 8) ≤ q; omega⟩)) (by show c.data.length - (i + 8) < c.data.length - i; omega) ?_
      refine Le.m 0 ?_ ?_
      · exact Go.Abs.evM
      · exact Go.Abs.evN
    have hr : oddI c = -1 := by
      unfold oddI; rw [hq]
      by_cases h4 : c.ty = 194
      · obtain ⟨hg1, hg2, hg3, hg4⟩ := hg h4
        simp [h4] at c1
        rw [if_pos h4, hg1]
        cases q with
        | zero => rfl
        | succ q => rw [oddAt, if_neg (by omega)]
      · rw [if_neg h4]
    refine AWp.exit ?_
    try simp only [thenQ, blockQ, noGo, reduceIte, Nat.reduceEqDiff]
    refine hK3 _ ?_
    refine AWp.regionW ?_
    refine AWp.ret ?_
    try simp only [thenQ, blockQ, noGo]
    refine bodyQ.m ?_
    clear hK6 K6 hK5 K5 hK4 K4 hK3 K3 hK2 K2 hK1 K1
    rw [hr]
    first | done | exact Hand.go
set_option maxRecDepth 100000 in
theorem mask_ref : ((List.range 256).all fun f => [0, 1, 15].all fun m => (bitsV .and .i64 (N f) (N (255 - m)) != 0) == maskBad f m) = true := by kernel_rfl
theorem mask_eq (f m : Nat) (hf : f < 256) (hm : m = 0 ∨ m = 1 ∨ m = 15) : (bitsV .and .i64 (N f) (N (255 - m)) != 0) = maskBad f m := by
  have h := List.all_eq_true.1 mask_ref f (by simpa using hf)
  have h2 := List.all_eq_true.1 h m (by simpa using hm)
  simpa using h2
theorem fits_facts {c : GChunk} (h : kfitsN (kindOf c.ty) c.data.length = true) : (c.ty = 3 → 12 ≤ c.data.length ∧ (c.data.length - 12) % 4 = 0) ∧ (c.ty = 64 → 17 ≤ c.data.length) ∧ (c.ty = 194 → 4 ≤ c.data.length ∧ (c.data.length - 4) % 8 = 0) := by
  unfold kfitsN at h
  simp only [Bool.and_eq_true, decide_eq_true_eq, beq_iff_eq] at h
  obtain ⟨⟨h1, h2⟩, h3⟩ := h
  refine ⟨fun e => ?_, fun e => ?_, fun e => ?_⟩
  · rw [e] at h1 h3; exact ⟨h1, h3⟩
  · rw [e] at h1; exact h1
  · rw [e] at h1 h3; exact ⟨h1, h3⟩
theorem sumUp_ge : ∀ (l : List Nat) (s : Nat), s + l.sum ≤ sumUp s l
  | [], s => by simp [sumUp]
  | n :: l, s => by
    have := sumUp_ge l (upN s + n)
    simp only [sumUp, List.sum_cons, upN] at *
    omega
mutual
theorem sz_vlen : ∀ n : GNode, n.sz ≤ vlen n + 1
  | .mk t d k => by
    have h1 := szs_nLens k
    have h2 := sumUp_ge ((nLens k).map (4 + ·)) 0
    simp only [GNode.sz, vlen, tlvSize]
    omega
theorem szs_nLens : ∀ l : List GNode, szs l ≤ ((nLens l).map (4 + ·)).sum
  | [] => Nat.zero_le _
  | n :: l => by
    have h1 := sz_vlen n
    have h2 := szs_nLens l
    simp only [szs, nLens, List.map_cons, List.sum_cons]
    omega
end
theorem szs_nSize (l : List GNode) : szs l ≤ nSize l := by
  have h1 := szs_nLens l
  have h2 := sumUp_ge ((nLens l).map (4 + ·)) 0
  simp only [nSize, tlvSize]
  omega
end Go.Proofs.YtokbbdodbjiciaaGreatDoor.C
namespace Go.Abs
set_option linter.unusedSectionVars false
section
variable {P : Program} {ops : Array Oper} {E : Env} {s s' : AS} {ρ σ : List Value} {B : Nat → Prop} {a : Act} {w w' : World} {o : Oper} {rest : List Oper} {Q : AS → Prop} {R : Exit → AS → Prop}
variable {nds : List (List (Nat × Option Nat))} {vals : List AV} {G : Prop}
end
end Go.Abs
namespace Go.Proofs.YtokbbdodbjiciaaGreatDoor.C
open Go.Abs
theorem nSize_szs2 (l : List GNode) : nSize l ≤ 8 * szs l + 8 := by
  have h := nSize_sz (.mk 0 [] l)
  have e := vlen_eq (.mk 0 [] l)
  have e1 : nSize [GNode.mk 0 [] l] = 4 + vlen (.mk 0 [] l) := by simp [nSize, nLens, tlvSize, sumUp, upN, gapN]
  simp only [GNode.data, GNode.kids, List.length_nil] at e
  rw [e1, e, GNode.sz, List.length_nil] at h
  omega
structure Small (c : GChunk) : Prop where
  ty : c.ty < 256
  flags : c.flags < 256
  data : c.data.length ≤ 2 ^ 26
  kids : szs c.kids ≤ 2 ^ 26
theorem Small.check {c : GChunk} (h : Small c) : PC Tryz.prog 85 [chunkA false c] (errA (checkC c)) :=
  ccheck_c c h.ty (Nat.le_trans h.data (by decide)) (by have := nSize_szs2 c.kids; have := h.kids; omega)
theorem Small.clone {c : GChunk} (h : Small c) : PC Tryz.prog 41 [chunkA false c] (chunkA true c) :=
  cclone_f c (Nat.le_trans h.data (by decide)) (Nat.le_trans h.kids (by decide))
theorem small_zero : Small .zero := ⟨by decide, by decide, by decide, by decide⟩
def sameC (a b : GChunk) : Bool := a.ty == b.ty && a.flags == b.flags && decide (a.data = b.data) && sameL a.kids b.kids
theorem sameC_self (a : GChunk) : sameC a a = true := by
  unfold sameC; rw [(sameL_iff _ _).2 rfl]; simp
theorem same12_c (a b : GChunk) (hd : a.data.length ≤ 2 ^ 40) (hs : szs a.kids ≤ 2 ^ 40) : PC Tryz.prog 16 [chunkA false a, chunkA false b] (bool (sameC a b)) := by
  refine PC.of_bodyW (by simp only [push_cast]) Tryz.func16 rfl (by rw [Tryz.ntmps16]; simp) ?_
  refine AWp.regionW ?_
  refine AWp.regionA fun K1 hK1 => ?_
  refine ARun.segm 6 fun KS hKS => ?_
  refine ARun2.endm (hKS _ ?_); clear hKS KS
  apply ARun.grpM 5 5 true 15 [2, 3, 10]
  · intro g5 KG hKG
    refine ARun2.gom ?_
    exact ARun2.endm (hKG _ Le.grpM)
  refine ARun.segm 2 fun KS hKS => ?_
  refine ARun2.endm (hKS _ ?_); clear hKS KS
  apply ARun.grpM 5 12 true 22 [2, 3, 17]
  · intro g12 KG hKG
    refine ARun2.gom ?_
    refine ARun2.callM (same01_c a.data b.data hd) ?_
    exact ARun2.endm (hKG _ Le.grpM)
  refine ARun.segm 2 fun KS hKS => ?_
  refine ARun2.endm (hKS _ ?_); clear hKS KS
  apply ARun.grpM 5 19 true 29 [24]
  · intro g19 KG hKG
    refine ARun2.gom ?_
    refine ARun2.callM (same08_c a.kids b.kids hs) ?_
    exact ARun2.endm (hKG _ Le.grpM)
  refine ARun2.gom ?_
  refine ARun2.endm (hK1 _ ?_)
  refine AWp.ret ?_
  try simp only [thenQ, blockQ, noGo]
  refine bodyQ.m ?_
  clear hK1 K1
  simp only [sameC]
  first | done | exact Hand.go
theorem Small.same {a b : GChunk} (h : Small a) : PC Tryz.prog 16 [chunkA false a, chunkA false b] (bool (sameC a b)) :=
  same12_c a b (Nat.le_trans h.data (by decide)) (Nat.le_trans h.kids (by decide))
def rightC (c : GChunk) (ok : Bool) : GChunk × Bool := bif ok && (checkC c == 0) then (c, true) else (.zero, false)
@[push_cast] theorem errA_nil (e : Nat) : nilIs .ifc (errA e) = some (e == 0) := nilIs_err e
theorem cright_c (c : GChunk) (ok : Bool) (h : Small c) : PC Tryz.prog 68 [chunkA false c, bool ok] (.tup [chunkA true (rightC c ok).1, bool (rightC c ok).2]) := by
  refine PC.of_bodyK (by simp only [push_cast]) Tryz.func68 rfl (by rw [Tryz.ntmps68]; simp) ?_
  refine AWp.regionW ?_
  refine AWp.seqK fun K1 hK1 => ?_
  refine AWp.regionA fun K2 hK2 => ?_
  refine ARun.segm 3 fun KS hKS => ?_
  refine ARun2.endm (hKS _ ?_); clear hKS KS
  apply ARun.grpM 3 2 false 11 [2, 4, 8]
  · intro g2 KG hKG
    refine ARun2.gom ?_
    refine ARun2.callM (h.check) ?_
    exact ARun2.endm (hKG _ Le.grpM)
  refine ARun2.gom ?_
  refine ARun2.endm (hK2 _ ?_)
  refine AWp.condLM (fun c0 => ?_) (fun c0 => ?_)
  · skip
    have h0 : rightC c ok = (.zero, false) := by unfold rightC; cases ok <;> cases h : checkC c == 0 <;> simp_all
    refine AWp.regionW ?_
    refine AWp.ret ?_
    try simp only [thenQ, blockQ, noGo]
    refine bodyQ.m ?_
    clear hK2 K2 hK1 K1
    rw [h0]
    simp only [GChunk.zero]
    first | done | exact Wk.go
  have h0 : rightC c ok = (c, true) := by unfold rightC; cases ok <;> cases h : checkC c == 0 <;> simp_all
  refine AWp.skip ?_
  refine hK1 _ ?_
  refine AWp.regionM fun K3 hK3 => ?_
  refine ARun2.callM (h.clone) ?_
  refine ARun2.endm (hK3 _ ?_)
  refine AWp.ret ?_
  try simp only [thenQ, blockQ, noGo]
  refine bodyQ.m ?_
  clear hK3 K3 hK2 K2 hK1 K1
  rw [h0]
  simp only [GChunk.zero]
  first | done | exact Wk.go
def reportC (l : List GNode) : GChunk := ⟨9, 0, [], l⟩
theorem small_report {l : List GNode} (hl : szs l ≤ 2 ^ 26) : Small (reportC l) := ⟨by simp [reportC], by simp [reportC], by simp [reportC], hl⟩
theorem creport_c (l : List GNode) (hl : szs l ≤ 2 ^ 26) : PC Tryz.prog 64 [.sl false 3 (nodesA false l)] (.tup [chunkA true (rightC (reportC l) true).1, bool (rightC (reportC l) true).2]) := by
  have hr := cright_c (reportC l) true (small_report hl)
  generalize rightC (reportC l) true = R at hr
  refine PC.of_bodyK (by simp only [push_cast]) Tryz.func64 rfl (by rw [Tryz.ntmps64]; simp) ?_
  refine AWp.regionW ?_
  refine AWp.regionM fun K1 hK1 => ?_
  refine ARun2.callM (hr) ?_
  refine ARun2.endm (hK1 _ ?_)
  refine AWp.ret ?_
  try simp only [thenQ, blockQ, noGo]
  refine bodyQ.m ?_
  clear hK1 K1
  first | done | exact Wk.go
def chunksA (b : Bool) (l : List GChunk) : List AV := l.map (chunkA b)
@[push_cast] theorem chunksA_len (b : Bool) (l : List GChunk) : (chunksA b l).length = l.length := by simp [chunksA]
theorem chunksA_at (b : Bool) (l : List GChunk) (i : Nat) (h : i < l.length) : (chunksA b l)[i]? = some (chunkA b l[i]) := by simp [chunksA, h]
@[push_cast] theorem chunksA_nil (b : Bool) : chunksA b [] = [] := rfl
@[push_cast] theorem chunksA_cons (b : Bool) (c : GChunk) (l : List GChunk) : chunksA b (c :: l) = chunkA b c :: chunksA b l := rfl
theorem chunksA_snoc (b : Bool) (l : List GChunk) (c : GChunk) : chunksA b (l ++ [c]) = chunksA b l ++ [chunkA b c] := by simp [chunksA]
theorem chunkA_ids (p : Nat → Bool) (b : Bool) (c : GChunk) : (chunkA b c).idsOk p = true := by
  simp only [chunkA, AV.idsOk, AV.idsOkL, bys_ids, nodesA_ids, Bool.and_self]
@[push_cast] theorem chunksA_ids (p : Nat → Bool) (b : Bool) (l : List GChunk) : AV.idsOkL p (chunksA b l) = true := by
  rw [AV.idsOkL_iff]; intro x hx; simp only [chunksA, List.mem_map] at hx; obtain ⟨c, _, rfl⟩ := hx; exact chunkA_ids p b c
@[push_cast] theorem chunksA_hand (ids : List Nat) (b : Bool) (l : List GChunk) : AV.handL ids (chunksA b l) = chunksA false l := by
  rw [AV.handL_map, chunksA, List.map_map]
  exact List.map_congr_left fun c _ => chunkA_hand ids b c
@[push_cast] theorem chunksA_pl (l : List GChunk) : AV.plL (chunksA false l) = true := by
  rw [AV.plL_iff]; intro x hx; simp only [chunksA, List.mem_map] at hx; obtain ⟨c, _, rfl⟩ := hx
  simp only [chunkA, AV.pl, AV.plL, bys_pl, nodesA_pl, Bool.and_self, Bool.not_false, Bool.and_true]
@[push_cast] theorem chunksA_fresh (l : List GChunk) : AV.freshL (chunksA true l) = true := by
  induction l with
  | nil => rfl
  | cons c l ih => simp only [chunksA_cons, chunkA, AV.freshL, AV.fresh, bys_fresh, nodesA_fresh, ih, Bool.and_self]
@[push_cast] theorem chunksA_ren (φ : Nat → Nat) (b : Bool) (l : List GChunk) : AV.renL φ (chunksA b l) = chunksA b l := AV.renL_closed φ _ (chunksA_ids _ b l)
@[push_cast] theorem chunksA_drop (b : Bool) (l : List GChunk) (k : Nat) : (chunksA b l).drop k = chunksA b (l.drop k) := by simp [chunksA]
@[push_cast] theorem chunksA_take (b : Bool) (l : List GChunk) (k : Nat) : (chunksA b l).take k = chunksA b (l.take k) := by simp [chunksA]
theorem all_c (b : List UInt8) : PC Tryz.prog 168 [.sl false 1 (bys b)] (.fn (.func 188) [] [.ref true (.agg [.sl false 1 (bys b)])]) := by
  refine PC.of_body (by simp only [push_cast]) Tryz.func168 rfl (by rw [Tryz.ntmps168]; simp) ?_
  refine AWp.regionW ?_
  refine AWp.regionW ?_
  refine AWp.pubBox 0 rfl (Nat.le_refl _) rfl (by simp) ?_
  refine Go.Abs.evS2 ?_
  refine AWp.ret ?_
  try simp only [thenQ, blockQ, noGo]
  refine bodyQ.m ?_
  rfl
def putF (f : Frm) : List UInt8 := putB 2 f.ty ++ putB 2 (4 + f.val.length) ++ f.val
theorem putF_len (f : Frm) : (putF f).length = 4 + f.val.length := by simp [putF, putB_len]; omega
def fitF (f : Frm) : Bool := decide (f.val.length ≤ 65531)
theorem put_c (f : Frm) (ht : f.ty < 65536) (hl : f.val.length ≤ 2 ^ 38) : PC Tryz.prog 176 [frmA false f] (.tup [.sl true 1 (bys (if fitF f = true then putF f else [])), bool (fitF f)]) := by
  refine PC.of_bodyK (by simp only [push_cast]) Tryz.func176 rfl (by rw [Tryz.ntmps176]; simp) ?_
  refine AWp.regionW ?_
  refine AWp.seqK fun K1 hK1 => ?_
  refine AWp.regionW ?_
  refine AWp.condLM (fun c0 => ?_) (fun c0 => ?_)
  · skip
    have hf : fitF f = false := by simp at c0; unfold fitF; exact decide_eq_false (by omega)
    refine AWp.regionW ?_
    refine AWp.ret ?_
    try simp only [thenQ, blockQ, noGo]
    refine bodyQ.m ?_
    clear hK1 K1
    rw [hf]; simp only [if_true, if_false, reduceCtorEq, Bool.false_eq_true]
    first | done | exact Wk.go
  have hle : f.val.length ≤ 65531 := by simp at c0; exact c0
  have hf : fitF f = true := decide_eq_true hle
  have hp := wire_put 2 [f.ty, 4 + f.val.length] (by omega) (by intro x hx; simp at hx; omega) (by simp)
  rw [show [f.ty, 4 + f.val.length].flatMap (putB 2) = putB 2 f.ty ++ putB 2 (4 + f.val.length) by simp] at hp
  have hj := wjoin_c [putB 2 f.ty ++ putB 2 (4 + f.val.length), f.val] (by simp [lens, putB_len]; omega) (by simp)
  rw [show [putB 2 f.ty ++ putB 2 (4 + f.val.length), f.val].flatten = putF f by simp [putF]] at hj
  refine AWp.skip ?_
  refine hK1 _ ?_
  refine AWp.drS [[(1, none)], [(8, some 0)], [(9, some 1)], [(1, none)], [(11, some 3)], [(12, some 4)], [(13, some 5)], [(14, some 6)], [(10, some 2), (15, some 7)], [(16, some 8)], [(1, none)], [(18, some 10)], [(17, some 9), (19, some 11)], [(20, some 12)], [(21, some 13)], []] fun G hG => ?_
  refine Dr.sim ?_
  try simp only [lca, lna]
  refine Dr.sim ?_
  try simp only [lca, lna]
  refine Dr.sim ?_
  try simp only [lca, lna]
  refine Dr.sim ?_
  try simp only [lca, lna]
  refine Dr.sim ?_
  try simp only [lca, lna]
  refine Dr.sim ?_
  try simp only [lca, lna]
  refine Dr.sim ?_
  try simp only [lca, lna]
  refine Dr.sim ?_
  try simp only [lca, lna]
  refine Dr.build ?_
  try simp only [lca, lna]
  refine Dr.call (hp) ?_
  try simp only [lca, lna]
  refine Dr.sim ?_
  try simp only [lca, lna]
  refine Dr.sim ?_
  try simp only [lca, lna]
  refine Dr.build ?_
  try simp only [lca, lna]
  refine Dr.call (hj) ?_
  try simp only [lca, lna]
  refine Dr.sim ?_
  try simp only [lca, lna]
  refine Dr.sim ?_
  try simp only [lca, lna]
  refine Dr.finM (n := 16) [(2, 14), (3, 15)] [] hG Facts.mixed fun KD hKD => ?_
  refine ARun2.endm (hKD _ ?_); clear hKD KD hG G
  refine AWp.ret ?_
  try simp only [thenQ, blockQ, noGo]
  refine bodyQ.m ?_
  clear hK1 K1
  rw [hf]; simp only [if_true, if_false, reduceCtorEq, Bool.false_eq_true]
  first | done | exact Wk.go
def joinF (l : List Frm) : List UInt8 := l.foldl (fun out f => padB out ++ putF f) []
theorem joinF_snoc (l : List Frm) (f : Frm) : joinF (l ++ [f]) = padB (joinF l) ++ putF f := by simp [joinF]
theorem joinF_len_aux : ∀ (l : List Frm) (acc : List UInt8), (l.foldl (fun out f => padB out ++ putF f) acc).length = sumUp acc.length ((l.map fun f => f.val.length).map (4 + ·))
  | [], acc => rfl
  | f :: l, acc => by
    rw [List.foldl_cons, joinF_len_aux l, List.length_append, padB_len, putF_len]
    rfl
theorem joinF_len (l : List Frm) : (joinF l).length = tlvSize (l.map fun f => f.val.length) := joinF_len_aux l []
theorem tlvSize_take (l : List Nat) (i : Nat) : tlvSize (l.take i) ≤ tlvSize l := by
  unfold tlvSize; rw [List.map_take]; exact sumUp_take _ _
def joinX (l : List Frm) : List UInt8 := if l.all fitF = true then joinF l else []
theorem join_c (l : List Frm) (ht : ∀ f ∈ l, f.ty < 65536) (hs : tlvSize (l.map fun f => f.val.length) ≤ 2 ^ 36) (hl : l.length ≤ 2 ^ 40) : PC Tryz.prog 160 [.sl false 2 (frmsA false l)] (.tup [.sl true 1 (bys (joinX l)), bool (l.all fitF)]) := by
  refine PC.of_bodyK (by simp only [push_cast]) Tryz.func160 rfl (by rw [Tryz.ntmps160]; simp) ?_
  refine AWp.regionW ?_
  refine AWp.regionW ?_
  refine AWp.seqK fun K1 hK1 => ?_
  refine AWp.regionW ?_
  refine AWp.block ?_
  refine AWp.nilSl 4 true 1 ?_
  refine AWp.loopK0 [9, 10] (fun (i : Nat) => [(4, .sl true 1 (bys (joinF (l.take i)))), (11, nat i)]) (fun i => i ≤ l.length ∧ (l.take i).all fitF = true) (fun i => l.length - i) (0) ?_ ⟨Nat.zero_le _, rfl⟩ ?_
  · skip
    refine Le.m 0 ?_ ?_
    · exact Go.Abs.evM
    · exact Go.Abs.evN
  · intro i hi K2 hK2
    refine AWp.regionW ?_
    refine AWp.seqK fun K3 hK3 => ?_
    refine AWp.condLM (fun c0 => ?_) (fun c0 => ?_)
    · skip
      have hil : i < l.length := by simpa using c0
      have hti := ht l[i] (List.getElem_mem hil)
      have hsi := tlvSize_mem (l := l.map fun f => f.val.length) (List.mem_map.2 ⟨l[i], List.getElem_mem hil, rfl⟩)
      have hj := joinF_len (l.take (i + 1))
      rw [List.map_take] at hj
      have hj2 := tlvSize_take (l.map fun f => f.val.length) (i + 1)
      rw [List.take_succ_eq_append_getElem hil, joinF_snoc, List.length_append] at hj
      have hu := padB_len (joinF (l.take i))
      have hu2 : (joinF (l.take i)).length ≤ upN (joinF (l.take i)).length := by unfold upN; omega
      refine AWp.skip ?_
      refine hK3 _ ?_
      refine AWp.seqK fun K4 hK4 => ?_
      refine AWp.block ?_
      refine AWp.regionM fun K5 hK5 => ?_
      refine ARun2.indexM (i) (frmA false l[i]) ?_ ?_
      · exact frmsA_at _ _ _ hil
      refine ARun2.endm (hK5 _ ?_)
      refine AWp.regionM fun K6 hK6 => ?_
      refine ARun2.callM (put_c l[i] hti (by omega)) ?_
      refine ARun2.endm (hK6 _ ?_)
      refine AWp.seqK fun K7 hK7 => ?_
      refine AWp.regionW ?_
      refine AWp.condLM (fun c1 => ?_) (fun c1 => ?_)
      · skip
        have hf : fitF l[i] = false := by simpa using c1
        have hr : l.all fitF = false := by rw [List.all_eq_false]; exact ⟨l[i], List.getElem_mem hil, by simp [hf]⟩
        have hr2 : joinX l = [] := by unfold joinX; rw [hr]; rfl
        refine AWp.regionW ?_
        refine AWp.ret ?_
        try simp only [thenQ, blockQ, noGo]
        refine bodyQ.m ?_
        clear hK7 K7 hK6 K6 hK5 K5 hK4 K4 hK3 K3 hK2 K2 hK1 K1
        rw [hr, hr2]
        first | done | exact Wk.go
      have hf : fitF l[i] = true := by simpa using c1
      rw [hf, if_pos rfl]
      refine AWp.skip ?_
      refine hK7 _ ?_
      refine AWp.regionN fun K8 hK8 => ?_
      refine ARun2.callOM [] (padBytes_o (joinF (l.take i)) (by omega)) ?_
      refine ARun2.appendM ?_ ?_ ?_
      · rw [Facts.eb23, bys_len, bys_len]; omega
      · rw [bys_len, bys_len]; omega
      refine ARun2.endm (hK8 _ ?_)
      refine hK4 _ ?_
      refine AWp.pubD 1 ?_
      refine AWp.regionV ?_
      refine hK2 _ (i + 1) (⟨hil, by rw [List.take_succ_eq_append_getElem hil, List.all_append, hi.2]; simp [hf]⟩) (by omega) ?_
      refine Le.m 0 ?_ ?_
      · exact Go.Abs.evM
      · simp only [push_cast, ↓reduceIte, Nat.reduceEqDiff, Nat.reduceLT, Nat.reduceAdd, Nat.reduceSub, Nat.reduceMul, Nat.reduceLeDiff, Nat.reducePow, Int.reduceLT, Int.reduceToNat, reduceCtorEq, Int.reduceNeg, Int.reduceEq, Nat.reduceBEq, Nat.reduceBNe, Int.reduceBEq, Int.reduceBNe, String.reduceEq]
        try simp (disch := omega) only [w_nat, w_add, w_addl, w_addr, w_sub, w_subl, w_mul, w_mull, w_mulr, w_u32, w_u16, w_u8, w_u32a, N_zero]
        rw [List.take_succ_eq_append_getElem hil, joinF_snoc, bys_append]
    have hil : i = l.length := by have := hi.1; simp at c0; omega
    subst hil
    have hr : l.all fitF = true := by have := hi.2; rwa [List.take_length] at this
    have hr2 : joinX l = joinF l := by unfold joinX; rw [if_pos hr]
    rw [List.take_length]
    refine AWp.exit ?_
    try simp only [thenQ, blockQ, noGo, reduceIte, Nat.reduceEqDiff]
    refine hK1 _ ?_
    refine AWp.regionW ?_
    refine AWp.ret ?_
    try simp only [thenQ, blockQ, noGo]
    refine bodyQ.m ?_
    clear hK3 K3 hK2 K2 hK1 K1
    rw [hr, hr2]
    first | done | exact Wk.go
def goF (one : Frm → Nat → GNode × Er) (i : Nat) : List (Nat × Frm) → List GNode × Er
  | [] => ([], .ok)
  | p :: l => if (one p.2 (i + p.1)).2 = .ok then (if (goF one i l).2 = .ok then ((one p.2 (i + p.1)).1 :: (goF one i l).1, .ok) else ([], (goF one i l).2)) else ([], (one p.2 (i + p.1)).2)
theorem goF_snoc {one : Frm → Nat → GNode × Er} {i : Nat} {p : Nat × Frm} : ∀ {l : List (Nat × Frm)}, (goF one i l).2 = .ok → (one p.2 (i + p.1)).2 = .ok → goF one i (l ++ [p]) = ((goF one i l).1 ++ [(one p.2 (i + p.1)).1], .ok)
  | [], h, h2 => by simp [goF, h2]
  | q :: l, h, h2 => by
    simp only [goF] at h
    split at h
    · rename_i hq
      split at h
      · rename_i hl
        simp only [List.cons_append, goF, hq, if_true, hl, goF_snoc hl h2]
      · rename_i hl; exact absurd h hl
    · rename_i hq; exact absurd h hq
theorem goF_err {one : Frm → Nat → GNode × Er} {i : Nat} {p : Nat × Frm} {r : List (Nat × Frm)} : ∀ {l : List (Nat × Frm)}, (goF one i l).2 = .ok → (one p.2 (i + p.1)).2 ≠ .ok → goF one i (l ++ p :: r) = ([], (one p.2 (i + p.1)).2)
  | [], h, h2 => by simp [goF, h2]
  | q :: l, h, h2 => by
    simp only [goF] at h
    split at h
    · rename_i hq
      split at h
      · rename_i hl
        simp only [List.cons_append, goF, hq, if_true, goF_err (r := r) hl h2, if_neg h2]
      · rename_i hl; exact absurd h hl
    · rename_i hq; exact absurd h hq
def dataOf (c : Nat) (f : Frm) : List UInt8 := if (shapeOf c f.ty).kids ≠ 0 ∧ (shapeOf c f.ty).least ≤ f.val.length then f.val.take (shapeOf c f.ty).least else f.val
def oneF (rec : Nat → List UInt8 → Nat → List GNode × Er) (c : Nat) (f : Frm) (i : Nat) : GNode × Er :=
  if shapeHas c f.ty = false then (.mk f.ty f.val [], .ok)
  else if fitsN (shapeOf c f.ty) (dataOf c f).length = false then (.zero, .flt 7 i)
  else if countedN c f.ty (dataOf c f) = true then (.zero, .flt 8 (i + 4))
  else if (shapeOf c f.ty).kids = 0 then (.mk f.ty (dataOf c f) [], .ok)
  else if (rec (insideN (shapeOf c f.ty).kids).1 (f.val.drop (shapeOf c f.ty).least) (i + 4 + (shapeOf c f.ty).least)).2 ≠ .ok then
    (.zero, (rec (insideN (shapeOf c f.ty).kids).1 (f.val.drop (shapeOf c f.ty).least) (i + 4 + (shapeOf c f.ty).least)).2)
  else if kidsOk (shapeOf c f.ty) (rec (insideN (shapeOf c f.ty).kids).1 (f.val.drop (shapeOf c f.ty).least) (i + 4 + (shapeOf c f.ty).least)).1 = false then (.zero, .flt 7 i)
  else (.mk f.ty (dataOf c f) (rec (insideN (shapeOf c f.ty).kids).1 (f.val.drop (shapeOf c f.ty).least) (i + 4 + (shapeOf c f.ty).least)).1, .ok)
def parseF : Nat → Nat → List UInt8 → Nat → List GNode × Er
  | m, c, b, i => if (scan b b.length 0).2 = .ok then goF (fun f i => match m with
      | 0 => (.zero, .flt 9 i)
      | m + 1 => oneF (parseF m) c f i) i (scan b b.length 0).1
    else ([], (scan b b.length 0).2.shift i)
def oneD (m c : Nat) (f : Frm) (i : Nat) : GNode × Er := match m with
  | 0 => (.zero, .flt 9 i)
  | m + 1 => oneF (parseF m) c f i
theorem parseF_eq (m c : Nat) (b : List UInt8) (i : Nat) : parseF m c b i = if (scan b b.length 0).2 = .ok then goF (oneD m c) i (scan b b.length 0).1 else ([], (scan b b.length 0).2.shift i) := by
  rw [parseF]; rfl
theorem one_deep (c d : Nat) (f : Frm) (i : Nat) (hd : 4 < d) (hd2 : d < 2 ^ 60) : PC Tryz.prog 169 [nat c, frmA true f, nat i, nat d] (.tup [nodeA true .zero, erA (.flt 9 i)]) := by
  refine PC.of_bodyK (by simp only [push_cast]) Tryz.func169 rfl (by rw [Tryz.ntmps169]; simp) ?_
  refine AWp.regionW ?_
  refine AWp.seqK fun K1 hK1 => ?_
  refine AWp.regionW ?_
  refine AWp.condT ?_ (by simp only [push_cast]; simp; omega)
  refine AWp.regionM fun K2 hK2 => ?_
  refine ARun2.callM (fnew_c 9 i) ?_
  refine ARun2.endm (hK2 _ ?_)
  refine AWp.ret ?_
  try simp only [thenQ, blockQ, noGo]
  refine bodyQ.m ?_
  clear hK2 K2 hK1 K1
  simp only [GNode.zero, nodeA, nodesA]
  first | done | exact Wk.go
theorem shape_kids4 (c t : Nat) : (shapeOf c t).kids ≤ 4 := by
  have key : ∀ l : List ShForm, (∀ f ∈ l, f.kids ≤ 4) → (((l.find? fun f => f.ty == t).map fun f => { f with cls := c }).getD zeroForm).kids ≤ 4 := by
    intro l hl
    cases hf : l.find? (fun f => f.ty == t) with
    | none => simp [zeroForm]
    | some f => simpa using hl f (List.mem_of_find?_eq_some hf)
  refine key (formsN c) ?_
  match c with
  | 0 => intro f hf; simp [formsN] at hf
  | 1 => decide
  | 2 => decide
  | _ + 3 => intro f hf; simp [formsN] at hf
theorem inside_cls {k : Nat} (h4 : k ≤ 4) (h0 : k ≠ 0) : (insideN k).1 = 1 ∨ (insideN k).1 = 2 := by
  have : k = 1 ∨ k = 2 ∨ k = 3 ∨ k = 4 := by omega
  rcases this with rfl | rfl | rfl | rfl <;> simp [insideN]
theorem fits_least {f : ShForm} {n : Nat} (h : fitsN f n = true) : f.least ≤ n := by
  unfold fitsN at h; simp at h; exact h.1.1
theorem dataOf_len (c : Nat) (f : Frm) : (dataOf c f).length ≤ f.val.length := by
  unfold dataOf; split
  · rw [List.length_take]; omega
  · exact Nat.le_refl _
theorem readN_fit {b : List UInt8} {i : Nat} (hi : i < b.length) (h : (readN b i).2.2 = .ok) : i + 4 + (readN b i).1.val.length ≤ b.length := by
  unfold readN at h ⊢
  split at h
  · rename_i hc
    rw [if_pos hc]
    split at h
    · rename_i he; rw [if_pos he]; simp only [List.length_take, List.length_drop]; omega
    · rename_i he
      rw [if_neg he]
      split at h
      · rename_i hs; rw [if_pos hs]; simp only [List.length_take, List.length_drop]; omega
      · cases h
  · cases h
theorem readN_ty (b : List UInt8) (i : Nat) : (readN b i).1.ty < 65536 := by
  unfold readN
  split
  · split
    · exact peek2_lt _ _
    · split
      · exact peek2_lt _ _
      · simp [frm0]
  · simp [frm0]
theorem scan_fit (b : List UInt8) : ∀ (k i : Nat), ∀ p ∈ (scan b k i).1, p.1 + 4 + p.2.val.length ≤ b.length ∧ p.2.ty < 65536
  | 0, i, p, h => by simp [scan] at h
  | k + 1, i, p, h => by
    rw [scan] at h
    split at h
    · rename_i hi
      cases he : (readN b i).2.2 with
      | ok =>
        simp only [he] at h
        rcases List.mem_cons.1 h with rfl | h
        · exact ⟨readN_fit hi he, readN_ty b i⟩
        · exact scan_fit b k _ p h
      | code c => simp [he] at h
      | flt c j => simp [he] at h
    · simp at h
theorem one_step (m c d : Nat) (hc : c = 1 ∨ c = 2) (hd : d ≤ 4) (f : Frm) (i : Nat) (hi : i + 4 + f.val.length ≤ 2 ^ 40)
    (ih : ∀ (c : Nat) (b : List UInt8) (i : Nat), (c = 1 ∨ c = 2) → i + b.length ≤ 2 ^ 40 → PC Tryz.prog 142 [nat c, .sl false 1 (bys b), nat i, nat (d + 1)] (.tup [.sl true 3 (nodesA true (parseF m c b i).1), erA (parseF m c b i).2]))
    (ihl : ∀ (c : Nat) (b : List UInt8) (i : Nat), (parseF m c b i).1.length ≤ b.length) :
    PC Tryz.prog 169 [nat c, frmA true f, nat i, nat d] (.tup [nodeA true (oneF (parseF m) c f i).1, erA (oneF (parseF m) c f i).2]) := by
  obtain ⟨S, hS⟩ : ∃ S, S = shapeOf c f.ty := ⟨_, rfl⟩
  have h4 := shape_kids4 c f.ty
  have hk60 := form_kids c f.ty
  have hdl := dataOf_len c f
  have hO : oneF (parseF m) c f i = oneF (parseF m) c f i := rfl
  conv at hO => rhs; unfold oneF
  rw [← hS] at h4 hk60 hO
  have hdo : dataOf c f = if S.kids ≠ 0 ∧ S.least ≤ f.val.length then f.val.take S.least else f.val := by unfold dataOf; rw [hS]
  have hof := of_c c f.ty hc
  rw [← hS] at hof
  have hfo := form_ok c f.ty
  rw [← hS] at hfo
  generalize oneF (parseF m) c f i = O at hO
  refine PC.of_bodyK (by simp only [push_cast]) Tryz.func169 rfl (by rw [Tryz.ntmps169]; simp) ?_
  refine AWp.regionW ?_
  refine AWp.seqK fun K1 hK1 => ?_
  refine AWp.regionW ?_
  refine AWp.condF ?_ (by simp only [push_cast]; simp; omega)
  refine AWp.skip ?_
  refine hK1 _ ?_
  refine AWp.regionW ?_
  refine AWp.regionM fun K2 hK2 => ?_
  refine ARun2.callM (hof) ?_
  refine ARun2.endm (hK2 _ ?_)
  refine AWp.seqK fun K3 hK3 => ?_
  refine AWp.regionW ?_
  refine AWp.condLM (fun c1 => ?_) (fun c1 => ?_)
  · skip
    have hh : shapeHas c f.ty = false := by simpa using c1
    rw [if_pos hh] at hO
    refine AWp.regionW ?_
    refine AWp.ret ?_
    try simp only [thenQ, blockQ, noGo]
    refine bodyQ.m ?_
    clear hK3 K3 hK2 K2 hK1 K1
    subst hO; simp only [GNode.zero, nodeA_eq, GNode.ty, GNode.data, GNode.kids]
    first | done | exact Wk.go
  have hh : shapeHas c f.ty = true := by simpa using c1
  rw [if_neg (by rw [hh]; simp)] at hO
  obtain ⟨u1, u2, u3⟩ := hfo hh
  refine AWp.skip ?_
  refine hK3 _ ?_
  refine AWp.seqK fun K4 hK4 => ?_
  refine AWp.regionA fun K5 hK5 => ?_
  refine ARun.segm 4 fun KS hKS => ?_
  refine ARun2.endm (hKS _ ?_); clear hKS KS
  apply ARun.grpM 6 3 true 47 [0, 2, 3, 5, 8, 10, 11, 41]
  · intro g3 KG hKG
    refine ARun2.gom ?_
    exact ARun2.endm (hKG _ Le.grpM)
  refine ARun2.gom ?_
  refine ARun2.endm (hK5 _ ?_)
  refine AWp.condLM (fun c2 => ?_) (fun c2 => ?_)
  · skip
    have hd0 : dataOf c f = f.val.take S.least := by rw [hdo, if_pos (by simp at c2; exact c2)]
    have hle : S.least ≤ f.val.length := by simp at c2; exact c2.2
    refine AWp.regionN fun K6 hK6 => ?_
    refine ARun2.sliceHi3M S.least (by rw [bys_len]; exact hle) ?_
    refine ARun2.endm (hK6 _ ?_)
    rw [← hd0]
    refine hK4 _ ?_
    refine AWp.seqK fun K7 hK7 => ?_
    refine AWp.block ?_
    refine AWp.regionM fun K8 hK8 => ?_
    refine ARun2.callM (fits_c S (dataOf c f).length (by omega) u3 u1 u2) ?_
    refine ARun2.endm (hK8 _ ?_)
    refine AWp.condLM (fun c3 => ?_) (fun c3 => ?_)
    · skip
      have hf : fitsN S (dataOf c f).length = false := by simpa using c3
      rw [if_pos hf] at hO
      refine AWp.regionM fun K9 hK9 => ?_
      refine ARun2.callM (fnew_c 7 i) ?_
      refine ARun2.endm (hK9 _ ?_)
      refine AWp.ret ?_
      try simp only [thenQ, blockQ, noGo]
      refine bodyQ.m ?_
      clear hK9 K9 hK8 K8 hK7 K7 hK6 K6 hK5 K5 hK4 K4 hK3 K3 hK2 K2 hK1 K1
      subst hO; simp only [GNode.zero, nodeA_eq, GNode.ty, GNode.data, GNode.kids]
      first | done | exact Wk.go
    have hf : fitsN S (dataOf c f).length = true := by simpa using c3
    rw [if_neg (by rw [hf]; simp)] at hO
    refine AWp.regionM fun K10 hK10 => ?_
    refine ARun2.callM (counted_c c f.ty (dataOf c f) (by omega)) ?_
    refine ARun2.endm (hK10 _ ?_)
    refine AWp.condLM (fun c4 => ?_) (fun c4 => ?_)
    · skip
      have hcn := c4
      rw [if_pos hcn] at hO
      refine AWp.regionM fun K11 hK11 => ?_
      refine ARun2.callM (fnew_c 8 (i + 4)) ?_
      refine ARun2.endm (hK11 _ ?_)
      refine AWp.ret ?_
      try simp only [thenQ, blockQ, noGo]
      refine bodyQ.m ?_
      clear hK11 K11 hK10 K10 hK8 K8 hK7 K7 hK6 K6 hK5 K5 hK4 K4 hK3 K3 hK2 K2 hK1 K1
      subst hO; simp only [GNode.zero, nodeA_eq, GNode.ty, GNode.data, GNode.kids]
      first | done | exact Wk.go
    have hcn := c4
    rw [if_neg (by rw [hcn]; simp)] at hO
    refine AWp.regionW ?_
    refine AWp.condLM (fun c5 => ?_) (fun c5 => ?_)
    · skip
      have hk0 : S.kids = 0 := by simpa using c5
      rw [if_pos hk0] at hO
      refine AWp.regionW ?_
      refine AWp.ret ?_
      try simp only [thenQ, blockQ, noGo]
      refine bodyQ.m ?_
      clear hK10 K10 hK8 K8 hK7 K7 hK6 K6 hK5 K5 hK4 K4 hK3 K3 hK2 K2 hK1 K1
      subst hO; simp only [GNode.zero, nodeA_eq, GNode.ty, GNode.data, GNode.kids]
      first | done | exact Wk.go
    have hk0 : S.kids ≠ 0 := by simpa using c5
    rw [if_neg hk0] at hO
    have ihr := ih (insideN S.kids).1 (f.val.drop S.least) (i + 4 + S.least) (inside_cls h4 hk0) (by rw [List.length_drop]; omega)
    have ihn := ihl (insideN S.kids).1 (f.val.drop S.least) (i + 4 + S.least)
    rw [List.length_drop] at ihn
    obtain ⟨r, hr⟩ : ∃ r, r = parseF m (insideN S.kids).1 (f.val.drop S.least) (i + 4 + S.least) := ⟨_, rfl⟩
    rw [← hr] at hO ihr ihn
    refine AWp.skip ?_
    refine hK7 _ ?_
    refine AWp.regionM fun K12 hK12 => ?_
    refine ARun2.callM (inside_c S.kids hk60) ?_
    refine ARun2.endm (hK12 _ ?_)
    refine AWp.drS [[(13, none)], [(5, none)], [(92, some 1)], [(11, none)], [(94, some 3)], [(93, some 2), (95, some 4)], [(2, none)], [(97, some 6)], [(11, none)], [(99, some 8)], [(98, some 7), (100, some 9)], [(3, none)], [(102, some 11)], [(91, some 0), (96, some 5), (101, some 10), (103, some 12)], [(104, some 13)], [(90, some 14)], [(90, some 14)], [(105, some 15)], [(106, some 16)]] fun G hG => ?_
    refine Dr.sim ?_
    try simp only [lca, lna]
    refine Dr.sim ?_
    try simp only [lca, lna]
    refine Dr.sim ?_
    try simp only [lca, lna]
    refine Dr.sim ?_
    try simp only [lca, lna]
    refine Dr.sim ?_
    try simp only [lca, lna]
    refine Dr.sliceLo (S.least) ?_ ?_
    · rw [bys_len]; exact hle
    try simp only [lca, lna]
    refine Dr.sim ?_
    try simp only [lca, lna]
    refine Dr.sim ?_
    try simp only [lca, lna]
    refine Dr.sim ?_
    try simp only [lca, lna]
    refine Dr.sim ?_
    try simp only [lca, lna]
    refine Dr.sim ?_
    try simp only [lca, lna]
    refine Dr.sim ?_
    try simp only [lca, lna]
    refine Dr.sim ?_
    try simp only [lca, lna]
    refine Dr.call (ihr) ?_
    try simp only [lca, lna]
    refine Dr.sim ?_
    try simp only [lca, lna]
    refine Dr.sim ?_
    try simp only [lca, lna]
    refine Dr.sim ?_
    try simp only [lca, lna]
    refine Dr.sim ?_
    try simp only [lca, lna]
    refine Dr.sim ?_
    try simp only [lca, lna]
    refine Dr.finM (n := 19) [(16, 17), (17, 18)] [2, 8, 10, 11] hG Facts.mixed fun KD hKD => ?_
    refine ARun2.endm (hKD _ ?_); clear hKD KD hG G
    refine AWp.seqK fun K13 hK13 => ?_
    refine AWp.regionW ?_
    refine AWp.condLM (fun c6 => ?_) (fun c6 => ?_)
    · skip
      have he : r.2 ≠ .ok := by intro h; rw [h] at c6; cases c6
      rw [if_pos he] at hO
      refine AWp.regionW ?_
      refine AWp.ret ?_
      try simp only [thenQ, blockQ, noGo]
      refine bodyQ.m ?_
      clear hK13 K13 hK12 K12 hK10 K10 hK8 K8 hK7 K7 hK6 K6 hK5 K5 hK4 K4 hK3 K3 hK2 K2 hK1 K1
      subst hO; simp only [GNode.zero, nodeA_eq, GNode.ty, GNode.data, GNode.kids]
      first | done | exact Wk.go
    have he : r.2 = .ok := by rw [← isOk_iff]; simpa using c6
    rw [if_neg (by simpa using he)] at hO
    refine AWp.skip ?_
    refine hK13 _ ?_
    refine AWp.regionW ?_
    refine AWp.seqK fun K14 hK14 => ?_
    refine AWp.regionM fun K15 hK15 => ?_
    refine ARun2.callM (kids_c S r.1 (by omega) hk60) ?_
    refine ARun2.endm (hK15 _ ?_)
    refine AWp.condLM (fun c7 => ?_) (fun c7 => ?_)
    · skip
      have hkk : kidsOk S r.1 = false := by simpa using c7
      rw [if_pos hkk] at hO
      refine AWp.regionM fun K16 hK16 => ?_
      refine ARun2.callM (fnew_c 7 i) ?_
      refine ARun2.endm (hK16 _ ?_)
      refine AWp.ret ?_
      try simp only [thenQ, blockQ, noGo]
      refine bodyQ.m ?_
      clear hK16 K16 hK15 K15 hK14 K14 hK13 K13 hK12 K12 hK10 K10 hK8 K8 hK7 K7 hK6 K6 hK5 K5 hK4 K4 hK3 K3 hK2 K2 hK1 K1
      subst hO; simp only [GNode.zero, nodeA_eq, GNode.ty, GNode.data, GNode.kids]
      first | done | exact Wk.go
    have hkk : kidsOk S r.1 = true := by simpa using c7
    rw [if_neg (by rw [hkk]; simp)] at hO
    refine AWp.skip ?_
    refine hK14 _ ?_
    refine AWp.regionW ?_
    refine AWp.ret ?_
    try simp only [thenQ, blockQ, noGo]
    refine bodyQ.m ?_
    clear hK15 K15 hK14 K14 hK13 K13 hK12 K12 hK10 K10 hK8 K8 hK7 K7 hK6 K6 hK5 K5 hK4 K4 hK3 K3 hK2 K2 hK1 K1
    subst hO; simp only [GNode.zero, nodeA_eq, GNode.ty, GNode.data, GNode.kids]
    first | done | exact Wk.go
  have hd0 : dataOf c f = f.val := by rw [hdo, if_neg (by simp at c2; intro h; have := c2 h.1; omega)]
  rw [hd0] at hO
  refine AWp.skip ?_
  refine hK4 _ ?_
  refine AWp.seqK fun K17 hK17 => ?_
  refine AWp.block ?_
  refine AWp.regionM fun K18 hK18 => ?_
  refine ARun2.callM (fits_c S f.val.length (by omega) u3 u1 u2) ?_
  refine ARun2.endm (hK18 _ ?_)
  refine AWp.condLM (fun c3 => ?_) (fun c3 => ?_)
  · skip
    have hf : fitsN S f.val.length = false := by simpa using c3
    rw [if_pos hf] at hO
    refine AWp.regionM fun K19 hK19 => ?_
    refine ARun2.callM (fnew_c 7 i) ?_
    refine ARun2.endm (hK19 _ ?_)
    refine AWp.ret ?_
    try simp only [thenQ, blockQ, noGo]
    refine bodyQ.m ?_
    clear hK19 K19 hK18 K18 hK17 K17 hK5 K5 hK4 K4 hK3 K3 hK2 K2 hK1 K1
    subst hO; simp only [GNode.zero, nodeA_eq, GNode.ty, GNode.data, GNode.kids]
    first | done | exact Wk.go
  have hf : fitsN S f.val.length = true := by simpa using c3
  rw [if_neg (by rw [hf]; simp)] at hO
  refine AWp.regionM fun K20 hK20 => ?_
  refine ARun2.callM (counted_c c f.ty f.val (by omega)) ?_
  refine ARun2.endm (hK20 _ ?_)
  refine AWp.condLM (fun c4 => ?_) (fun c4 => ?_)
  · skip
    have hcn := c4
    rw [if_pos hcn] at hO
    refine AWp.regionM fun K21 hK21 => ?_
    refine ARun2.callM (fnew_c 8 (i + 4)) ?_
    refine ARun2.endm (hK21 _ ?_)
    refine AWp.ret ?_
    try simp only [thenQ, blockQ, noGo]
    refine bodyQ.m ?_
    clear hK21 K21 hK20 K20 hK18 K18 hK17 K17 hK5 K5 hK4 K4 hK3 K3 hK2 K2 hK1 K1
    subst hO; simp only [GNode.zero, nodeA_eq, GNode.ty, GNode.data, GNode.kids]
    first | done | exact Wk.go
  have hcn := c4
  rw [if_neg (by rw [hcn]; simp)] at hO
  refine AWp.regionW ?_
  refine AWp.condLM (fun c5 => ?_) (fun c5 => ?_)
  · skip
    have hk0 : S.kids = 0 := by simpa using c5
    rw [if_pos hk0] at hO
    refine AWp.regionW ?_
    refine AWp.ret ?_
    try simp only [thenQ, blockQ, noGo]
    refine bodyQ.m ?_
    clear hK20 K20 hK18 K18 hK17 K17 hK5 K5 hK4 K4 hK3 K3 hK2 K2 hK1 K1
    subst hO; simp only [GNode.zero, nodeA_eq, GNode.ty, GNode.data, GNode.kids]
    first | done | exact Wk.go
  have hk0 : S.kids ≠ 0 := by simpa using c5
  have hle := fits_least hf
  simp at c2
  have := c2 hk0
  omega
theorem splitN_er (b : List UInt8) : (splitN b).2 = (scan b b.length 0).2 := by
  unfold splitN; split
  · rename_i h; exact h.symm
  · rfl
theorem readN_at (b : List UInt8) (i : Nat) (hi : i ≤ b.length) : (readN b i).2.2.atOf.1 ≤ b.length := by
  unfold readN
  split
  · split
    · exact Nat.zero_le _
    · split
      · exact Nat.zero_le _
      · show i + _ ≤ _; omega
  · exact hi
theorem scan_at (b : List UInt8) : ∀ (k i : Nat), (scan b k i).2.atOf.1 ≤ b.length
  | 0, i => Nat.zero_le _
  | k + 1, i => by
    rw [scan]
    split
    · rename_i hi
      have h := readN_at b i (by omega)
      cases he : (readN b i).2.2 with
      | ok => exact scan_at b k _
      | code c => rw [he] at h; exact h
      | flt c j => rw [he] at h; exact h
    · exact Nat.zero_le _
theorem scan_len (b : List UInt8) : ∀ (k i : Nat), i ≤ b.length → (scan b k i).1.length ≤ b.length - i
  | 0, i, _ => Nat.zero_le _
  | k + 1, i, hle => by
    rw [scan]
    split
    · rename_i hi
      cases he : (readN b i).2.2 with
      | ok =>
        obtain ⟨n1, n2⟩ := readN_next he
        have := scan_len b k (readN b i).2.1 n2
        simp only [List.length_cons]; omega
      | code c => exact Nat.zero_le _
      | flt c j => exact Nat.zero_le _
    · exact Nat.zero_le _
theorem goF_len (one : Frm → Nat → GNode × Er) (i : Nat) : ∀ l : List (Nat × Frm), (goF one i l).1.length ≤ l.length
  | [] => Nat.zero_le _
  | p :: l => by
    have := goF_len one i l
    simp only [goF]
    split
    · split
      · simp only [List.length_cons]; omega
      · exact Nat.zero_le _
    · exact Nat.zero_le _
theorem parseF_len (m c : Nat) (b : List UInt8) (i : Nat) : (parseF m c b i).1.length ≤ b.length := by
  rw [parseF_eq]
  split
  · exact Nat.le_trans (goF_len _ _ _) (by have := scan_len b b.length 0 (Nat.zero_le _); omega)
  · exact Nat.zero_le _
theorem ysOf_len (l : List (Nat × Frm)) : (ysOf l).length = l.length := by simp [ysOf]
theorem parse_step (m c d : Nat) (hd : d < 2 ^ 60) (b : List UInt8) (i : Nat) (hi : i + b.length ≤ 2 ^ 40)
    (hone : ∀ (f : Frm) (j : Nat), j + 4 + f.val.length ≤ i + b.length → PC Tryz.prog 169 [nat c, frmA true f, nat j, nat d] (.tup [nodeA true (oneD m c f j).1, erA (oneD m c f j).2])) :
    PC Tryz.prog 142 [nat c, .sl false 1 (bys b), nat i, nat d] (.tup [.sl true 3 (nodesA true (parseF m c b i).1), erA (parseF m c b i).2]) := by
  have hsat := scan_at b b.length 0
  have hsf := scan_fit b b.length 0
  have hsl := scan_len b b.length 0 (Nat.zero_le _)
  have hsp := splitN_er b
  have hall := all_iter b (by omega)
  have hO := parseF_eq m c b i
  generalize parseF m c b i = O at hO
  generalize hfe : (scan b b.length 0).1 = fs at hsf hsl hall hO
  generalize (scan b b.length 0).2 = er at hsat hsp hO
  refine PC.of_bodyK (by simp only [push_cast]) Tryz.func142 rfl (by rw [Tryz.ntmps142]; simp) ?_
  refine AWp.regionW ?_
  refine AWp.seqK fun K1 hK1 => ?_
  refine AWp.regionM fun K2 hK2 => ?_
  refine ARun2.callM (split_c b (by omega)) ?_
  refine ARun2.endm (hK2 _ ?_)
  rw [hsp]
  refine AWp.regionW ?_
  refine AWp.condLM (fun c0 => ?_) (fun c0 => ?_)
  · skip
    have he : er ≠ .ok := by intro h; rw [h] at c0; cases c0
    rw [if_neg he] at hO
    refine AWp.regionM fun K3 hK3 => ?_
    refine ARun2.callM (shift_c er i (by omega) (by omega)) ?_
    refine ARun2.endm (hK3 _ ?_)
    refine AWp.ret ?_
    try simp only [thenQ, blockQ, noGo]
    refine bodyQ.m ?_
    clear hK3 K3 hK2 K2 hK1 K1
    subst hO; try rw [hk1]
    first | done | exact Wk.go
  have he : er = .ok := by rw [← isOk_iff]; simpa using c0
  rw [if_pos he] at hO
  refine AWp.skip ?_
  refine hK1 _ ?_
  refine AWp.regionW ?_
  refine AWp.nilBox 5 0 26 3 rfl rfl ?_
  refine Go.Abs.evS2 ?_
  refine AWp.seqK fun K4 hK4 => ?_
  refine AWp.regionM fun K5 hK5 => ?_
  refine ARun2.callM (all_c b) ?_
  refine ARun2.endm (hK5 _ ?_)
  refine AWp.block ?_
  refine AWp.rangeFuncM (hall) [4, 6, 7, 8, 9, 12] (fun pre ob tr go => (goF (oneD m c) i (fs.take pre.length)).2 = .ok ∧ pre.length ≤ fs.length ∧ ob = [.box 3 [nat c], .box 3 [nat i], .box 3 [nat d], .box 24 [.val (.slice none 0 0)], .box 76 [.val .nilIface], .box 24 [.own 6], .row 26 3 (nodesA true (goF (oneD m c) i (fs.take pre.length)).1)]) (fun e ob tr go => e = .ret ∧ ∃ er l, O = ([], er) ∧ ob = [.box 3 [nat c], .box 3 [nat i], .box 3 [nat d], .box 24 [.val (.slice none 0 0)], .box 76 [erA er], .box 24 [.own 6], .row 26 3 l]) ?_ ?_ ?_ ?_ ?_
  · intro x hx
    simp only [ysOf, List.mem_map] at hx
    obtain ⟨q, _, rfl⟩ := hx
    rfl
  · exact ⟨rfl, Nat.zero_le _, rfl⟩
  · rintro pre x post ob tr go hxs ⟨hk1, hk2, rfl⟩
    have hpl : pre.length < fs.length := by rw [← ysOf_len fs, hxs]; simp
    have hx : (ysOf fs)[pre.length]? = some x := by rw [hxs]; simp
    rw [ysOf, List.getElem?_map, List.getElem?_eq_getElem hpl] at hx
    simp only [Option.map_some, Option.some.injEq] at hx
    subst hx
    obtain ⟨hp1, hp2⟩ := hsf fs[pre.length] (List.getElem_mem hpl)
    have hfd : fs = fs.take pre.length ++ fs[pre.length] :: fs.drop (pre.length + 1) := by rw [← List.drop_eq_getElem_cons hpl, List.take_append_drop]
    have hgl := goF_len (oneD m c) i (fs.take pre.length)
    rw [List.length_take] at hgl
    obtain ⟨q, hqe⟩ : ∃ q, fs[pre.length] = q := ⟨_, rfl⟩
    rw [hqe] at hfd hp1 hp2 ⊢
    refine AWp.regionW ?_
    refine AWp.regionV ?_
    change AWp _ _ _ _
    refine AWp.block ?_
    refine AWp.regionM fun K6 hK6 => ?_
    refine ARun2.callM (hone q.2 (i + q.1) (by omega)) ?_
    refine ARun2.endm (hK6 _ ?_)
    refine AWp.seqK fun K7 hK7 => ?_
    refine AWp.regionW ?_
    refine AWp.condLM (fun c1 => ?_) (fun c1 => ?_)
    · skip
      have hne : (oneD m c q.2 (i + q.1)).2 ≠ .ok := by intro h; rw [h] at c1; cases c1
      have hr : O = ([], (oneD m c q.2 (i + q.1)).2) := by rw [hO, hfd]; exact goF_err hk1 hne
      refine AWp.regionW ?_
      refine AWp.ret ?_
      try simp only [thenQ, blockQ, noGo]
      refine ⟨_, (Le.keep (fr' := []) trivial).trans (Le.cut 7 (by first | exact Nat.le_refl _ | decide) rfl (by simp only [push_cast, ↓reduceIte, Nat.reduceEqDiff, Nat.reduceLT, Nat.reduceAdd, Nat.reduceSub, Nat.reduceMul, Nat.reduceLeDiff, Nat.reducePow, Int.reduceLT, Int.reduceToNat, reduceCtorEq, Int.reduceNeg, Int.reduceEq, Nat.reduceBEq, Nat.reduceBNe, Int.reduceBEq, Int.reduceBNe, String.reduceEq])), ?_⟩
      exact ⟨rfl, _, _, hr, rfl⟩
    have heq : (oneD m c q.2 (i + q.1)).2 = .ok := by rw [← isOk_iff]; simpa using c1
    refine AWp.skip ?_
    refine hK7 _ ?_
    refine AWp.drE [[(12, none)], [(15, none)], [(44, some 0)], []] fun G hG => ?_
    refine Dr.sim ?_
    try simp only [lca, lna]
    refine Dr.sim ?_
    try simp only [lca, lna]
    refine Dr.sim ?_
    try simp only [lca, lna]
    refine Dr.build ?_
    try simp only [lca, lna]
    refine Dr.finTN (n := 4) 4 [(44, 0), (45, 1), (46, 2), (47, 3)] [8, 9, 12] hG Facts.mixed fun KD hKD => ?_
    clear hG G
    refine AAny.one 4 ?_
    refine ARun.opM ?_
    refine ARun2.appendM ?_ ?_ ?_
    · rw [Facts.eb24, nodesA_len, List.length_cons, List.length_nil]; omega
    · rw [nodesA_len, List.length_cons, List.length_nil]; omega
    refine ARun2.endm ?_
    refine AAny.two 5 7 ?_ ?_
    ·
      refine ARun.opM ?_
      refine ARun2.indexZM (xs := nodesA true (goF (oneD m c) i (fs.take pre.length)).1 ++ [.agg [.val (.int .u16 0), .val (.slice none 0 0), .val (.slice none 0 0)]]) (goF (oneD m c) i (fs.take pre.length)).1.length (by rw [List.length_append, nodesA_len]; simp) ?_
      refine ARun2.endm ?_
      refine AAny.two 6 7 ?_ ?_
      ·
        refine ARun.opM ?_
        refine ARun2.storeZM (nodesA true (goF (oneD m c) i (fs.take pre.length)).1 ++ [.agg [.val (.int .u16 0), .val (.slice none 0 0), .val (.slice none 0 0)]]) (goF (oneD m c) i (fs.take pre.length)).1.length (nodeA true (oneD m c q.2 (i + q.1)).1) (nodesA true (goF (oneD m c) i (fs.take pre.length)).1 ++ [nodeA true (oneD m c q.2 (i + q.1)).1]) (by rw [List.length_append, nodesA_len]; simp) (by rw [List.set_append_right _ _ (by rw [nodesA_len]; exact Nat.le_refl _), nodesA_len, Nat.sub_self, List.set_cons_zero]) ?_
        refine ARun2.endm ?_
        refine AAny.one 7 ?_
        refine ARun.opM ?_
        refine ARun2.endm ?_
        refine AAny.fin (hKD _ ?_); clear hKD KD
        refine ⟨_, (Le.keep (fr' := []) trivial).trans (Le.cut 7 (by first | exact Nat.le_refl _ | decide) rfl (by simp only [push_cast, ↓reduceIte, Nat.reduceEqDiff, Nat.reduceLT, Nat.reduceAdd, Nat.reduceSub, Nat.reduceMul, Nat.reduceLeDiff, Nat.reducePow, Int.reduceLT, Int.reduceToNat, reduceCtorEq, Int.reduceNeg, Int.reduceEq, Nat.reduceBEq, Nat.reduceBNe, Int.reduceBEq, Int.reduceBNe, String.reduceEq])), ?_⟩
        have ht : fs.take (pre ++ [[nat q.1, frmA true q.2]]).length = fs.take pre.length ++ [q] := by
          rw [List.length_append, List.length_cons, List.length_nil, List.take_succ_eq_append_getElem hpl, hqe]
        have hs := goF_snoc hk1 heq
        rw [← ht] at hs
        refine ⟨by rw [hs], by rw [List.length_append]; simp; omega, ?_⟩
        rw [hs, nodesA_snoc, nodeA_eq]
        rfl
      ·
        refine ARun.opM ?_
        refine ARun2.endm ?_
        refine AAny.one 6 ?_
        refine ARun.opM ?_
        refine ARun2.storeZM (nodesA true (goF (oneD m c) i (fs.take pre.length)).1 ++ [.agg [.val (.int .u16 0), .val (.slice none 0 0), .val (.slice none 0 0)]]) (goF (oneD m c) i (fs.take pre.length)).1.length (nodeA true (oneD m c q.2 (i + q.1)).1) (nodesA true (goF (oneD m c) i (fs.take pre.length)).1 ++ [nodeA true (oneD m c q.2 (i + q.1)).1]) (by rw [List.length_append, nodesA_len]; simp) (by rw [List.set_append_right _ _ (by rw [nodesA_len]; exact Nat.le_refl _), nodesA_len, Nat.sub_self, List.set_cons_zero]) ?_
        refine ARun2.endm ?_
        refine AAny.fin (hKD _ ?_); clear hKD KD
        refine ⟨_, (Le.keep (fr' := []) trivial).trans (Le.cut 7 (by first | exact Nat.le_refl _ | decide) rfl (by simp only [push_cast, ↓reduceIte, Nat.reduceEqDiff, Nat.reduceLT, Nat.reduceAdd, Nat.reduceSub, Nat.reduceMul, Nat.reduceLeDiff, Nat.reducePow, Int.reduceLT, Int.reduceToNat, reduceCtorEq, Int.reduceNeg, Int.reduceEq, Nat.reduceBEq, Nat.reduceBNe, Int.reduceBEq, Int.reduceBNe, String.reduceEq])), ?_⟩
        have ht : fs.take (pre ++ [[nat q.1, frmA true q.2]]).length = fs.take pre.length ++ [q] := by
          rw [List.length_append, List.length_cons, List.length_nil, List.take_succ_eq_append_getElem hpl, hqe]
        have hs := goF_snoc hk1 heq
        rw [← ht] at hs
        refine ⟨by rw [hs], by rw [List.length_append]; simp; omega, ?_⟩
        rw [hs, nodesA_snoc, nodeA_eq]
        rfl
    ·
      refine ARun.opM ?_
      refine ARun2.endm ?_
      refine AAny.one 5 ?_
      refine ARun.opM ?_
      refine ARun2.indexZM (xs := nodesA true (goF (oneD m c) i (fs.take pre.length)).1 ++ [.agg [.val (.int .u16 0), .val (.slice none 0 0), .val (.slice none 0 0)]]) (goF (oneD m c) i (fs.take pre.length)).1.length (by rw [List.length_append, nodesA_len]; simp) ?_
      refine ARun2.endm ?_
      refine AAny.one 6 ?_
      refine ARun.opM ?_
      refine ARun2.storeZM (nodesA true (goF (oneD m c) i (fs.take pre.length)).1 ++ [.agg [.val (.int .u16 0), .val (.slice none 0 0), .val (.slice none 0 0)]]) (goF (oneD m c) i (fs.take pre.length)).1.length (nodeA true (oneD m c q.2 (i + q.1)).1) (nodesA true (goF (oneD m c) i (fs.take pre.length)).1 ++ [nodeA true (oneD m c q.2 (i + q.1)).1]) (by rw [List.length_append, nodesA_len]; simp) (by rw [List.set_append_right _ _ (by rw [nodesA_len]; exact Nat.le_refl _), nodesA_len, Nat.sub_self, List.set_cons_zero]) ?_
      refine ARun2.endm ?_
      refine AAny.fin (hKD _ ?_); clear hKD KD
      refine ⟨_, (Le.keep (fr' := []) trivial).trans (Le.cut 7 (by first | exact Nat.le_refl _ | decide) rfl (by simp only [push_cast, ↓reduceIte, Nat.reduceEqDiff, Nat.reduceLT, Nat.reduceAdd, Nat.reduceSub, Nat.reduceMul, Nat.reduceLeDiff, Nat.reducePow, Int.reduceLT, Int.reduceToNat, reduceCtorEq, Int.reduceNeg, Int.reduceEq, Nat.reduceBEq, Nat.reduceBNe, Int.reduceBEq, Int.reduceBNe, String.reduceEq])), ?_⟩
      have ht : fs.take (pre ++ [[nat q.1, frmA true q.2]]).length = fs.take pre.length ++ [q] := by
        rw [List.length_append, List.length_cons, List.length_nil, List.take_succ_eq_append_getElem hpl, hqe]
      have hs := goF_snoc hk1 heq
      rw [← ht] at hs
      refine ⟨by rw [hs], by rw [List.length_append]; simp; omega, ?_⟩
      rw [hs, nodesA_snoc, nodeA_eq]
      rfl
  · rintro ob tr go df ⟨hk1, _, rfl⟩
    rw [ysOf_len, List.take_length] at hk1 ⊢
    refine hK4 _ ?_
    refine AWp.pubD 6 ?_
    refine AWp.regionW ?_
    refine AWp.ret ?_
    try simp only [thenQ, blockQ, noGo]
    refine bodyQ.m ?_
    clear hK5 K5 hK4 K4 hK2 K2 hK1 K1
    subst hO; try rw [hk1]
    first | done | exact Wk.go
  · rintro e ob tr go df ⟨rfl, er, l, hr, rfl⟩
    try simp only [thenQ, blockQ, noGo]
    refine bodyQ.m ?_
    rw [hr]
    first | done | exact Wk.go
theorem parse_all : ∀ (m d c : Nat) (b : List UInt8) (i : Nat), d + m = 5 → (c = 1 ∨ c = 2) → i + b.length ≤ 2 ^ 40 →
    PC Tryz.prog 142 [nat c, .sl false 1 (bys b), nat i, nat d] (.tup [.sl true 3 (nodesA true (parseF m c b i).1), erA (parseF m c b i).2]) := by
  intro m
  induction m with
  | zero =>
    intro d c b i hdm hc hi
    refine parse_step 0 c d (by omega) b i hi fun f j hj => ?_
    exact one_deep c d f j (by omega) (by omega)
  | succ m ih =>
    intro d c b i hdm hc hi
    refine parse_step (m + 1) c d (by omega) b i hi fun f j hj => ?_
    exact one_step m c d hc (by omega) f j (by omega) (fun c b i hc hi => ih (d + 1) c b i (by omega) hc hi) (fun c b i => parseF_len m c b i)
theorem parse_nil0 (c : Nat) : PC Tryz.prog 142 [nat c, .sl false 1 (bys []), nat 0, nat 1] (.tup [.sl true 3 (nodesA true (parseF 4 c [] 0).1), erA (parseF 4 c [] 0).2]) :=
  parse_step 4 c 1 (by omega) [] 0 (by simp) fun f j hj => by simp at hj
mutual
def frameN : GNode → Frm
  | .mk t d k => ⟨t, d ++ joinX (framesN k)⟩
def framesN : List GNode → List Frm
  | [] => []
  | n :: l => frameN n :: framesN l
end
theorem framesN_map : ∀ l : List GNode, framesN l = l.map frameN
  | [] => rfl
  | n :: l => by rw [framesN, framesN_map l]; rfl
theorem frameN_eq (n : GNode) : frameN n = ⟨n.ty, n.data ++ joinX (framesN n.kids)⟩ := by cases n; rw [frameN]; rfl
theorem framesN_len (l : List GNode) : (framesN l).length = l.length := by rw [framesN_map]; simp
theorem upN_mono {a b : Nat} (h : a ≤ b) : upN a ≤ upN b := by unfold upN gapN; omega
theorem sumUp_mono {α : Type} (f g : α → Nat) : ∀ (l : List α) (s s' : Nat), s ≤ s' → (∀ x ∈ l, f x ≤ g x) → sumUp s (l.map f) ≤ sumUp s' (l.map g)
  | [], s, s', h, _ => h
  | x :: l, s, s', h, hl => by
    simp only [List.map_cons, sumUp]
    refine sumUp_mono f g l _ _ ?_ fun y hy => hl y (by simp [hy])
    have := upN_mono h
    have := hl x (by simp)
    omega
theorem framesT_of {l : List GNode} (h : ∀ x ∈ l, (frameN x).val.length ≤ vlen x) : tlvSize ((framesN l).map fun f => f.val.length) ≤ nSize l := by
  unfold nSize tlvSize
  rw [framesN_map, nLens_map, List.map_map, List.map_map, List.map_map]
  exact sumUp_mono _ _ l 0 0 (Nat.le_refl _) fun x hx => by simp only [Function.comp]; have := h x hx; omega
theorem joinX_le (l : List Frm) : (joinX l).length ≤ tlvSize (l.map fun f => f.val.length) := by
  unfold joinX
  split
  · rw [joinF_len]; exact Nat.le_refl _
  · simp
mutual
theorem frameN_le : ∀ n : GNode, (frameN n).val.length ≤ vlen n
  | .mk t d k => by
    have h1 := framesT_of (framesL_le k)
    have h2 := joinX_le (framesN k)
    simp only [frameN, vlen, List.length_append]
    unfold nSize at h1
    omega
theorem framesL_le : ∀ (l : List GNode), ∀ x ∈ l, (frameN x).val.length ≤ vlen x
  | [], x, h => by simp at h
  | n :: l, x, h => (List.mem_cons.1 h).elim (fun e => e ▸ frameN_le n) (fun h => framesL_le l x h)
end
theorem framesT_le (l : List GNode) : tlvSize ((framesN l).map fun f => f.val.length) ≤ nSize l := framesT_of (framesL_le l)
theorem framesN_le (l : List GNode) : (joinX (framesN l)).length ≤ nSize l := Nat.le_trans (joinX_le _) (framesT_le l)
theorem framesN_snoc (l : List GNode) (n : GNode) : framesN (l ++ [n]) = framesN l ++ [frameN n] := by rw [framesN_map, framesN_map]; simp
@[push_cast] theorem errA_zero : errA 0 = .val .nilIface := rfl
theorem frameN_ty (n : GNode) : (frameN n).ty = n.ty := by rw [frameN_eq]
theorem frames_step (w : Nat) (ih : ∀ l : List GNode, wts l < w → nSize l ≤ 2 ^ 30 → tysOk l = true → PC Tryz.prog 161 [.sl false 3 (nodesA false l)] (.sl true 2 (frmsA true (framesN l)))) (l : List GNode) (hw : wts l ≤ w) (hs : nSize l ≤ 2 ^ 30) (ht : tysOk l = true) :
    PC Tryz.prog 161 [.sl false 3 (nodesA false l)] (.sl true 2 (frmsA true (framesN l))) := by
  have hlen := nSize_len l
  refine PC.of_bodyK (by simp only [push_cast]) Tryz.func161 rfl (by rw [Tryz.ntmps161]; simp) ?_
  refine AWp.regionW ?_
  refine AWp.regionW ?_
  refine AWp.seqK fun K1 hK1 => ?_
  refine AWp.regionW ?_
  refine AWp.block ?_
  -- SLOTS THAT TURN AND ARE NOT TOLD: [3]
  refine AWp.nilOwn 3 219 2 (by simp only [push_cast, ↓reduceIte, Nat.reduceEqDiff, Nat.reduceLT, Nat.reduceAdd, Nat.reduceSub, Nat.reduceMul, Nat.reduceLeDiff, Nat.reducePow, Int.reduceLT, Int.reduceToNat, reduceCtorEq, Int.reduceNeg, Int.reduceEq, Nat.reduceBEq, Nat.reduceBNe, Int.reduceBEq, Int.reduceBNe, String.reduceEq]) ?_
  refine Go.Abs.evS2 ?_
  refine AWp.loopK [3, 8, 9] (fun (i : Nat) => [(10, nat i)]) (fun i => [.row 219 2 (frmsA true (framesN (l.take i)))]) (fun i => i ≤ l.length) (fun i => l.length - i) (0) ?_ (Nat.zero_le _) ?_
  · skip
    refine Le.m 1 ?_ ?_
    · first | exact Go.Abs.evM | (refine Go.Abs.evS ?_; rfl)
    · exact Go.Abs.evN
  · intro i hi K2 hK2
    refine AWp.regionW ?_
    refine AWp.seqK fun K3 hK3 => ?_
    refine AWp.condLM (fun c0 => ?_) (fun c0 => ?_)
    · skip
      have hil : i < l.length := by simpa using c0
      have hm := List.getElem_mem hil
      have hv := vlen_mem hm
      have he := vlen_eq l[i]
      have hk := nSize_kids hm
      have hkl := nSize_len l[i].kids
      have hkt := GNode.tyOk_kids (tysOk_mem ht _ hm)
      have hfl := framesN_le l[i].kids
      refine AWp.skip ?_
      refine hK3 _ ?_
      refine AWp.seqK fun K4 hK4 => ?_
      refine AWp.block ?_
      refine AWp.regionM fun K5 hK5 => ?_
      refine ARun2.indexM (i) (nodeA false l[i]) ?_ ?_
      · exact nodesA_at _ _ _ hil
      refine ARun2.endm (hK5 _ ?_)
      refine AWp.regionM fun K6 hK6 => ?_
      refine ARun2.callM (ih l[i].kids (by have := kids_lt hm; omega) (by omega) hkt) ?_
      refine ARun2.callM (join_c (framesN l[i].kids) (by intro f hf; rw [framesN_map] at hf; obtain ⟨n, hn, rfl⟩ := List.mem_map.1 hf; rw [frameN_ty]; exact GNode.tyOk_ty (tysOk_mem hkt _ hn)) (by have := framesT_le l[i].kids; omega) (by rw [framesN_len]; omega)) ?_
      refine ARun2.endm (hK6 _ ?_)
      have hj := wjoin_c [l[i].data, joinX (framesN l[i].kids)] (by simp [lens]; omega) (by simp)
      rw [show [l[i].data, joinX (framesN l[i].kids)].flatten = l[i].data ++ joinX (framesN l[i].kids) by simp] at hj
      refine AWp.drE [[(3, none)], [(5, none)], [(22, some 1)], [(5, none)], [(24, some 3)], [(6, none)], [(25, some 4), (26, some 5)], [(27, some 6)], [(23, some 2), (28, some 7)], [(29, some 8)]] fun G hG => ?_
      refine Dr.sim ?_
      try simp only [lca, lna]
      refine Dr.sim ?_
      try simp only [lca, lna]
      refine Dr.sim ?_
      try simp only [lca, lna]
      refine Dr.sim ?_
      try simp only [lca, lna]
      refine Dr.sim ?_
      try simp only [lca, lna]
      refine Dr.sim ?_
      try simp only [lca, lna]
      refine Dr.build ?_
      try simp only [lca, lna]
      refine Dr.call (hj) ?_
      try simp only [lca, lna]
      refine Dr.sim ?_
      try simp only [lca, lna]
      refine Dr.build ?_
      try simp only [lca, lna]
      refine Dr.finN (n := 10) [(21, 0), (30, 9)] [8, 9, 10] hG Facts.mixed fun KD hKD => ?_
      refine ARun2.appendM ?_ ?_ ?_
      · rw [Facts.eb214, frmsA_len, framesN_len, List.length_take, List.length_cons, List.length_nil]; omega
      · rw [frmsA_len, framesN_len, List.length_take, List.length_cons, List.length_nil]; omega
      refine ARun2.endm (hKD _ ?_); clear hKD KD hG G
      refine hK4 _ ?_
      refine AWp.regionV ?_
      refine hK2 _ (i + 1) (by omega) (by omega) ?_
      refine Le.m 1 ?_ ?_
      · first | exact Go.Abs.evM | (refine Go.Abs.evS ?_; rw [List.take_succ_eq_append_getElem hil, framesN_snoc, frmsA_snoc, frameN_eq l[i]]; rfl)
      · exact Go.Abs.evN
    have hil : i = l.length := by simp at c0; omega
    subst hil
    refine AWp.exit ?_
    try simp only [thenQ, blockQ, noGo, reduceIte, Nat.reduceEqDiff]
    refine hK1 _ ?_
    refine AWp.pubD 0 ?_
    refine AWp.regionW ?_
    refine AWp.ret ?_
    try simp only [thenQ, blockQ, noGo]
    refine bodyQ.m ?_
    clear hK3 K3 hK2 K2 hK1 K1
    rw [List.take_length]
    first | done | exact Wk.go
theorem frames_w : ∀ (w : Nat) (l : List GNode), wts l ≤ w → nSize l ≤ 2 ^ 30 → tysOk l = true → PC Tryz.prog 161 [.sl false 3 (nodesA false l)] (.sl true 2 (frmsA true (framesN l))) := by
  intro w
  induction w with
  | zero => exact frames_step 0 (fun l h => by omega)
  | succ w ih => exact frames_step (w + 1) (fun l h => ih l (by omega))
theorem frames_c (l : List GNode) (hs : nSize l ≤ 2 ^ 30) (ht : tysOk l = true) : PC Tryz.prog 161 [.sl false 3 (nodesA false l)] (.sl true 2 (frmsA true (framesN l))) := frames_w _ l (Nat.le_refl _) hs ht
def encN (l : List GNode) : List UInt8 := joinX (framesN l)
mutual
def refV : GNode → List UInt8
  | .mk _ d k => d ++ joinF (refFs k)
def refFs : List GNode → List Frm
  | [] => []
  | n :: l => ⟨n.ty, refV n⟩ :: refFs l
end
theorem refV_eq (n : GNode) : refV n = n.data ++ joinF (refFs n.kids) := by cases n; simp [refV, GNode.data, GNode.kids]
theorem refFs_map : ∀ l : List GNode, refFs l = l.map fun n => ⟨n.ty, refV n⟩
  | [] => by simp [refFs]
  | n :: l => by simp [refFs, refFs_map l]
mutual
theorem refV_len : ∀ n : GNode, (refV n).length = vlen n
  | .mk t d k => by rw [refV, List.length_append, joinF_len, vlen, refFs_len k]
theorem refFs_len : ∀ l : List GNode, ((refFs l).map fun f => f.val.length) = nLens l
  | [] => by simp [refFs, nLens]
  | n :: l => by simp [refFs, nLens, refV_len n, refFs_len l]
end
theorem refB_len (l : List GNode) : (joinF (refFs l)).length = nSize l := by rw [joinF_len, refFs_len]; rfl
theorem padB_mod (l : List UInt8) : (padB l).length % 4 = 0 := by rw [padB_len]; unfold upN gapN; omega
theorem padB_app (A X : List UInt8) (h : A.length % 4 = 0) : padB (A ++ X) = A ++ padB X := by
  have : gapN (A ++ X).length = gapN X.length := by rw [List.length_append]; unfold gapN; omega
  unfold padB; rw [this, List.append_assoc]
theorem join_app (A : List UInt8) (h : A.length % 4 = 0) : ∀ (l : List Frm) (X : List UInt8), l.foldl (fun out f => padB out ++ putF f) (A ++ X) = A ++ l.foldl (fun out f => padB out ++ putF f) X
  | [], X => rfl
  | f :: l, X => by rw [List.foldl_cons, List.foldl_cons, padB_app A X h, List.append_assoc, join_app A h l]
theorem padB_nil : padB [] = [] := by simp [padB, gapN]
theorem joinF_one (f : Frm) : joinF [f] = putF f := by simp [joinF, padB_nil]
theorem joinF_two (f g : Frm) (l : List Frm) : joinF (f :: g :: l) = padB (putF f) ++ joinF (g :: l) := by
  unfold joinF
  rw [List.foldl_cons, List.foldl_cons, padB_nil, List.nil_append, join_app _ (padB_mod _), List.foldl_cons, padB_nil, List.nil_append]
theorem checkL_mem {c dp : Nat} : ∀ {l : List GNode}, checkL c dp l = 0 → ∀ n ∈ l, checkN c dp n = 0
  | [], h, n, hn => by simp at hn
  | m :: l, h, n, hn => by
    rw [checkL] at h
    split at h
    · rename_i hm; exact absurd h hm
    · rename_i hm
      rcases List.mem_cons.1 hn with rfl | hn
      · simpa using hm
      · exact checkL_mem h n hn
theorem checkN_zero {c dp : Nat} {n : GNode} (h : checkN c dp n = 0) : dp ≤ 4 ∧ badN c n.ty n.data.length n.kids = false ∧ countedN c n.ty n.data = false ∧ checkL (insideN (shapeOf c n.ty).kids).1 (dp + 1) n.kids = 0 ∧ nSize [n] ≤ 65535 := by
  rw [checkN_eq] at h
  split at h
  · cases h
  · rename_i h1
    split at h
    · cases h
    · rename_i h2
      split at h
      · cases h
      · rename_i h3
        split at h
        · rename_i h4; exact absurd h h4
        · rename_i h4
          split at h
          · cases h
          · rename_i h5
            exact ⟨by omega, by simpa using h2, by simpa using h3, by simpa using h4, by omega⟩
theorem size_one (n : GNode) : nSize [n] = 4 + vlen n := by simp [nSize, nLens, tlvSize, sumUp, upN, gapN]
theorem enc_rt : ∀ (w dp c : Nat) (l : List GNode), wts l ≤ w → checkL c dp l = 0 → encN l = joinF (refFs l)
  | w, dp, c, l, hw, h => by
    have key : ∀ n ∈ l, frameN n = ⟨n.ty, refV n⟩ := by
      intro n hn
      have hz := checkN_zero (checkL_mem h n hn)
      have hlt := kids_lt hn
      match w with
      | 0 => omega
      | w + 1 =>
        have := enc_rt w (dp + 1) _ n.kids (by omega) hz.2.2.2.1
        unfold encN at this
        rw [frameN_eq, this, ← refV_eq]
    have e : framesN l = refFs l := by
      rw [framesN_map, refFs_map]
      exact List.map_congr_left key
    unfold encN joinX
    rw [e, if_pos]
    rw [List.all_eq_true]
    intro f hf
    rw [refFs_map] at hf
    obtain ⟨n, hn, rfl⟩ := List.mem_map.1 hf
    have hz := (checkN_zero (checkL_mem h n hn)).2.2.2.2
    rw [size_one] at hz
    have := refV_len n
    simp [fitF]; omega
end Go.Proofs.YtokbbdodbjiciaaGreatDoor.C
