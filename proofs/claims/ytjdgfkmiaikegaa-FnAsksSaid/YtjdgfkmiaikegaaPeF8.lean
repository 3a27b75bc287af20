/- The functions' evaluated forms, each a proved summary. Conditions: none. -/
import Derived.Test.YtjdgfkmiaikegaaPeF7
namespace Go.Proofs.Ytjdgfkmiaikegaa.Pe
open Go Go.RowKit Go.Proofs Vm
set_option linter.unusedVariables false
set_option linter.unusedSimpArgs false
set_option maxRecDepth 100000
def F_spec_DrawAskNode (fu : Nat) (code_0 : (Sl Int)) : Option (S_impl_Node × S_impl_Entry) :=
 ((F_spec_l1Source_M fu code_0).bind fun y1308 => ((F_spec_l8Node_M fu y1308.1 y1308.2).bind fun y1309 => ((F_spec_l1Max fu 1 y1309.2.2.1).bind fun y1310 => ((F_spec_l7Entry_M fu y1310 y1309.2.2.2.2.2.2.2.2.2.2.1 y1309.2.2.2.2.2.2.2.2.2.2.2.1).bind fun y1311 =>
  ((F_spec_l1Chance_M fu 6 y1311.2.2.2.2.2.2.2.2.2.1 y1311.2.2.2.2.2.2.2.2.2.2).bind fun y1312 => (bif y1312.1 then ((F_spec_l1Pick_M fu (⟨(some false), 3, (fun i => ([1, 0,
  (IntKind.wrap .i64 (y1309.2.2.1 + 1))] : List (Int)).getD i (dflt .i64))⟩ : (Sl Int)) y1312.2.1 y1312.2.2).bind fun y1313 => (some ((⟨y1309.1, y1309.2.1, y1309.2.2.1,
  y1309.2.2.2.1, (⟨none, y1309.2.2.2.2.1, y1309.2.2.2.2.2.2.2.2.2.2.2.2.2.1⟩ : (Sl S_impl_Entry)), y1309.2.2.2.2.2.1, y1309.2.2.2.2.2.2.1, (⟨none, y1309.2.2.2.2.2.2.2.1,
  y1309.2.2.2.2.2.2.2.2.2.2.2.2.2.2.2.1⟩ : (Sl Int)), (⟨none, y1309.2.2.2.2.2.2.2.2.1, y1309.2.2.2.2.2.2.2.2.2.2.2.2.2.2.2.2.2.1⟩ : (Sl Int)), (⟨none, y1309.2.2.2.2.2.2.2.2.2.1,
  y1309.2.2.2.2.2.2.2.2.2.2.2.2.2.2.2.2.2.2.2⟩ : (Sl Int))⟩ : S_impl_Node), (⟨y1313.1, y1311.2.1, y1311.2.2.1, (⟨y1311.2.2.2.1, y1311.2.2.2.2.1, y1311.2.2.2.2.2.1,
  y1311.2.2.2.2.2.2.1, y1311.2.2.2.2.2.2.2.1, y1311.2.2.2.2.2.2.2.2.1⟩ : S_impl_Cmd)⟩ : S_impl_Entry)))) else (some ((⟨y1309.1, y1309.2.1, y1309.2.2.1, y1309.2.2.2.1, (⟨none,
  y1309.2.2.2.2.1, y1309.2.2.2.2.2.2.2.2.2.2.2.2.2.1⟩ : (Sl S_impl_Entry)), y1309.2.2.2.2.2.1, y1309.2.2.2.2.2.2.1, (⟨none, y1309.2.2.2.2.2.2.2.1,
  y1309.2.2.2.2.2.2.2.2.2.2.2.2.2.2.2.1⟩ : (Sl Int)), (⟨none, y1309.2.2.2.2.2.2.2.2.1, y1309.2.2.2.2.2.2.2.2.2.2.2.2.2.2.2.2.2.1⟩ : (Sl Int)), (⟨none, y1309.2.2.2.2.2.2.2.2.2.1,
  y1309.2.2.2.2.2.2.2.2.2.2.2.2.2.2.2.2.2.2.2⟩ : (Sl Int))⟩ : S_impl_Node), (⟨y1311.1, y1311.2.1, y1311.2.2.1, (⟨y1311.2.2.2.1, y1311.2.2.2.2.1, y1311.2.2.2.2.2.1,
  y1311.2.2.2.2.2.2.1, y1311.2.2.2.2.2.2.2.1, y1311.2.2.2.2.2.2.2.2.1⟩ : S_impl_Cmd)⟩ : S_impl_Entry)))))))))
def pcf_b28 (fu f : Nat) (xs : List (D RT den)) : Option (Out RT den) := match f with | 55 => S_b18 fu xs | _ => none
def pcx_b28 (fu f : Nat) (xs : List (D RT den)) (ins : List (Ob RT den)) : Option (OutX RT den) := match f with | 52 => S_b17 fu xs ins | 53 => S_b27 fu xs ins | 54 => S_b23 fu xs ins | 56 => S_b21 fu xs ins | 57 => S_b20 fu xs ins | _ => none
def pcd_b28 : Nat → Bool := fun _ => false
def pc_b28 (fu : Nat) : Pc RT den := ⟨pcf_b28 fu, fun f => match f with | 52 => true | 53 => true | 54 => true | 56 => true | 57 => true | _ => false, fun f => match f with | 52 => true | 53 => true | 54 => true | 56 => true | 57 => true | _ => false, pcd_b28, fun f => match f with | 53 => true | 54 => true | 56 => true | _ => false, pcx_b28 fu⟩
def msk_b28 (b : Nat) : List Nat := match b with | 500006 => [8] | _ => []
def lp_b28 (fu : Nat) : Lp RT den (S_impl_Node × S_impl_Entry) := ⟨fun b s k => none, inl0⟩
theorem ev_b28 (fu : Nat) (code_0 : (Sl Int)) : evFun E (pc_b28 fu) msk_b28 (lp_b28 fu) out_impl_Node_impl_Entry 18 [(.rs code_0.z .u8 code_0.n code_0.f)] = F_spec_DrawAskNode fu code_0 := by kernel_rfl
noncomputable def body_b28 : Code := Try.f18.body.getD .skip
theorem lpok_b28 (fu : Nat) : LpOk E (pc_b28 fu) 0 msk_b28 (lp_b28 fu) (loops 0 body_b28) := lp_nil (loop_nil (by kernel_rfl)) (by kernel_rfl)
def S_b28 (fu : Nat) (xs : List (D RT den)) : Option (Out RT den) := match xs with | [.rs za0_0 .u8 na0_0 fa0_0] => some ⟨S_impl_Node × S_impl_Entry, F_spec_DrawAskNode fu (⟨za0_0, na0_0, fa0_0⟩ : (Sl Int)), enc_impl_Node_impl_Entry, fun _ => true⟩ | _ => none
theorem hpc_b28 (fu : Nat) : HpcOk E Try.prog (pcf_b28 fu) := by
 intro f xs o h
 unfold pcf_b28 at h
 split at h
 ·exact good_b18 fu xs o h
 ·cases h
theorem hpx_b28 (fu : Nat) : HpxOk E Try.prog pcd_b28 (pcx_b28 fu) := by
 intro f xs ins o h
 unfold pcx_b28 at h
 split at h
 ·exact good_b17 fu xs ins o h
 ·exact good_b27 fu xs ins o h
 ·exact good_b23 fu xs ins o h
 ·exact good_b21 fu xs ins o h
 ·exact good_b20 fu xs ins o h
 ·cases h
theorem goodv_b28 (fu : Nat) (code_0 : (Sl Int)) (y : S_impl_Node × S_impl_Entry) (hy : F_spec_DrawAskNode fu code_0 = some y) : Good E Try.prog 18 [(.rs code_0.z .u8 code_0.n code_0.f)] (enc_impl_Node_impl_Entry y) :=
 fun_good E_ok (pc_good (pc := pc_b28 fu) (hpc_b28 fu) (hpx_b28 fu)) (fn := Try.f18) (by kernel_rfl) (by kernel_rfl) (by kernel_rfl) (lpok_b28 fu) (fun d hd => out_impl_Node_impl_Entry_enc d _ hd) ((ev_b28 fu code_0).trans hy)
theorem good_b28 (fu : Nat) : GoodS E Try.prog 18 (S_b28 fu) := by
 intro xs o h y hy
 unfold S_b28 at h
 split at h
 ·rename_i za0_0 na0_0 fa0_0
  cases h
  exact goodv_b28 fu (⟨za0_0, na0_0, fa0_0⟩ : (Sl Int)) y hy
 ·cases h
def F_impl_LastOf (fu : Nat) (log_0 : (Sl S_impl_Entry)) : Option (S_impl_Entry) :=
 ((F_impl_last fu log_0).bind fun y1314 => (some y1314))
def pcf_b29 (fu f : Nat) (xs : List (D RT den)) : Option (Out RT den) := match f with | 35 => S_a21 fu xs | _ => none
def pc_b29 (fu : Nat) : Pc RT den := ⟨pcf_b29 fu, fun _ => false, fun _ => false, pcd0, pcd0, pcx0⟩
def msk_b29 (b : Nat) : List Nat := []
def lp_b29 (fu : Nat) : Lp RT den (S_impl_Entry) := ⟨fun b s k => none, inl0⟩
theorem ev_b29 (fu : Nat) (log_0 : (Sl S_impl_Entry)) : evFun E (pc_b29 fu) msk_b29 (lp_b29 fu) out_impl_Entry 22 [(.rs log_0.z .impl_Entry log_0.n log_0.f)] = F_impl_LastOf fu log_0 := by kernel_rfl
noncomputable def body_b29 : Code := Try.f22.body.getD .skip
theorem lpok_b29 (fu : Nat) : LpOk E (pc_b29 fu) 0 msk_b29 (lp_b29 fu) (loops 0 body_b29) := lp_nil (loop_nil (by kernel_rfl)) (by kernel_rfl)
def S_b29 (fu : Nat) (xs : List (D RT den)) : Option (Out RT den) := match xs with | [.rs za0_0 .impl_Entry na0_0 fa0_0] => some ⟨S_impl_Entry, F_impl_LastOf fu (⟨za0_0, na0_0, fa0_0⟩ : (Sl S_impl_Entry)), enc_impl_Entry, fun _ => true⟩ | _ => none
theorem hpc_b29 (fu : Nat) : HpcOk E Try.prog (pcf_b29 fu) := by
 intro f xs o h
 unfold pcf_b29 at h
 split at h
 ·exact good_a21 fu xs o h
 ·cases h
theorem goodv_b29 (fu : Nat) (log_0 : (Sl S_impl_Entry)) (y : S_impl_Entry) (hy : F_impl_LastOf fu log_0 = some y) : Good E Try.prog 22 [(.rs log_0.z .impl_Entry log_0.n log_0.f)] (enc_impl_Entry y) :=
 fun_good E_ok (pc_good (pc := pc_b29 fu) (hpc_b29 fu) hpx0) (fn := Try.f22) (by kernel_rfl) (by kernel_rfl) (by kernel_rfl) (lpok_b29 fu) (fun d hd => out_impl_Entry_enc d _ hd) ((ev_b29 fu log_0).trans hy)
theorem good_b29 (fu : Nat) : GoodS E Try.prog 22 (S_b29 fu) := by
 intro xs o h y hy
 unfold S_b29 at h
 split at h
 ·rename_i za0_0 na0_0 fa0_0
  cases h
  exact goodv_b29 fu (⟨za0_0, na0_0, fa0_0⟩ : (Sl S_impl_Entry)) y hy
 ·cases h
def F_laws_FnAsks (fu : Nat) (code_0 : (Sl Int)) : Option (Bool) :=
 ((F_laws_lwBig fu code_0).bind fun y1 => (bif y1 then (some true) else ((F_spec_DrawAskNode fu code_0).bind fun y2 => ((F_impl_TimeoutNode_U fu y2.1).bind fun y157 =>
  ((F_spec_TimeoutNode_U fu y2.1).bind fun y353 => (bif (y157.1 != y353.1) then (some false) else (bif (y157.1 == 0) then ((F_impl_NodeFault fu (⟨y157.2.1, y157.2.2.1,
  y157.2.2.2.1, y157.2.2.2.2.1, (⟨none, y157.2.2.2.2.2.1, y157.2.2.2.2.2.2.2.2.2.2.2.2.2.1⟩ : (Sl S_impl_Entry)), y157.2.2.2.2.2.2.1, y157.2.2.2.2.2.2.2.1, (⟨none,
  y157.2.2.2.2.2.2.2.2.1, y157.2.2.2.2.2.2.2.2.2.2.2.2.2.2.2.1⟩ : (Sl Int)), (⟨none, y157.2.2.2.2.2.2.2.2.2.1, y157.2.2.2.2.2.2.2.2.2.2.2.2.2.2.2.2.2.1⟩ : (Sl Int)), (⟨none,
  y157.2.2.2.2.2.2.2.2.2.2.1, y157.2.2.2.2.2.2.2.2.2.2.2.2.2.2.2.2.2.2.2.1⟩ : (Sl Int))⟩ : S_impl_Node)).bind fun y354 => (bif (y354 != 0) then (some false) else (bif (y157.2.2.2.1 != (IntKind.wrap .i64 (y2.1.Term + 1))) then
  (some false) else (bif (y157.2.2.2.2.1 != y2.1.Id) then (some false) else (bif (((y157.2.2.2.2.2.2.2.2.2.2.2.1 : Nat) : Int) != (IntKind.wrap .i64 (y2.1.Peers - 1))) then (some false) else
  ((F_impl_AskNode_U fu y2.1 y2.2).bind fun y377 => (bif (y377.1 != 0) then ((F_spec_AskNode_U fu y2.1 y2.2).bind fun y405 => (some (y405.1 == y377.1))) else ((F_impl_SpreadNode_U fu (⟨y377.2.1,
  y377.2.2.1, y377.2.2.2.1, y377.2.2.2.2.1, (⟨none, y377.2.2.2.2.2.1, y377.2.2.2.2.2.2.2.2.2.2.2.2.2.1⟩ : (Sl S_impl_Entry)), y377.2.2.2.2.2.2.1, y377.2.2.2.2.2.2.2.1, (⟨none,
  y377.2.2.2.2.2.2.2.2.1, y377.2.2.2.2.2.2.2.2.2.2.2.2.2.2.2.1⟩ : (Sl Int)), (⟨none, y377.2.2.2.2.2.2.2.2.2.1, y377.2.2.2.2.2.2.2.2.2.2.2.2.2.2.2.2.2.1⟩ : (Sl Int)), (⟨none,
  y377.2.2.2.2.2.2.2.2.2.2.1, y377.2.2.2.2.2.2.2.2.2.2.2.2.2.2.2.2.2.2.2.1⟩ : (Sl Int))⟩ : S_impl_Node)).bind fun y429 => ((((F_impl_NodeFault fu (⟨y377.2.1, y377.2.2.1,
  y377.2.2.2.1, y377.2.2.2.2.1, (⟨none, y377.2.2.2.2.2.1, y377.2.2.2.2.2.2.2.2.2.2.2.2.2.1⟩ : (Sl S_impl_Entry)), y377.2.2.2.2.2.2.1, y377.2.2.2.2.2.2.2.1, (⟨none,
  y377.2.2.2.2.2.2.2.2.1, y377.2.2.2.2.2.2.2.2.2.2.2.2.2.2.2.1⟩ : (Sl Int)), (⟨none, y377.2.2.2.2.2.2.2.2.2.1, y377.2.2.2.2.2.2.2.2.2.2.2.2.2.2.2.2.2.1⟩ : (Sl Int)), (⟨none,
  y377.2.2.2.2.2.2.2.2.2.2.1, y377.2.2.2.2.2.2.2.2.2.2.2.2.2.2.2.2.2.2.2.1⟩ : (Sl Int))⟩ : S_impl_Node)).bind fun y430 => (bif (y430 == 0) then ((F_impl_LastOf fu (⟨none,
  y377.2.2.2.2.2.1, y377.2.2.2.2.2.2.2.2.2.2.2.2.2.1⟩ : (Sl S_impl_Entry))).bind fun y431 => (bif ((y431.Term == y2.2.Term) && ((y431.Client == y2.2.Client) && ((y431.Seq == y2.2.Seq) &&
  ((y431.Cmd.Kind == y2.2.Cmd.Kind) && ((y431.Cmd.Expect == y2.2.Cmd.Expect) && ((y431.Cmd.Name == y2.2.Cmd.Name) && ((y431.Cmd.Addr == y2.2.Cmd.Addr) && ((y431.Cmd.Number == y2.2.Cmd.Number) &&
  ((y431.Cmd.Proto == y2.2.Cmd.Proto) && true))))))))) then (bif (((y377.2.2.2.2.2.1 : Nat) : Int) == (IntKind.wrap .i64 (((y2.1.Log.n : Nat) : Int) + 1))) then (bif (y429.1 == 0) then
  (bif (((y429.2.2.2.2.2.2.2.2.2.2.2.1 : Nat) : Int) == (IntKind.wrap .i64 (y2.1.Peers - 1))) then (bif (decide (y2.1.Peers > 1)) then (some true) else (some (y377.2.2.2.2.2.2.2.1 == ((y377.2.2.2.2.2.1 : Nat) : Int)))) else
  (some false)) else (some false)) else (some false)) else (some false))) else (some false))) : Option Bool).bind fun m432 => (some m432)))))))))) else ((F_impl_AskNode_U fu y2.1 y2.2).bind fun y433 =>
  (bif (y433.1 != 0) then ((F_spec_AskNode_U fu y2.1 y2.2).bind fun y434 => (some (y434.1 == y433.1))) else ((F_impl_SpreadNode_U fu (⟨y433.2.1, y433.2.2.1, y433.2.2.2.1,
  y433.2.2.2.2.1, (⟨none, y433.2.2.2.2.2.1, y433.2.2.2.2.2.2.2.2.2.2.2.2.2.1⟩ : (Sl S_impl_Entry)), y433.2.2.2.2.2.2.1, y433.2.2.2.2.2.2.2.1, (⟨none, y433.2.2.2.2.2.2.2.2.1,
  y433.2.2.2.2.2.2.2.2.2.2.2.2.2.2.2.1⟩ : (Sl Int)), (⟨none, y433.2.2.2.2.2.2.2.2.2.1, y433.2.2.2.2.2.2.2.2.2.2.2.2.2.2.2.2.2.1⟩ : (Sl Int)), (⟨none, y433.2.2.2.2.2.2.2.2.2.2.1,
  y433.2.2.2.2.2.2.2.2.2.2.2.2.2.2.2.2.2.2.2.1⟩ : (Sl Int))⟩ : S_impl_Node)).bind fun y435 => ((((F_impl_NodeFault fu (⟨y433.2.1, y433.2.2.1, y433.2.2.2.1, y433.2.2.2.2.1, (⟨none,
  y433.2.2.2.2.2.1, y433.2.2.2.2.2.2.2.2.2.2.2.2.2.1⟩ : (Sl S_impl_Entry)), y433.2.2.2.2.2.2.1, y433.2.2.2.2.2.2.2.1, (⟨none, y433.2.2.2.2.2.2.2.2.1,
  y433.2.2.2.2.2.2.2.2.2.2.2.2.2.2.2.1⟩ : (Sl Int)), (⟨none, y433.2.2.2.2.2.2.2.2.2.1, y433.2.2.2.2.2.2.2.2.2.2.2.2.2.2.2.2.2.1⟩ : (Sl Int)), (⟨none, y433.2.2.2.2.2.2.2.2.2.2.1,
  y433.2.2.2.2.2.2.2.2.2.2.2.2.2.2.2.2.2.2.2.1⟩ : (Sl Int))⟩ : S_impl_Node)).bind fun y436 => (bif (y436 == 0) then ((F_impl_LastOf fu (⟨none, y433.2.2.2.2.2.1,
  y433.2.2.2.2.2.2.2.2.2.2.2.2.2.1⟩ : (Sl S_impl_Entry))).bind fun y437 => (bif ((y437.Term == y2.2.Term) && ((y437.Client == y2.2.Client) && ((y437.Seq == y2.2.Seq) &&
  ((y437.Cmd.Kind == y2.2.Cmd.Kind) && ((y437.Cmd.Expect == y2.2.Cmd.Expect) && ((y437.Cmd.Name == y2.2.Cmd.Name) && ((y437.Cmd.Addr == y2.2.Cmd.Addr) && ((y437.Cmd.Number == y2.2.Cmd.Number) &&
  ((y437.Cmd.Proto == y2.2.Cmd.Proto) && true))))))))) then (bif (((y433.2.2.2.2.2.1 : Nat) : Int) == (IntKind.wrap .i64 (((y2.1.Log.n : Nat) : Int) + 1))) then (bif (y435.1 == 0) then
  (bif (((y435.2.2.2.2.2.2.2.2.2.2.2.1 : Nat) : Int) == (IntKind.wrap .i64 (y2.1.Peers - 1))) then (bif (decide (y2.1.Peers > 1)) then (some true) else (some (y433.2.2.2.2.2.2.2.1 == ((y433.2.2.2.2.2.1 : Nat) : Int)))) else
  (some false)) else (some false)) else (some false)) else (some false))) else (some false))) : Option Bool).bind fun m438 => (some m438))))))))))))
def pcf_b30 (fu f : Nat) (xs : List (D RT den)) : Option (Out RT den) := match f with | 17 => S_b16 fu xs | 18 => S_b28 fu xs | 19 => S_a29 fu xs | 22 => S_b29 fu xs | _ => none
def pcx_b30 (fu f : Nat) (xs : List (D RT den)) (ins : List (Ob RT den)) : Option (OutX RT den) := match f with | 9 => S_b15 fu xs ins | 15 => S_b10 fu xs ins | 16 => S_a30 fu xs ins | 20 => S_b13 fu xs ins | 21 => S_b14 fu xs ins | _ => none
def pcd_b30 : Nat → Bool := fun f => match f with | 9 => true | 15 => true | 16 => true | 20 => true | 21 => true | _ => false
def pc_b30 (fu : Nat) : Pc RT den := ⟨pcf_b30 fu, fun f => match f with | 9 => true | 15 => true | 16 => true | 20 => true | 21 => true | _ => false, fun _ => false, pcd_b30, pcd0, pcx_b30 fu⟩
def msk_b30 (b : Nat) : List Nat := match b with | 200011 => [2] | _ => []
def lp_b30 (fu : Nat) : Lp RT den (Bool) := ⟨fun b s k => none, inl0⟩
theorem ev_b30 (fu : Nat) (code_0 : (Sl Int)) : evFun E (pc_b30 fu) msk_b30 (lp_b30 fu) out_bo 5 [(.rs code_0.z .u8 code_0.n code_0.f)] = F_laws_FnAsks fu code_0 := by kernel_rfl
noncomputable def body_b30 : Code := Try.f5.body.getD .skip
theorem lpok_b30 (fu : Nat) : LpOk E (pc_b30 fu) 0 msk_b30 (lp_b30 fu) (loops 0 body_b30) := lp_nil (loop_nil (by kernel_rfl)) (by kernel_rfl)
def S_b30 (fu : Nat) (xs : List (D RT den)) : Option (Out RT den) := match xs with | [.rs za0_0 .u8 na0_0 fa0_0] => some ⟨Bool, F_laws_FnAsks fu (⟨za0_0, na0_0, fa0_0⟩ : (Sl Int)), enc_bo, fun _ => true⟩ | _ => none
theorem hpc_b30 (fu : Nat) : HpcOk E Try.prog (pcf_b30 fu) := by
 intro f xs o h
 unfold pcf_b30 at h
 split at h
 ·exact good_b16 fu xs o h
 ·exact good_b28 fu xs o h
 ·exact good_a29 fu xs o h
 ·exact good_b29 fu xs o h
 ·cases h
theorem hpx_b30 (fu : Nat) : HpxOk E Try.prog pcd_b30 (pcx_b30 fu) := by
 intro f xs ins o h
 unfold pcx_b30 at h
 split at h
 ·exact good_b15 fu xs ins o h
 ·exact good_b10 fu xs ins o h
 ·exact good_a30 fu xs ins o h
 ·exact good_b13 fu xs ins o h
 ·exact good_b14 fu xs ins o h
 ·cases h
theorem goodv_b30 (fu : Nat) (code_0 : (Sl Int)) (y : Bool) (hy : F_laws_FnAsks fu code_0 = some y) : Good E Try.prog 5 [(.rs code_0.z .u8 code_0.n code_0.f)] (enc_bo y) :=
 fun_good E_ok (pc_good (pc := pc_b30 fu) (hpc_b30 fu) (hpx_b30 fu)) (fn := Try.f5) (by kernel_rfl) (by kernel_rfl) (by kernel_rfl) (lpok_b30 fu) (fun d hd => out_bo_enc d _ hd) ((ev_b30 fu code_0).trans hy)
theorem good_b30 (fu : Nat) : GoodS E Try.prog 5 (S_b30 fu) := by
 intro xs o h y hy
 unfold S_b30 at h
 split at h
 ·rename_i za0_0 na0_0 fa0_0
  cases h
  exact goodv_b30 fu (⟨za0_0, na0_0, fa0_0⟩ : (Sl Int)) y hy
 ·cases h
end Go.Proofs.Ytjdgfkmiaikegaa.Pe
