/- The functions' evaluated forms, each a proved summary. Conditions: none. -/
import Derived.Test.YtmnbmponjhglcaaPeF3
namespace Go.Proofs.Ytmnbmponjhglcaa.Pe
open Go Go.RowKit Go.Proofs Vm
set_option linter.unusedVariables false
set_option linter.unusedSimpArgs false
set_option maxRecDepth 100000
/-! laws.heldCmdsResult -/
def F_laws_heldCmdsResult (fu : Nat) (a_0 : S_impl_CmdsResult) (k_1 : Int) : Option (Int) :=
  ((F_laws_heldCmdS fu a_0.Cmds k_1).bind fun y238 => (bif (decide (y238 < 0)) then (some (-1)) else (some y238)))
def pcf_b28 (fu : Nat) (f : Nat) (xs : List (D RT den)) : Option (Out RT den) := match f with | 81 => S_b27 fu xs | _ => none
def pc_b28 (fu : Nat) : Pc RT den := ⟨pcf_b28 fu, fun _ => false, fun _ => false, pcd0, pcx0⟩
def msk_b28 (b : Nat) : List Nat := []
def lp_b28 (fu : Nat) : Lp RT den (Int) := fun b s k => none
theorem ev_b28 (fu : Nat) (a_0 : S_impl_CmdsResult) (k_1 : Int) : evFun E (pc_b28 fu) msk_b28 (lp_b28 fu) out_i64 28 [(.agg [(.int .i64 a_0.Code), (.rs a_0.Cmds.z .impl_Cmd a_0.Cmds.n a_0.Cmds.f)]), (.int .i64 k_1)] = F_laws_heldCmdsResult fu a_0 k_1 := by kernel_rfl
noncomputable def body_b28 : Code := Try.f28.body.getD .skip
theorem lpok_b28 (fu : Nat) : LpOk E (pc_b28 fu) msk_b28 (lp_b28 fu) (loops 0 body_b28) := by
  have h : loops 0 body_b28 = [] := by kernel_rfl
  rw [h]; intro p hp; cases hp
def S_b28 (fu : Nat) (xs : List (D RT den)) : Option (Out RT den) := match xs with | [.agg [.int .i64 a0_1, .rs za0_2 .impl_Cmd na0_2 fa0_2], .int .i64 a1_0] => some ⟨Int, F_laws_heldCmdsResult fu (⟨a0_1, (⟨za0_2, na0_2, fa0_2⟩ : (Sl S_impl_Cmd))⟩ : S_impl_CmdsResult) a1_0, enc_i64, fun _ => true⟩ | _ => none
theorem hpc_b28 (fu : Nat) : ∀ f xs o, pcf_b28 fu f xs = some o → ∀ y, o.x = some y → Good E Try.prog f xs (o.g y) := by
  intro f xs o h
  unfold pcf_b28 at h
  split at h
  · exact good_b27 fu xs o h
  · cases h
theorem goodv_b28 (fu : Nat) (a_0 : S_impl_CmdsResult) (k_1 : Int) (y : Int) (hy : F_laws_heldCmdsResult fu a_0 k_1 = some y) : Good E Try.prog 28 [(.agg [(.int .i64 a_0.Code), (.rs a_0.Cmds.z .impl_Cmd a_0.Cmds.n a_0.Cmds.f)]), (.int .i64 k_1)] (enc_i64 y) :=
  fun_good E_ok (pc_good (pc := pc_b28 fu) (hpc_b28 fu) hpx0) (fn := Try.f28) (c := body_b28) (out := out_i64) (y := y) (by kernel_rfl) (by kernel_rfl) (by kernel_rfl) (lpok_b28 fu) (fun d hd => out_i64_enc d _ hd) ((ev_b28 fu a_0 k_1).trans hy)
theorem good_b28 (fu : Nat) : ∀ xs o, S_b28 fu xs = some o → ∀ y, o.x = some y → Good E Try.prog 28 xs (o.g y) := by
  intro xs o h y hy
  unfold S_b28 at h
  split at h
  · rename_i a0_1 za0_2 na0_2 fa0_2 a1_0
    cases h
    exact goodv_b28 fu (⟨a0_1, (⟨za0_2, na0_2, fa0_2⟩ : (Sl S_impl_Cmd))⟩ : S_impl_CmdsResult) a1_0 y hy
  · cases h

/-! laws.FnExactUpCmds -/
def F_laws_FnExactUpCmds (fu : Nat) (aC_0 : S_laws_Config) (aList_1 : (Sl S_impl_Verdict)) (aProbers_2 : Int) : Option (Bool) :=
  ((F_laws_szConfig fu aC_0 1048576).bind fun y1 => (bif (decide (y1 < 0)) then (some true) else ((F_laws_szVerdictS fu aList_1 y1).bind fun y2 => (bif (decide (y2 < 0)) then (some true) else
    ((F_laws_toConfig_U fu aC_0).bind fun y17 => ((F_laws_toVerdictS_H fu aList_1).bind fun y22 => ((F_spec_UpCmds_H fu (⟨y17.1, (⟨none, y17.2.1, y17.2.2.2.2.1⟩ : (Sl S_impl_Backend)),
    (⟨none, y17.2.2.1, y17.2.2.2.2.2.2⟩ : (Sl S_impl_Vip))⟩ : S_impl_Config) (⟨none, y22.n, y22.f⟩ : (Sl S_impl_Verdict)) aProbers_2).bind fun y93 => ((F_laws_toConfig_U fu aC_0).bind fun y94 =>
    ((F_laws_toVerdictS_H fu aList_1).bind fun y95 => ((F_impl_UpCmds_H fu (⟨y94.1, (⟨none, y94.2.1, y94.2.2.2.2.1⟩ : (Sl S_impl_Backend)), (⟨none, y94.2.2.1, y94.2.2.2.2.2.2⟩ : (Sl S_impl_Vip))⟩ : S_impl_Config) (⟨none,
    y95.n, y95.f⟩ : (Sl S_impl_Verdict)) aProbers_2).bind fun y193 => ((F_laws_eqCmdsResult fu (⟨y193.Code, (⟨none, y193.Cmds.n, y193.Cmds.f⟩ : (Sl S_impl_Cmd))⟩ : S_impl_CmdsResult) (⟨y93.Code,
    (⟨none, y93.Cmds.n, y93.Cmds.f⟩ : (Sl S_impl_Cmd))⟩ : S_impl_CmdsResult)).bind fun y194 => (bif (!y194) then (some false) else ((F_laws_toConfig_U fu aC_0).bind fun y195 =>
    ((F_laws_eqConfig fu (⟨y94.1, (⟨none, y94.2.1, y94.2.2.2.2.1⟩ : (Sl S_impl_Backend)), (⟨none, y94.2.2.1, y94.2.2.2.2.2.2⟩ : (Sl S_impl_Vip))⟩ : S_impl_Config) (⟨y195.1, (⟨none,
    y195.2.1, y195.2.2.2.2.1⟩ : (Sl S_impl_Backend)), (⟨none, y195.2.2.1, y195.2.2.2.2.2.2⟩ : (Sl S_impl_Vip))⟩ : S_impl_Config)).bind fun y196 => (bif (!y196) then (some false) else
    ((F_laws_toVerdictS_H fu aList_1).bind fun y197 => ((F_laws_eqVerdictS fu (⟨none, y95.n, y95.f⟩ : (Sl S_impl_Verdict)) (⟨none, y197.n, y197.f⟩ : (Sl S_impl_Verdict))).bind fun y198 =>
    (bif (!y198) then (some false) else ((F_laws_markConfig_U fu y94.1 y94.2.1 y94.2.2.1 1 y94.2.2.2.1 y94.2.2.2.2.1 y94.2.2.2.2.2.1 y94.2.2.2.2.2.1 y94.2.2.2.2.2.2).bind fun y208 =>
    ((F_laws_markVerdictS_L fu y95.n y208.1 y95.n y95.f).bind fun y211 => (((bif (decide (y211.1 < 0)) then (some true) else ((F_laws_eqCmdsResult fu (⟨y193.Code, (⟨none,
    y193.Cmds.n, y193.Cmds.f⟩ : (Sl S_impl_Cmd))⟩ : S_impl_CmdsResult) (⟨y93.Code, (⟨none, y93.Cmds.n, y93.Cmds.f⟩ : (Sl S_impl_Cmd))⟩ : S_impl_CmdsResult)).bind fun y212 => (some (!y212)))) : Option Bool).bind fun m213 =>
    (bif m213 then (some false) else ((F_laws_markCmdsResult_L fu y193.Code y193.Cmds.n 1 y193.Cmds.n y193.Cmds.f).bind fun y217 => ((F_laws_heldCmdsResult fu (⟨y193.Code, (⟨none,
    y193.Cmds.n, y217.2.2⟩ : (Sl S_impl_Cmd))⟩ : S_impl_CmdsResult) 1).bind fun y218 => (bif (decide (y218 < 0)) then (some false) else (bif (y218 != y217.1) then (some false) else
    ((F_laws_toConfig_U fu aC_0).bind fun y219 => ((F_laws_toVerdictS_H fu aList_1).bind fun y220 => ((F_impl_UpCmds_H fu (⟨y219.1, (⟨none, y219.2.1, y219.2.2.2.2.1⟩ : (Sl S_impl_Backend)),
    (⟨none, y219.2.2.1, y219.2.2.2.2.2.2⟩ : (Sl S_impl_Vip))⟩ : S_impl_Config) (⟨none, y220.n, y220.f⟩ : (Sl S_impl_Verdict)) aProbers_2).bind fun y221 => ((F_laws_eqCmdsResult fu (⟨y221.Code,
    (⟨none, y221.Cmds.n, y221.Cmds.f⟩ : (Sl S_impl_Cmd))⟩ : S_impl_CmdsResult) (⟨y93.Code, (⟨none, y93.Cmds.n, y93.Cmds.f⟩ : (Sl S_impl_Cmd))⟩ : S_impl_CmdsResult)).bind fun y222 =>
    (bif (!y222) then (some false) else ((F_laws_heldCmdsResult fu (⟨y193.Code, (⟨none, y193.Cmds.n, y217.2.2⟩ : (Sl S_impl_Cmd))⟩ : S_impl_CmdsResult) 1).bind fun y223 => (bif (decide (y223 < 0)) then
    (some false) else (bif (y223 != y217.1) then (some false) else (some true)))))))))))))))))))))))))))))))))))
def pcf_b29 (fu : Nat) (f : Nat) (xs : List (D RT den)) : Option (Out RT den) := match f with | 16 => S_b14 fu xs | 17 => S_b15 fu xs | 22 => S_b18 fu xs | 23 => S_b24 fu xs | 24 => S_b26 fu xs | 28 => S_b28 fu xs | _ => none
def pcx_b29 (fu : Nat) (f : Nat) (xs : List (D RT den)) (ins : List (Ob RT den)) : Option (OutX RT den) := match f with | 18 => S_a22 fu xs ins | 19 => S_a5 fu xs ins | 20 => S_a7 fu xs ins | 21 => S_b2 fu xs ins | 25 => S_b6 fu xs ins | 26 => S_b7 fu xs ins | 27 => S_b9 fu xs ins | _ => none
def pcd_b29 : Nat → Bool := fun f => match f with | 19 => true | 25 => true | _ => false
def pc_b29 (fu : Nat) : Pc RT den := ⟨pcf_b29 fu, fun f => match f with | 18 => true | 19 => true | 20 => true | 21 => true | 25 => true | 26 => true | 27 => true | _ => false, fun f => match f with | 25 => true | 26 => true | 27 => true | _ => false, pcd_b29, pcx_b29 fu⟩
def msk_b29 (b : Nat) : List Nat := match b with | 200021 => [67] | _ => []
def lp_b29 (fu : Nat) : Lp RT den (Bool) := fun b s k => none
theorem ev_b29 (fu : Nat) (aC_0 : S_laws_Config) (aList_1 : (Sl S_impl_Verdict)) (aProbers_2 : Int) : evFun E (pc_b29 fu) msk_b29 (lp_b29 fu) out_bo 4 [(.agg [(.int .i64 aC_0.Version), (.rs aC_0.Backends.z .impl_Backend aC_0.Backends.n aC_0.Backends.f), (.rs aC_0.Vips.z .impl_Vip aC_0.Vips.n aC_0.Vips.f)]), (.rs aList_1.z .impl_Verdict aList_1.n aList_1.f), (.int .i64 aProbers_2)] = F_laws_FnExactUpCmds fu aC_0 aList_1 aProbers_2 := by kernel_rfl
noncomputable def body_b29 : Code := Try.f4.body.getD .skip
theorem lpok_b29 (fu : Nat) : LpOk E (pc_b29 fu) msk_b29 (lp_b29 fu) (loops 0 body_b29) := by
  have h : loops 0 body_b29 = [] := by kernel_rfl
  rw [h]; intro p hp; cases hp
def S_b29 (fu : Nat) (xs : List (D RT den)) : Option (Out RT den) := match xs with | [.agg [.int .i64 a0_1, .rs za0_2 .impl_Backend na0_2 fa0_2, .rs za0_3 .impl_Vip na0_3 fa0_3], .rs za1_0 .impl_Verdict na1_0 fa1_0, .int .i64 a2_0] => some ⟨Bool, F_laws_FnExactUpCmds fu (⟨a0_1, (⟨za0_2, na0_2, fa0_2⟩ : (Sl S_impl_Backend)), (⟨za0_3, na0_3, fa0_3⟩ : (Sl S_impl_Vip))⟩ : S_laws_Config) (⟨za1_0, na1_0, fa1_0⟩ : (Sl S_impl_Verdict)) a2_0, enc_bo, fun _ => true⟩ | _ => none
theorem hpc_b29 (fu : Nat) : ∀ f xs o, pcf_b29 fu f xs = some o → ∀ y, o.x = some y → Good E Try.prog f xs (o.g y) := by
  intro f xs o h
  unfold pcf_b29 at h
  split at h
  · exact good_b14 fu xs o h
  · exact good_b15 fu xs o h
  · exact good_b18 fu xs o h
  · exact good_b24 fu xs o h
  · exact good_b26 fu xs o h
  · exact good_b28 fu xs o h
  · cases h
theorem hpx_b29 (fu : Nat) : ∀ f xs ins o, pcx_b29 fu f xs ins = some o → ∀ y, o.x = some y → GoodXD E Try.prog (pcd_b29 f) f xs ins (o.g y).1 (o.g y).2 := by
  intro f xs ins o h
  unfold pcx_b29 at h
  split at h
  · exact good_a22 fu xs ins o h
  · exact good_a5 fu xs ins o h
  · exact good_a7 fu xs ins o h
  · exact good_b2 fu xs ins o h
  · exact good_b6 fu xs ins o h
  · exact good_b7 fu xs ins o h
  · exact good_b9 fu xs ins o h
  · cases h
theorem goodv_b29 (fu : Nat) (aC_0 : S_laws_Config) (aList_1 : (Sl S_impl_Verdict)) (aProbers_2 : Int) (y : Bool) (hy : F_laws_FnExactUpCmds fu aC_0 aList_1 aProbers_2 = some y) : Good E Try.prog 4 [(.agg [(.int .i64 aC_0.Version), (.rs aC_0.Backends.z .impl_Backend aC_0.Backends.n aC_0.Backends.f), (.rs aC_0.Vips.z .impl_Vip aC_0.Vips.n aC_0.Vips.f)]), (.rs aList_1.z .impl_Verdict aList_1.n aList_1.f), (.int .i64 aProbers_2)] (enc_bo y) :=
  fun_good E_ok (pc_good (pc := pc_b29 fu) (hpc_b29 fu) (hpx_b29 fu)) (fn := Try.f4) (c := body_b29) (out := out_bo) (y := y) (by kernel_rfl) (by kernel_rfl) (by kernel_rfl) (lpok_b29 fu) (fun d hd => out_bo_enc d _ hd) ((ev_b29 fu aC_0 aList_1 aProbers_2).trans hy)
theorem good_b29 (fu : Nat) : ∀ xs o, S_b29 fu xs = some o → ∀ y, o.x = some y → Good E Try.prog 4 xs (o.g y) := by
  intro xs o h y hy
  unfold S_b29 at h
  split at h
  · rename_i a0_1 za0_2 na0_2 fa0_2 za0_3 na0_3 fa0_3 za1_0 na1_0 fa1_0 a2_0
    cases h
    exact goodv_b29 fu (⟨a0_1, (⟨za0_2, na0_2, fa0_2⟩ : (Sl S_impl_Backend)), (⟨za0_3, na0_3, fa0_3⟩ : (Sl S_impl_Vip))⟩ : S_laws_Config) (⟨za1_0, na1_0, fa1_0⟩ : (Sl S_impl_Verdict)) a2_0 y hy
  · cases h
end Go.Proofs.Ytmnbmponjhglcaa.Pe
