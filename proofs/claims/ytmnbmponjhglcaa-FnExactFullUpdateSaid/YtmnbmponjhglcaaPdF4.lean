/- The functions' evaluated forms, each a proved summary. Conditions: none. -/
import Derived.Test.YtmnbmponjhglcaaPdF3
namespace Go.Proofs.Ytmnbmponjhglcaa.Pd
open Go Go.RowKit Go.Proofs Vm
set_option linter.unusedVariables false
set_option linter.unusedSimpArgs false
set_option maxRecDepth 100000
/-! laws.heldUpdate -/
def F_laws_heldUpdate (fu : Nat) (a_0 : S_impl_Update) (k_1 : Int) : Option (Int) :=
  ((F_laws_heldConfig fu a_0.Config k_1).bind fun y166 => (bif (decide (y166 < 0)) then (some (-1)) else ((F_laws_heldCmdS fu a_0.Cmds y166).bind fun y167 => (bif (decide (y167 < 0)) then
    (some (-1)) else (some y167)))))
def pcf_b29 (fu : Nat) (f : Nat) (xs : List (D RT den)) : Option (Out RT den) := match f with | 81 => S_b28 fu xs | 141 => S_b27 fu xs | _ => none
def pc_b29 (fu : Nat) : Pc RT den := ⟨pcf_b29 fu, fun _ => false, fun _ => false, pcd0, pcx0⟩
def msk_b29 (b : Nat) : List Nat := []
def lp_b29 (fu : Nat) : Lp RT den (Int) := fun b s k => none
theorem ev_b29 (fu : Nat) (a_0 : S_impl_Update) (k_1 : Int) : evFun E (pc_b29 fu) msk_b29 (lp_b29 fu) out_i64 86 [(.agg [(.int .i64 a_0.From), (.int .i64 a_0.To), (.bool a_0.Full), (.int .i64 a_0.Config.Version), (.rs a_0.Config.Backends.z .impl_Backend a_0.Config.Backends.n a_0.Config.Backends.f), (.rs a_0.Config.Vips.z .impl_Vip a_0.Config.Vips.n a_0.Config.Vips.f), (.rs a_0.Cmds.z .impl_Cmd a_0.Cmds.n a_0.Cmds.f)]), (.int .i64 k_1)] = F_laws_heldUpdate fu a_0 k_1 := by kernel_rfl
noncomputable def body_b29 : Code := Try.f86.body.getD .skip
theorem lpok_b29 (fu : Nat) : LpOk E (pc_b29 fu) msk_b29 (lp_b29 fu) (loops 0 body_b29) := by
  have h : loops 0 body_b29 = [] := by kernel_rfl
  rw [h]; intro p hp; cases hp
def S_b29 (fu : Nat) (xs : List (D RT den)) : Option (Out RT den) := match xs with | [.agg [.int .i64 a0_1, .int .i64 a0_2, .bool a0_3, .int .i64 a0_5, .rs za0_6 .impl_Backend na0_6 fa0_6, .rs za0_7 .impl_Vip na0_7 fa0_7, .rs za0_8 .impl_Cmd na0_8 fa0_8], .int .i64 a1_0] => some ⟨Int, F_laws_heldUpdate fu (⟨a0_1, a0_2, a0_3, (⟨a0_5, (⟨za0_6, na0_6, fa0_6⟩ : (Sl S_impl_Backend)), (⟨za0_7, na0_7, fa0_7⟩ : (Sl S_impl_Vip))⟩ : S_impl_Config), (⟨za0_8, na0_8, fa0_8⟩ : (Sl S_impl_Cmd))⟩ : S_impl_Update) a1_0, enc_i64, fun _ => true⟩ | _ => none
theorem hpc_b29 (fu : Nat) : ∀ f xs o, pcf_b29 fu f xs = some o → ∀ y, o.x = some y → Good E Try.prog f xs (o.g y) := by
  intro f xs o h
  unfold pcf_b29 at h
  split at h
  · exact good_b28 fu xs o h
  · exact good_b27 fu xs o h
  · cases h
theorem goodv_b29 (fu : Nat) (a_0 : S_impl_Update) (k_1 : Int) (y : Int) (hy : F_laws_heldUpdate fu a_0 k_1 = some y) : Good E Try.prog 86 [(.agg [(.int .i64 a_0.From), (.int .i64 a_0.To), (.bool a_0.Full), (.int .i64 a_0.Config.Version), (.rs a_0.Config.Backends.z .impl_Backend a_0.Config.Backends.n a_0.Config.Backends.f), (.rs a_0.Config.Vips.z .impl_Vip a_0.Config.Vips.n a_0.Config.Vips.f), (.rs a_0.Cmds.z .impl_Cmd a_0.Cmds.n a_0.Cmds.f)]), (.int .i64 k_1)] (enc_i64 y) :=
  fun_good E_ok (pc_good (pc := pc_b29 fu) (hpc_b29 fu) hpx0) (fn := Try.f86) (c := body_b29) (out := out_i64) (y := y) (by kernel_rfl) (by kernel_rfl) (by kernel_rfl) (lpok_b29 fu) (fun d hd => out_i64_enc d _ hd) ((ev_b29 fu a_0 k_1).trans hy)
theorem good_b29 (fu : Nat) : ∀ xs o, S_b29 fu xs = some o → ∀ y, o.x = some y → Good E Try.prog 86 xs (o.g y) := by
  intro xs o h y hy
  unfold S_b29 at h
  split at h
  · rename_i a0_1 a0_2 a0_3 a0_5 za0_6 na0_6 fa0_6 za0_7 na0_7 fa0_7 za0_8 na0_8 fa0_8 a1_0
    cases h
    exact goodv_b29 fu (⟨a0_1, a0_2, a0_3, (⟨a0_5, (⟨za0_6, na0_6, fa0_6⟩ : (Sl S_impl_Backend)), (⟨za0_7, na0_7, fa0_7⟩ : (Sl S_impl_Vip))⟩ : S_impl_Config), (⟨za0_8, na0_8, fa0_8⟩ : (Sl S_impl_Cmd))⟩ : S_impl_Update) a1_0 y hy
  · cases h

/-! laws.heldUpdateResult -/
def F_laws_heldUpdateResult (fu : Nat) (a_0 : S_impl_UpdateResult) (k_1 : Int) : Option (Int) :=
  ((F_laws_heldUpdate fu a_0.Update k_1).bind fun y165 => (bif (decide (y165 < 0)) then (some (-1)) else (some y165)))
def pcf_b30 (fu : Nat) (f : Nat) (xs : List (D RT den)) : Option (Out RT den) := match f with | 86 => S_b29 fu xs | _ => none
def pc_b30 (fu : Nat) : Pc RT den := ⟨pcf_b30 fu, fun _ => false, fun _ => false, pcd0, pcx0⟩
def msk_b30 (b : Nat) : List Nat := []
def lp_b30 (fu : Nat) : Lp RT den (Int) := fun b s k => none
theorem ev_b30 (fu : Nat) (a_0 : S_impl_UpdateResult) (k_1 : Int) : evFun E (pc_b30 fu) msk_b30 (lp_b30 fu) out_i64 33 [(.agg [(.int .i64 a_0.Code), (.int .i64 a_0.Update.From), (.int .i64 a_0.Update.To), (.bool a_0.Update.Full), (.int .i64 a_0.Update.Config.Version), (.rs a_0.Update.Config.Backends.z .impl_Backend a_0.Update.Config.Backends.n a_0.Update.Config.Backends.f), (.rs a_0.Update.Config.Vips.z .impl_Vip a_0.Update.Config.Vips.n a_0.Update.Config.Vips.f), (.rs a_0.Update.Cmds.z .impl_Cmd a_0.Update.Cmds.n a_0.Update.Cmds.f)]), (.int .i64 k_1)] = F_laws_heldUpdateResult fu a_0 k_1 := by kernel_rfl
noncomputable def body_b30 : Code := Try.f33.body.getD .skip
theorem lpok_b30 (fu : Nat) : LpOk E (pc_b30 fu) msk_b30 (lp_b30 fu) (loops 0 body_b30) := by
  have h : loops 0 body_b30 = [] := by kernel_rfl
  rw [h]; intro p hp; cases hp
def S_b30 (fu : Nat) (xs : List (D RT den)) : Option (Out RT den) := match xs with | [.agg [.int .i64 a0_1, .int .i64 a0_3, .int .i64 a0_4, .bool a0_5, .int .i64 a0_7, .rs za0_8 .impl_Backend na0_8 fa0_8, .rs za0_9 .impl_Vip na0_9 fa0_9, .rs za0_10 .impl_Cmd na0_10 fa0_10], .int .i64 a1_0] => some ⟨Int, F_laws_heldUpdateResult fu (⟨a0_1, (⟨a0_3, a0_4, a0_5, (⟨a0_7, (⟨za0_8, na0_8, fa0_8⟩ : (Sl S_impl_Backend)), (⟨za0_9, na0_9, fa0_9⟩ : (Sl S_impl_Vip))⟩ : S_impl_Config), (⟨za0_10, na0_10, fa0_10⟩ : (Sl S_impl_Cmd))⟩ : S_impl_Update)⟩ : S_impl_UpdateResult) a1_0, enc_i64, fun _ => true⟩ | _ => none
theorem hpc_b30 (fu : Nat) : ∀ f xs o, pcf_b30 fu f xs = some o → ∀ y, o.x = some y → Good E Try.prog f xs (o.g y) := by
  intro f xs o h
  unfold pcf_b30 at h
  split at h
  · exact good_b29 fu xs o h
  · cases h
theorem goodv_b30 (fu : Nat) (a_0 : S_impl_UpdateResult) (k_1 : Int) (y : Int) (hy : F_laws_heldUpdateResult fu a_0 k_1 = some y) : Good E Try.prog 33 [(.agg [(.int .i64 a_0.Code), (.int .i64 a_0.Update.From), (.int .i64 a_0.Update.To), (.bool a_0.Update.Full), (.int .i64 a_0.Update.Config.Version), (.rs a_0.Update.Config.Backends.z .impl_Backend a_0.Update.Config.Backends.n a_0.Update.Config.Backends.f), (.rs a_0.Update.Config.Vips.z .impl_Vip a_0.Update.Config.Vips.n a_0.Update.Config.Vips.f), (.rs a_0.Update.Cmds.z .impl_Cmd a_0.Update.Cmds.n a_0.Update.Cmds.f)]), (.int .i64 k_1)] (enc_i64 y) :=
  fun_good E_ok (pc_good (pc := pc_b30 fu) (hpc_b30 fu) hpx0) (fn := Try.f33) (c := body_b30) (out := out_i64) (y := y) (by kernel_rfl) (by kernel_rfl) (by kernel_rfl) (lpok_b30 fu) (fun d hd => out_i64_enc d _ hd) ((ev_b30 fu a_0 k_1).trans hy)
theorem good_b30 (fu : Nat) : ∀ xs o, S_b30 fu xs = some o → ∀ y, o.x = some y → Good E Try.prog 33 xs (o.g y) := by
  intro xs o h y hy
  unfold S_b30 at h
  split at h
  · rename_i a0_1 a0_3 a0_4 a0_5 a0_7 za0_8 na0_8 fa0_8 za0_9 na0_9 fa0_9 za0_10 na0_10 fa0_10 a1_0
    cases h
    exact goodv_b30 fu (⟨a0_1, (⟨a0_3, a0_4, a0_5, (⟨a0_7, (⟨za0_8, na0_8, fa0_8⟩ : (Sl S_impl_Backend)), (⟨za0_9, na0_9, fa0_9⟩ : (Sl S_impl_Vip))⟩ : S_impl_Config), (⟨za0_10, na0_10, fa0_10⟩ : (Sl S_impl_Cmd))⟩ : S_impl_Update)⟩ : S_impl_UpdateResult) a1_0 y hy
  · cases h

/-! laws.FnExactFullUpdate -/
def F_laws_FnExactFullUpdate (fu : Nat) (aC_0 : S_laws_Config) : Option (Bool) :=
  ((F_laws_szConfig fu aC_0 1048576).bind fun y1 => (bif (decide (y1 < 0)) then (some true) else ((F_laws_toConfig_U fu aC_0).bind fun y16 => ((F_spec_FullUpdate_U fu (⟨y16.1,
    (⟨none, y16.2.1, y16.2.2.2.2.1⟩ : (Sl S_impl_Backend)), (⟨none, y16.2.2.1, y16.2.2.2.2.2.2⟩ : (Sl S_impl_Vip))⟩ : S_impl_Config)).bind fun y48 => ((F_laws_toConfig_U fu aC_0).bind fun y49 =>
    ((F_impl_FullUpdate_U fu (⟨y49.1, (⟨none, y49.2.1, y49.2.2.2.2.1⟩ : (Sl S_impl_Backend)), (⟨none, y49.2.2.1, y49.2.2.2.2.2.2⟩ : (Sl S_impl_Vip))⟩ : S_impl_Config)).bind fun y123 =>
    ((F_laws_eqUpdateResult fu (⟨y123.1, (⟨y123.2.1, y123.2.2.1, y123.2.2.2.1, (⟨y123.2.2.2.2.1, (⟨none, y123.2.2.2.2.2.1, y123.2.2.2.2.2.2.2.2.2.1⟩ : (Sl S_impl_Backend)), (⟨none,
    y123.2.2.2.2.2.2.1, y123.2.2.2.2.2.2.2.2.2.2.2.1⟩ : (Sl S_impl_Vip))⟩ : S_impl_Config), (⟨none, y123.2.2.2.2.2.2.2.1, y123.2.2.2.2.2.2.2.2.2.2.2.2.2⟩ : (Sl S_impl_Cmd))⟩ : S_impl_Update)⟩ : S_impl_UpdateResult) (⟨y48.1,
    (⟨y48.2.1, y48.2.2.1, y48.2.2.2.1, (⟨y48.2.2.2.2.1, (⟨none, y48.2.2.2.2.2.1, y48.2.2.2.2.2.2.2.2.2.1⟩ : (Sl S_impl_Backend)), (⟨none, y48.2.2.2.2.2.2.1,
    y48.2.2.2.2.2.2.2.2.2.2.2.1⟩ : (Sl S_impl_Vip))⟩ : S_impl_Config), (⟨none, y48.2.2.2.2.2.2.2.1, y48.2.2.2.2.2.2.2.2.2.2.2.2.2⟩ : (Sl S_impl_Cmd))⟩ : S_impl_Update)⟩ : S_impl_UpdateResult)).bind fun y124 =>
    (bif (!y124) then (some false) else ((F_laws_toConfig_U fu aC_0).bind fun y125 => ((F_laws_eqConfig fu (⟨y49.1, (⟨none, y49.2.1, y49.2.2.2.2.1⟩ : (Sl S_impl_Backend)), (⟨none,
    y49.2.2.1, y49.2.2.2.2.2.2⟩ : (Sl S_impl_Vip))⟩ : S_impl_Config) (⟨y125.1, (⟨none, y125.2.1, y125.2.2.2.2.1⟩ : (Sl S_impl_Backend)), (⟨none, y125.2.2.1, y125.2.2.2.2.2.2⟩ : (Sl S_impl_Vip))⟩ : S_impl_Config)).bind fun y126 =>
    (bif (!y126) then (some false) else ((F_laws_markConfig_U fu y49.1 y49.2.1 y49.2.2.1 1 y49.2.2.2.1 y49.2.2.2.2.1 y49.2.2.2.2.2.1 y49.2.2.2.2.2.1 y49.2.2.2.2.2.2).bind fun y136 =>
    (((bif (decide (y136.1 < 0)) then (some true) else ((F_laws_eqUpdateResult fu (⟨y123.1, (⟨y123.2.1, y123.2.2.1, y123.2.2.2.1, (⟨y123.2.2.2.2.1, (⟨none, y123.2.2.2.2.2.1,
    y123.2.2.2.2.2.2.2.2.2.1⟩ : (Sl S_impl_Backend)), (⟨none, y123.2.2.2.2.2.2.1, y123.2.2.2.2.2.2.2.2.2.2.2.1⟩ : (Sl S_impl_Vip))⟩ : S_impl_Config), (⟨none, y123.2.2.2.2.2.2.2.1,
    y123.2.2.2.2.2.2.2.2.2.2.2.2.2⟩ : (Sl S_impl_Cmd))⟩ : S_impl_Update)⟩ : S_impl_UpdateResult) (⟨y48.1, (⟨y48.2.1, y48.2.2.1, y48.2.2.2.1, (⟨y48.2.2.2.2.1, (⟨none,
    y48.2.2.2.2.2.1, y48.2.2.2.2.2.2.2.2.2.1⟩ : (Sl S_impl_Backend)), (⟨none, y48.2.2.2.2.2.2.1, y48.2.2.2.2.2.2.2.2.2.2.2.1⟩ : (Sl S_impl_Vip))⟩ : S_impl_Config), (⟨none,
    y48.2.2.2.2.2.2.2.1, y48.2.2.2.2.2.2.2.2.2.2.2.2.2⟩ : (Sl S_impl_Cmd))⟩ : S_impl_Update)⟩ : S_impl_UpdateResult)).bind fun y137 => (some (!y137)))) : Option Bool).bind fun m138 =>
    (bif m138 then (some false) else ((F_laws_markUpdateResult_U fu y123.1 y123.2.1 y123.2.2.1 y123.2.2.2.1 y123.2.2.2.2.1 y123.2.2.2.2.2.1 y123.2.2.2.2.2.2.1 y123.2.2.2.2.2.2.2.1 1 y123.2.2.2.2.2.2.2.2.1 y123.2.2.2.2.2.2.2.2.2.1 y123.2.2.2.2.2.2.2.2.2.2.1 y123.2.2.2.2.2.2.2.2.2.2.1 y123.2.2.2.2.2.2.2.2.2.2.2.1 y123.2.2.2.2.2.2.2.2.2.2.2.2.1 y123.2.2.2.2.2.2.2.2.2.2.2.2.2).bind fun y144 =>
    ((F_laws_heldUpdateResult fu (⟨y123.1, (⟨y123.2.1, y123.2.2.1, y123.2.2.2.1, (⟨y123.2.2.2.2.1, (⟨none, y123.2.2.2.2.2.1, y144.2.2.1⟩ : (Sl S_impl_Backend)), (⟨none,
    y123.2.2.2.2.2.2.1, y144.2.2.2.2.2.1⟩ : (Sl S_impl_Vip))⟩ : S_impl_Config), (⟨none, y123.2.2.2.2.2.2.2.1, y144.2.2.2.2.2.2.2⟩ : (Sl S_impl_Cmd))⟩ : S_impl_Update)⟩ : S_impl_UpdateResult) 1).bind fun y145 =>
    (bif (decide (y145 < 0)) then (some false) else (bif (y145 != y144.1) then (some false) else ((F_laws_toConfig_U fu aC_0).bind fun y146 => ((F_impl_FullUpdate_U fu (⟨y146.1,
    (⟨none, y146.2.1, y146.2.2.2.2.1⟩ : (Sl S_impl_Backend)), (⟨none, y146.2.2.1, y146.2.2.2.2.2.2⟩ : (Sl S_impl_Vip))⟩ : S_impl_Config)).bind fun y147 => ((F_laws_eqUpdateResult fu (⟨y147.1,
    (⟨y147.2.1, y147.2.2.1, y147.2.2.2.1, (⟨y147.2.2.2.2.1, (⟨none, y147.2.2.2.2.2.1, y147.2.2.2.2.2.2.2.2.2.1⟩ : (Sl S_impl_Backend)), (⟨none, y147.2.2.2.2.2.2.1,
    y147.2.2.2.2.2.2.2.2.2.2.2.1⟩ : (Sl S_impl_Vip))⟩ : S_impl_Config), (⟨none, y147.2.2.2.2.2.2.2.1, y147.2.2.2.2.2.2.2.2.2.2.2.2.2⟩ : (Sl S_impl_Cmd))⟩ : S_impl_Update)⟩ : S_impl_UpdateResult) (⟨y48.1,
    (⟨y48.2.1, y48.2.2.1, y48.2.2.2.1, (⟨y48.2.2.2.2.1, (⟨none, y48.2.2.2.2.2.1, y48.2.2.2.2.2.2.2.2.2.1⟩ : (Sl S_impl_Backend)), (⟨none, y48.2.2.2.2.2.2.1,
    y48.2.2.2.2.2.2.2.2.2.2.2.1⟩ : (Sl S_impl_Vip))⟩ : S_impl_Config), (⟨none, y48.2.2.2.2.2.2.2.1, y48.2.2.2.2.2.2.2.2.2.2.2.2.2⟩ : (Sl S_impl_Cmd))⟩ : S_impl_Update)⟩ : S_impl_UpdateResult)).bind fun y148 =>
    (bif (!y148) then (some false) else ((F_laws_heldUpdateResult fu (⟨y123.1, (⟨y123.2.1, y123.2.2.1, y123.2.2.2.1, (⟨y123.2.2.2.2.1, (⟨none, y123.2.2.2.2.2.1, y144.2.2.1⟩ : (Sl S_impl_Backend)),
    (⟨none, y123.2.2.2.2.2.2.1, y144.2.2.2.2.2.1⟩ : (Sl S_impl_Vip))⟩ : S_impl_Config), (⟨none, y123.2.2.2.2.2.2.2.1, y144.2.2.2.2.2.2.2⟩ : (Sl S_impl_Cmd))⟩ : S_impl_Update)⟩ : S_impl_UpdateResult) 1).bind fun y149 =>
    (bif (decide (y149 < 0)) then (some false) else (bif (y149 != y144.1) then (some false) else (some true))))))))))))))))))))))))))
def pcf_b31 (fu : Nat) (f : Nat) (xs : List (D RT den)) : Option (Out RT den) := match f with | 16 => S_b13 fu xs | 23 => S_b19 fu xs | 31 => S_b23 fu xs | 33 => S_b30 fu xs | _ => none
def pcx_b31 (fu : Nat) (f : Nat) (xs : List (D RT den)) (ins : List (Ob RT den)) : Option (OutX RT den) := match f with | 19 => S_a5 fu xs ins | 25 => S_b5 fu xs ins | 29 => S_a18 fu xs ins | 30 => S_b1 fu xs ins | 32 => S_b8 fu xs ins | _ => none
def pcd_b31 : Nat → Bool := fun f => match f with | 19 => true | 25 => true | 29 => true | 30 => true | 32 => true | _ => false
def pc_b31 (fu : Nat) : Pc RT den := ⟨pcf_b31 fu, fun f => match f with | 19 => true | 25 => true | 29 => true | 30 => true | 32 => true | _ => false, fun f => match f with | 25 => true | 32 => true | _ => false, pcd_b31, pcx_b31 fu⟩
def msk_b31 (b : Nat) : List Nat := match b with | 200014 => [42] | _ => []
def lp_b31 (fu : Nat) : Lp RT den (Bool) := fun b s k => none
theorem ev_b31 (fu : Nat) (aC_0 : S_laws_Config) : evFun E (pc_b31 fu) msk_b31 (lp_b31 fu) out_bo 5 [(.agg [(.int .i64 aC_0.Version), (.rs aC_0.Backends.z .impl_Backend aC_0.Backends.n aC_0.Backends.f), (.rs aC_0.Vips.z .impl_Vip aC_0.Vips.n aC_0.Vips.f)])] = F_laws_FnExactFullUpdate fu aC_0 := by kernel_rfl
noncomputable def body_b31 : Code := Try.f5.body.getD .skip
theorem lpok_b31 (fu : Nat) : LpOk E (pc_b31 fu) msk_b31 (lp_b31 fu) (loops 0 body_b31) := by
  have h : loops 0 body_b31 = [] := by kernel_rfl
  rw [h]; intro p hp; cases hp
def S_b31 (fu : Nat) (xs : List (D RT den)) : Option (Out RT den) := match xs with | [.agg [.int .i64 a0_1, .rs za0_2 .impl_Backend na0_2 fa0_2, .rs za0_3 .impl_Vip na0_3 fa0_3]] => some ⟨Bool, F_laws_FnExactFullUpdate fu (⟨a0_1, (⟨za0_2, na0_2, fa0_2⟩ : (Sl S_impl_Backend)), (⟨za0_3, na0_3, fa0_3⟩ : (Sl S_impl_Vip))⟩ : S_laws_Config), enc_bo, fun _ => true⟩ | _ => none
theorem hpc_b31 (fu : Nat) : ∀ f xs o, pcf_b31 fu f xs = some o → ∀ y, o.x = some y → Good E Try.prog f xs (o.g y) := by
  intro f xs o h
  unfold pcf_b31 at h
  split at h
  · exact good_b13 fu xs o h
  · exact good_b19 fu xs o h
  · exact good_b23 fu xs o h
  · exact good_b30 fu xs o h
  · cases h
theorem hpx_b31 (fu : Nat) : ∀ f xs ins o, pcx_b31 fu f xs ins = some o → ∀ y, o.x = some y → GoodXD E Try.prog (pcd_b31 f) f xs ins (o.g y).1 (o.g y).2 := by
  intro f xs ins o h
  unfold pcx_b31 at h
  split at h
  · exact good_a5 fu xs ins o h
  · exact good_b5 fu xs ins o h
  · exact good_a18 fu xs ins o h
  · exact good_b1 fu xs ins o h
  · exact good_b8 fu xs ins o h
  · cases h
theorem goodv_b31 (fu : Nat) (aC_0 : S_laws_Config) (y : Bool) (hy : F_laws_FnExactFullUpdate fu aC_0 = some y) : Good E Try.prog 5 [(.agg [(.int .i64 aC_0.Version), (.rs aC_0.Backends.z .impl_Backend aC_0.Backends.n aC_0.Backends.f), (.rs aC_0.Vips.z .impl_Vip aC_0.Vips.n aC_0.Vips.f)])] (enc_bo y) :=
  fun_good E_ok (pc_good (pc := pc_b31 fu) (hpc_b31 fu) (hpx_b31 fu)) (fn := Try.f5) (c := body_b31) (out := out_bo) (y := y) (by kernel_rfl) (by kernel_rfl) (by kernel_rfl) (lpok_b31 fu) (fun d hd => out_bo_enc d _ hd) ((ev_b31 fu aC_0).trans hy)
theorem good_b31 (fu : Nat) : ∀ xs o, S_b31 fu xs = some o → ∀ y, o.x = some y → Good E Try.prog 5 xs (o.g y) := by
  intro xs o h y hy
  unfold S_b31 at h
  split at h
  · rename_i a0_1 za0_2 na0_2 fa0_2 za0_3 na0_3 fa0_3
    cases h
    exact goodv_b31 fu (⟨a0_1, (⟨za0_2, na0_2, fa0_2⟩ : (Sl S_impl_Backend)), (⟨za0_3, na0_3, fa0_3⟩ : (Sl S_impl_Vip))⟩ : S_laws_Config) y hy
  · cases h
end Go.Proofs.Ytmnbmponjhglcaa.Pd
