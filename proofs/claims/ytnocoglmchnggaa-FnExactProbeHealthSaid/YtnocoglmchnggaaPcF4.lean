/- The functions' evaluated forms, each a proved summary. Conditions: none. -/
import Derived.Test.YtnocoglmchnggaaPcF3
namespace Go.Proofs.Ytnocoglmchnggaa.Pc
open Go Go.RowKit Go.Proofs Vm
set_option linter.unusedVariables false
set_option linter.unusedSimpArgs false
set_option maxRecDepth 100000
/-! laws.eqMachine -/
def F_laws_eqMachine (fu : Nat) (a_0 : S_impl_Machine) (b_1 : S_impl_Machine) : Option (Bool) :=
  ((F_laws_eqConfig fu a_0.Config b_1.Config).bind fun y166 => (bif (!y166) then (some false) else ((F_laws_eqSessionS fu a_0.Sessions b_1.Sessions).bind fun y167 => (bif (!y167) then
    (some false) else (some true)))))
def pc_laws_eqMachine (fu : Nat) : Pc RT den := fun f xs => match f with | 60 => S_laws_eqConfig fu xs | 61 => S_laws_eqSessionS fu xs | _ => none
def msk_laws_eqMachine (b : Nat) : List Nat := []
def lp_laws_eqMachine (fu : Nat) : Lp RT den (Bool) := fun b s k => none
theorem ev_laws_eqMachine (fu : Nat) (a_0 : S_impl_Machine) (b_1 : S_impl_Machine) : evFun E (pc_laws_eqMachine fu) msk_laws_eqMachine (lp_laws_eqMachine fu) out_bo 30 [(.agg [(.int .i64 a_0.Config.Version), (.rs a_0.Config.Backends.z .impl_Backend a_0.Config.Backends.n a_0.Config.Backends.f), (.rs a_0.Config.Vips.z .impl_Vip a_0.Config.Vips.n a_0.Config.Vips.f), (.rs a_0.Sessions.z .impl_Session a_0.Sessions.n a_0.Sessions.f)]), (.agg [(.int .i64 b_1.Config.Version), (.rs b_1.Config.Backends.z .impl_Backend b_1.Config.Backends.n b_1.Config.Backends.f), (.rs b_1.Config.Vips.z .impl_Vip b_1.Config.Vips.n b_1.Config.Vips.f), (.rs b_1.Sessions.z .impl_Session b_1.Sessions.n b_1.Sessions.f)])] = F_laws_eqMachine fu a_0 b_1 := by kernel_rfl
noncomputable def body_laws_eqMachine : Code := Try.f30.body.getD .skip
theorem lpok_laws_eqMachine (fu : Nat) : LpOk E (pc_laws_eqMachine fu) msk_laws_eqMachine (lp_laws_eqMachine fu) (loops 0 body_laws_eqMachine) := by
  have h : loops 0 body_laws_eqMachine = [] := by kernel_rfl
  rw [h]; intro p hp; cases hp
def S_laws_eqMachine (fu : Nat) (xs : List (D RT den)) : Option (Out RT den) := match xs with | [.agg [.int .i64 a0_2, .rs za0_3 .impl_Backend na0_3 fa0_3, .rs za0_4 .impl_Vip na0_4 fa0_4, .rs za0_5 .impl_Session na0_5 fa0_5], .agg [.int .i64 a1_2, .rs za1_3 .impl_Backend na1_3 fa1_3, .rs za1_4 .impl_Vip na1_4 fa1_4, .rs za1_5 .impl_Session na1_5 fa1_5]] => some ⟨Bool, F_laws_eqMachine fu (⟨(⟨a0_2, (⟨za0_3, na0_3, fa0_3⟩ : (Sl S_impl_Backend)), (⟨za0_4, na0_4, fa0_4⟩ : (Sl S_impl_Vip))⟩ : S_impl_Config), (⟨za0_5, na0_5, fa0_5⟩ : (Sl S_impl_Session))⟩ : S_impl_Machine) (⟨(⟨a1_2, (⟨za1_3, na1_3, fa1_3⟩ : (Sl S_impl_Backend)), (⟨za1_4, na1_4, fa1_4⟩ : (Sl S_impl_Vip))⟩ : S_impl_Config), (⟨za1_5, na1_5, fa1_5⟩ : (Sl S_impl_Session))⟩ : S_impl_Machine), enc_bo, fun _ => true⟩ | _ => none
theorem hpc_laws_eqMachine (fu : Nat) : ∀ f xs o, pc_laws_eqMachine fu f xs = some o → ∀ y, o.x = some y → Good E Try.prog f xs (o.g y) := by
  intro f xs o h
  unfold pc_laws_eqMachine at h
  split at h
  · exact good_laws_eqConfig fu xs o h
  · exact good_laws_eqSessionS fu xs o h
  · cases h
theorem goodv_laws_eqMachine (fu : Nat) (a_0 : S_impl_Machine) (b_1 : S_impl_Machine) (y : Bool) (hy : F_laws_eqMachine fu a_0 b_1 = some y) : Good E Try.prog 30 [(.agg [(.int .i64 a_0.Config.Version), (.rs a_0.Config.Backends.z .impl_Backend a_0.Config.Backends.n a_0.Config.Backends.f), (.rs a_0.Config.Vips.z .impl_Vip a_0.Config.Vips.n a_0.Config.Vips.f), (.rs a_0.Sessions.z .impl_Session a_0.Sessions.n a_0.Sessions.f)]), (.agg [(.int .i64 b_1.Config.Version), (.rs b_1.Config.Backends.z .impl_Backend b_1.Config.Backends.n b_1.Config.Backends.f), (.rs b_1.Config.Vips.z .impl_Vip b_1.Config.Vips.n b_1.Config.Vips.f), (.rs b_1.Sessions.z .impl_Session b_1.Sessions.n b_1.Sessions.f)])] (enc_bo y) :=
  fun_good E_ok (pc_good (hpc_laws_eqMachine fu)) (fn := Try.f30) (c := body_laws_eqMachine) (out := out_bo) (y := y) (by kernel_rfl) (by kernel_rfl) (by kernel_rfl) (lpok_laws_eqMachine fu) (fun d hd => out_bo_enc d _ hd) ((ev_laws_eqMachine fu a_0 b_1).trans hy)
theorem good_laws_eqMachine (fu : Nat) : ∀ xs o, S_laws_eqMachine fu xs = some o → ∀ y, o.x = some y → Good E Try.prog 30 xs (o.g y) := by
  intro xs o h y hy
  unfold S_laws_eqMachine at h
  split at h
  · rename_i a0_2 za0_3 na0_3 fa0_3 za0_4 na0_4 fa0_4 za0_5 na0_5 fa0_5 a1_2 za1_3 na1_3 fa1_3 za1_4 na1_4 fa1_4 za1_5 na1_5 fa1_5
    cases h
    exact goodv_laws_eqMachine fu (⟨(⟨a0_2, (⟨za0_3, na0_3, fa0_3⟩ : (Sl S_impl_Backend)), (⟨za0_4, na0_4, fa0_4⟩ : (Sl S_impl_Vip))⟩ : S_impl_Config), (⟨za0_5, na0_5, fa0_5⟩ : (Sl S_impl_Session))⟩ : S_impl_Machine) (⟨(⟨a1_2, (⟨za1_3, na1_3, fa1_3⟩ : (Sl S_impl_Backend)), (⟨za1_4, na1_4, fa1_4⟩ : (Sl S_impl_Vip))⟩ : S_impl_Config), (⟨za1_5, na1_5, fa1_5⟩ : (Sl S_impl_Session))⟩ : S_impl_Machine) y hy
  · cases h

/-! laws.FnExactSameMachines -/
def F_laws_FnExactSameMachines (fu : Nat) (aA_0 : S_laws_Machine) (aB_1 : S_laws_Machine) : Option (Bool) :=
  ((F_laws_szMachine fu aA_0 1048576).bind fun y96 => (bif (decide (y96 < 0)) then (some true) else ((F_laws_szMachine fu aB_1 y96).bind fun y97 => (bif (decide (y97 < 0)) then
    (some true) else ((F_laws_toMachine fu aA_0).bind fun y98 => ((F_laws_toMachine fu aB_1).bind fun y99 => ((F_spec_SameMachines fu y98 y99).bind fun y100 => ((F_laws_toMachine fu aA_0).bind fun y101 =>
    ((F_laws_toMachine fu aB_1).bind fun y102 => ((F_impl_SameMachines fu y101 y102).bind fun y103 => (bif (!(y103 == y100)) then (some false) else ((F_laws_toMachine fu aA_0).bind fun y104 =>
    ((F_laws_eqMachine fu y101 y104).bind fun y105 => (bif (!y105) then (some false) else ((F_laws_toMachine fu aB_1).bind fun y106 => ((F_laws_eqMachine fu y102 y106).bind fun y107 =>
    (bif (!y107) then (some false) else (some true))))))))))))))))))
def pc_laws_FnExactSameMachines (fu : Nat) : Pc RT den := fun f xs => match f with | 26 => S_laws_szMachine fu xs | 27 => S_spec_SameMachines fu xs | 28 => S_laws_toMachine fu xs | 29 => S_impl_SameMachines fu xs | 30 => S_laws_eqMachine fu xs | _ => none
def msk_laws_FnExactSameMachines (b : Nat) : List Nat := []
def lp_laws_FnExactSameMachines (fu : Nat) : Lp RT den (Bool) := fun b s k => none
theorem ev_laws_FnExactSameMachines (fu : Nat) (aA_0 : S_laws_Machine) (aB_1 : S_laws_Machine) : evFun E (pc_laws_FnExactSameMachines fu) msk_laws_FnExactSameMachines (lp_laws_FnExactSameMachines fu) out_bo 7 [(.agg [(.int .i64 aA_0.Config.Version), (.rs aA_0.Config.Backends.z .impl_Backend aA_0.Config.Backends.n aA_0.Config.Backends.f), (.rs aA_0.Config.Vips.z .impl_Vip aA_0.Config.Vips.n aA_0.Config.Vips.f), (.rs aA_0.Sessions.z .impl_Session aA_0.Sessions.n aA_0.Sessions.f)]), (.agg [(.int .i64 aB_1.Config.Version), (.rs aB_1.Config.Backends.z .impl_Backend aB_1.Config.Backends.n aB_1.Config.Backends.f), (.rs aB_1.Config.Vips.z .impl_Vip aB_1.Config.Vips.n aB_1.Config.Vips.f), (.rs aB_1.Sessions.z .impl_Session aB_1.Sessions.n aB_1.Sessions.f)])] = F_laws_FnExactSameMachines fu aA_0 aB_1 := by kernel_rfl
noncomputable def body_laws_FnExactSameMachines : Code := Try.f7.body.getD .skip
theorem lpok_laws_FnExactSameMachines (fu : Nat) : LpOk E (pc_laws_FnExactSameMachines fu) msk_laws_FnExactSameMachines (lp_laws_FnExactSameMachines fu) (loops 0 body_laws_FnExactSameMachines) := by
  have h : loops 0 body_laws_FnExactSameMachines = [] := by kernel_rfl
  rw [h]; intro p hp; cases hp
def S_laws_FnExactSameMachines (fu : Nat) (xs : List (D RT den)) : Option (Out RT den) := match xs with | [.agg [.int .i64 a0_2, .rs za0_3 .impl_Backend na0_3 fa0_3, .rs za0_4 .impl_Vip na0_4 fa0_4, .rs za0_5 .impl_Session na0_5 fa0_5], .agg [.int .i64 a1_2, .rs za1_3 .impl_Backend na1_3 fa1_3, .rs za1_4 .impl_Vip na1_4 fa1_4, .rs za1_5 .impl_Session na1_5 fa1_5]] => some ⟨Bool, F_laws_FnExactSameMachines fu (⟨(⟨a0_2, (⟨za0_3, na0_3, fa0_3⟩ : (Sl S_impl_Backend)), (⟨za0_4, na0_4, fa0_4⟩ : (Sl S_impl_Vip))⟩ : S_laws_Config), (⟨za0_5, na0_5, fa0_5⟩ : (Sl S_impl_Session))⟩ : S_laws_Machine) (⟨(⟨a1_2, (⟨za1_3, na1_3, fa1_3⟩ : (Sl S_impl_Backend)), (⟨za1_4, na1_4, fa1_4⟩ : (Sl S_impl_Vip))⟩ : S_laws_Config), (⟨za1_5, na1_5, fa1_5⟩ : (Sl S_impl_Session))⟩ : S_laws_Machine), enc_bo, fun _ => true⟩ | _ => none
theorem hpc_laws_FnExactSameMachines (fu : Nat) : ∀ f xs o, pc_laws_FnExactSameMachines fu f xs = some o → ∀ y, o.x = some y → Good E Try.prog f xs (o.g y) := by
  intro f xs o h
  unfold pc_laws_FnExactSameMachines at h
  split at h
  · exact good_laws_szMachine fu xs o h
  · exact good_spec_SameMachines fu xs o h
  · exact good_laws_toMachine fu xs o h
  · exact good_impl_SameMachines fu xs o h
  · exact good_laws_eqMachine fu xs o h
  · cases h
theorem goodv_laws_FnExactSameMachines (fu : Nat) (aA_0 : S_laws_Machine) (aB_1 : S_laws_Machine) (y : Bool) (hy : F_laws_FnExactSameMachines fu aA_0 aB_1 = some y) : Good E Try.prog 7 [(.agg [(.int .i64 aA_0.Config.Version), (.rs aA_0.Config.Backends.z .impl_Backend aA_0.Config.Backends.n aA_0.Config.Backends.f), (.rs aA_0.Config.Vips.z .impl_Vip aA_0.Config.Vips.n aA_0.Config.Vips.f), (.rs aA_0.Sessions.z .impl_Session aA_0.Sessions.n aA_0.Sessions.f)]), (.agg [(.int .i64 aB_1.Config.Version), (.rs aB_1.Config.Backends.z .impl_Backend aB_1.Config.Backends.n aB_1.Config.Backends.f), (.rs aB_1.Config.Vips.z .impl_Vip aB_1.Config.Vips.n aB_1.Config.Vips.f), (.rs aB_1.Sessions.z .impl_Session aB_1.Sessions.n aB_1.Sessions.f)])] (enc_bo y) :=
  fun_good E_ok (pc_good (hpc_laws_FnExactSameMachines fu)) (fn := Try.f7) (c := body_laws_FnExactSameMachines) (out := out_bo) (y := y) (by kernel_rfl) (by kernel_rfl) (by kernel_rfl) (lpok_laws_FnExactSameMachines fu) (fun d hd => out_bo_enc d _ hd) ((ev_laws_FnExactSameMachines fu aA_0 aB_1).trans hy)
theorem good_laws_FnExactSameMachines (fu : Nat) : ∀ xs o, S_laws_FnExactSameMachines fu xs = some o → ∀ y, o.x = some y → Good E Try.prog 7 xs (o.g y) := by
  intro xs o h y hy
  unfold S_laws_FnExactSameMachines at h
  split at h
  · rename_i a0_2 za0_3 na0_3 fa0_3 za0_4 na0_4 fa0_4 za0_5 na0_5 fa0_5 a1_2 za1_3 na1_3 fa1_3 za1_4 na1_4 fa1_4 za1_5 na1_5 fa1_5
    cases h
    exact goodv_laws_FnExactSameMachines fu (⟨(⟨a0_2, (⟨za0_3, na0_3, fa0_3⟩ : (Sl S_impl_Backend)), (⟨za0_4, na0_4, fa0_4⟩ : (Sl S_impl_Vip))⟩ : S_laws_Config), (⟨za0_5, na0_5, fa0_5⟩ : (Sl S_impl_Session))⟩ : S_laws_Machine) (⟨(⟨a1_2, (⟨za1_3, na1_3, fa1_3⟩ : (Sl S_impl_Backend)), (⟨za1_4, na1_4, fa1_4⟩ : (Sl S_impl_Vip))⟩ : S_laws_Config), (⟨za1_5, na1_5, fa1_5⟩ : (Sl S_impl_Session))⟩ : S_laws_Machine) y hy
  · cases h

/-! laws.szWatch -/
def F_laws_szWatch (fu : Nat) (a_0 : S_laws_Watch) (left_1 : Int) : Option (Int) :=
  ((F_laws_szConfig fu a_0.Config left_1).bind fun y181 => (bif (decide (y181 < 0)) then (some (-1)) else (some y181)))
def pc_laws_szWatch (fu : Nat) : Pc RT den := fun f xs => match f with | 53 => S_laws_szConfig fu xs | _ => none
def msk_laws_szWatch (b : Nat) : List Nat := []
def lp_laws_szWatch (fu : Nat) : Lp RT den (Int) := fun b s k => none
theorem ev_laws_szWatch (fu : Nat) (a_0 : S_laws_Watch) (left_1 : Int) : evFun E (pc_laws_szWatch fu) msk_laws_szWatch (lp_laws_szWatch fu) out_i64 31 [(.agg [(.bool a_0.Ready), (.int .i64 a_0.Config.Version), (.rs a_0.Config.Backends.z .impl_Backend a_0.Config.Backends.n a_0.Config.Backends.f), (.rs a_0.Config.Vips.z .impl_Vip a_0.Config.Vips.n a_0.Config.Vips.f)]), (.int .i64 left_1)] = F_laws_szWatch fu a_0 left_1 := by kernel_rfl
noncomputable def body_laws_szWatch : Code := Try.f31.body.getD .skip
theorem lpok_laws_szWatch (fu : Nat) : LpOk E (pc_laws_szWatch fu) msk_laws_szWatch (lp_laws_szWatch fu) (loops 0 body_laws_szWatch) := by
  have h : loops 0 body_laws_szWatch = [] := by kernel_rfl
  rw [h]; intro p hp; cases hp
def S_laws_szWatch (fu : Nat) (xs : List (D RT den)) : Option (Out RT den) := match xs with | [.agg [.bool a0_1, .int .i64 a0_3, .rs za0_4 .impl_Backend na0_4 fa0_4, .rs za0_5 .impl_Vip na0_5 fa0_5], .int .i64 a1_0] => some ⟨Int, F_laws_szWatch fu (⟨a0_1, (⟨a0_3, (⟨za0_4, na0_4, fa0_4⟩ : (Sl S_impl_Backend)), (⟨za0_5, na0_5, fa0_5⟩ : (Sl S_impl_Vip))⟩ : S_laws_Config)⟩ : S_laws_Watch) a1_0, enc_i64, fun _ => true⟩ | _ => none
theorem hpc_laws_szWatch (fu : Nat) : ∀ f xs o, pc_laws_szWatch fu f xs = some o → ∀ y, o.x = some y → Good E Try.prog f xs (o.g y) := by
  intro f xs o h
  unfold pc_laws_szWatch at h
  split at h
  · exact good_laws_szConfig fu xs o h
  · cases h
theorem goodv_laws_szWatch (fu : Nat) (a_0 : S_laws_Watch) (left_1 : Int) (y : Int) (hy : F_laws_szWatch fu a_0 left_1 = some y) : Good E Try.prog 31 [(.agg [(.bool a_0.Ready), (.int .i64 a_0.Config.Version), (.rs a_0.Config.Backends.z .impl_Backend a_0.Config.Backends.n a_0.Config.Backends.f), (.rs a_0.Config.Vips.z .impl_Vip a_0.Config.Vips.n a_0.Config.Vips.f)]), (.int .i64 left_1)] (enc_i64 y) :=
  fun_good E_ok (pc_good (hpc_laws_szWatch fu)) (fn := Try.f31) (c := body_laws_szWatch) (out := out_i64) (y := y) (by kernel_rfl) (by kernel_rfl) (by kernel_rfl) (lpok_laws_szWatch fu) (fun d hd => out_i64_enc d _ hd) ((ev_laws_szWatch fu a_0 left_1).trans hy)
theorem good_laws_szWatch (fu : Nat) : ∀ xs o, S_laws_szWatch fu xs = some o → ∀ y, o.x = some y → Good E Try.prog 31 xs (o.g y) := by
  intro xs o h y hy
  unfold S_laws_szWatch at h
  split at h
  · rename_i a0_1 a0_3 za0_4 na0_4 fa0_4 za0_5 na0_5 fa0_5 a1_0
    cases h
    exact goodv_laws_szWatch fu (⟨a0_1, (⟨a0_3, (⟨za0_4, na0_4, fa0_4⟩ : (Sl S_impl_Backend)), (⟨za0_5, na0_5, fa0_5⟩ : (Sl S_impl_Vip))⟩ : S_laws_Config)⟩ : S_laws_Watch) a1_0 y hy
  · cases h

/-! laws.toWatch -/
def F_laws_toWatch (fu : Nat) (a_0 : S_laws_Watch) : Option (S_impl_Watch) :=
  ((F_laws_toConfig fu a_0.Config).bind fun y182 => (some (⟨a_0.Ready, y182⟩ : S_impl_Watch)))
def pc_laws_toWatch (fu : Nat) : Pc RT den := fun f xs => match f with | 56 => S_laws_toConfig fu xs | _ => none
def msk_laws_toWatch (b : Nat) : List Nat := []
def lp_laws_toWatch (fu : Nat) : Lp RT den (S_impl_Watch) := fun b s k => none
theorem ev_laws_toWatch (fu : Nat) (a_0 : S_laws_Watch) : evFun E (pc_laws_toWatch fu) msk_laws_toWatch (lp_laws_toWatch fu) out_impl_Watch 33 [(.agg [(.bool a_0.Ready), (.int .i64 a_0.Config.Version), (.rs a_0.Config.Backends.z .impl_Backend a_0.Config.Backends.n a_0.Config.Backends.f), (.rs a_0.Config.Vips.z .impl_Vip a_0.Config.Vips.n a_0.Config.Vips.f)])] = F_laws_toWatch fu a_0 := by kernel_rfl
noncomputable def body_laws_toWatch : Code := Try.f33.body.getD .skip
theorem lpok_laws_toWatch (fu : Nat) : LpOk E (pc_laws_toWatch fu) msk_laws_toWatch (lp_laws_toWatch fu) (loops 0 body_laws_toWatch) := by
  have h : loops 0 body_laws_toWatch = [] := by kernel_rfl
  rw [h]; intro p hp; cases hp
def S_laws_toWatch (fu : Nat) (xs : List (D RT den)) : Option (Out RT den) := match xs with | [.agg [.bool a0_1, .int .i64 a0_3, .rs za0_4 .impl_Backend na0_4 fa0_4, .rs za0_5 .impl_Vip na0_5 fa0_5]] => some ⟨S_impl_Watch, F_laws_toWatch fu (⟨a0_1, (⟨a0_3, (⟨za0_4, na0_4, fa0_4⟩ : (Sl S_impl_Backend)), (⟨za0_5, na0_5, fa0_5⟩ : (Sl S_impl_Vip))⟩ : S_laws_Config)⟩ : S_laws_Watch), enc_impl_Watch, fun _ => true⟩ | _ => none
theorem hpc_laws_toWatch (fu : Nat) : ∀ f xs o, pc_laws_toWatch fu f xs = some o → ∀ y, o.x = some y → Good E Try.prog f xs (o.g y) := by
  intro f xs o h
  unfold pc_laws_toWatch at h
  split at h
  · exact good_laws_toConfig fu xs o h
  · cases h
theorem goodv_laws_toWatch (fu : Nat) (a_0 : S_laws_Watch) (y : S_impl_Watch) (hy : F_laws_toWatch fu a_0 = some y) : Good E Try.prog 33 [(.agg [(.bool a_0.Ready), (.int .i64 a_0.Config.Version), (.rs a_0.Config.Backends.z .impl_Backend a_0.Config.Backends.n a_0.Config.Backends.f), (.rs a_0.Config.Vips.z .impl_Vip a_0.Config.Vips.n a_0.Config.Vips.f)])] (enc_impl_Watch y) :=
  fun_good E_ok (pc_good (hpc_laws_toWatch fu)) (fn := Try.f33) (c := body_laws_toWatch) (out := out_impl_Watch) (y := y) (by kernel_rfl) (by kernel_rfl) (by kernel_rfl) (lpok_laws_toWatch fu) (fun d hd => out_impl_Watch_enc d _ hd) ((ev_laws_toWatch fu a_0).trans hy)
theorem good_laws_toWatch (fu : Nat) : ∀ xs o, S_laws_toWatch fu xs = some o → ∀ y, o.x = some y → Good E Try.prog 33 xs (o.g y) := by
  intro xs o h y hy
  unfold S_laws_toWatch at h
  split at h
  · rename_i a0_1 a0_3 za0_4 na0_4 fa0_4 za0_5 na0_5 fa0_5
    cases h
    exact goodv_laws_toWatch fu (⟨a0_1, (⟨a0_3, (⟨za0_4, na0_4, fa0_4⟩ : (Sl S_impl_Backend)), (⟨za0_5, na0_5, fa0_5⟩ : (Sl S_impl_Vip))⟩ : S_laws_Config)⟩ : S_laws_Watch) y hy
  · cases h

/-! spec.l5Version -/
def F_spec_l5Version (fu : Nat) (v_0 : Int) : Option (Bool) :=
  ((F_spec_l1In fu v_0 0 1000000).bind fun y192 => (some y192))
def pc_spec_l5Version (fu : Nat) : Pc RT den := fun f xs => match f with | 47 => S_spec_l1In fu xs | _ => none
def msk_spec_l5Version (b : Nat) : List Nat := []
def lp_spec_l5Version (fu : Nat) : Lp RT den (Bool) := fun b s k => none
theorem ev_spec_l5Version (fu : Nat) (v_0 : Int) : evFun E (pc_spec_l5Version fu) msk_spec_l5Version (lp_spec_l5Version fu) out_bo 82 [(.int .i64 v_0)] = F_spec_l5Version fu v_0 := by kernel_rfl
noncomputable def body_spec_l5Version : Code := Try.f82.body.getD .skip
theorem lpok_spec_l5Version (fu : Nat) : LpOk E (pc_spec_l5Version fu) msk_spec_l5Version (lp_spec_l5Version fu) (loops 0 body_spec_l5Version) := by
  have h : loops 0 body_spec_l5Version = [] := by kernel_rfl
  rw [h]; intro p hp; cases hp
def S_spec_l5Version (fu : Nat) (xs : List (D RT den)) : Option (Out RT den) := match xs with | [.int .i64 a0_0] => some ⟨Bool, F_spec_l5Version fu a0_0, enc_bo, fun _ => true⟩ | _ => none
theorem hpc_spec_l5Version (fu : Nat) : ∀ f xs o, pc_spec_l5Version fu f xs = some o → ∀ y, o.x = some y → Good E Try.prog f xs (o.g y) := by
  intro f xs o h
  unfold pc_spec_l5Version at h
  split at h
  · exact good_spec_l1In fu xs o h
  · cases h
theorem goodv_spec_l5Version (fu : Nat) (v_0 : Int) (y : Bool) (hy : F_spec_l5Version fu v_0 = some y) : Good E Try.prog 82 [(.int .i64 v_0)] (enc_bo y) :=
  fun_good E_ok (pc_good (hpc_spec_l5Version fu)) (fn := Try.f82) (c := body_spec_l5Version) (out := out_bo) (y := y) (by kernel_rfl) (by kernel_rfl) (by kernel_rfl) (lpok_spec_l5Version fu) (fun d hd => out_bo_enc d _ hd) ((ev_spec_l5Version fu v_0).trans hy)
theorem good_spec_l5Version (fu : Nat) : ∀ xs o, S_spec_l5Version fu xs = some o → ∀ y, o.x = some y → Good E Try.prog 82 xs (o.g y) := by
  intro xs o h y hy
  unfold S_spec_l5Version at h
  split at h
  · rename_i a0_0
    cases h
    exact goodv_spec_l5Version fu a0_0 y hy
  · cases h

/-! spec.l2Address -/
def F_spec_l2Address (fu : Nat) (a_0 : Int) : Option (Bool) :=
  ((F_spec_l1In fu a_0 0 4294967295).bind fun y198 => (some y198))
def pc_spec_l2Address (fu : Nat) : Pc RT den := fun f xs => match f with | 47 => S_spec_l1In fu xs | _ => none
def msk_spec_l2Address (b : Nat) : List Nat := []
def lp_spec_l2Address (fu : Nat) : Lp RT den (Bool) := fun b s k => none
theorem ev_spec_l2Address (fu : Nat) (a_0 : Int) : evFun E (pc_spec_l2Address fu) msk_spec_l2Address (lp_spec_l2Address fu) out_bo 99 [(.int .i64 a_0)] = F_spec_l2Address fu a_0 := by kernel_rfl
noncomputable def body_spec_l2Address : Code := Try.f99.body.getD .skip
theorem lpok_spec_l2Address (fu : Nat) : LpOk E (pc_spec_l2Address fu) msk_spec_l2Address (lp_spec_l2Address fu) (loops 0 body_spec_l2Address) := by
  have h : loops 0 body_spec_l2Address = [] := by kernel_rfl
  rw [h]; intro p hp; cases hp
def S_spec_l2Address (fu : Nat) (xs : List (D RT den)) : Option (Out RT den) := match xs with | [.int .i64 a0_0] => some ⟨Bool, F_spec_l2Address fu a0_0, enc_bo, fun _ => true⟩ | _ => none
theorem hpc_spec_l2Address (fu : Nat) : ∀ f xs o, pc_spec_l2Address fu f xs = some o → ∀ y, o.x = some y → Good E Try.prog f xs (o.g y) := by
  intro f xs o h
  unfold pc_spec_l2Address at h
  split at h
  · exact good_spec_l1In fu xs o h
  · cases h
theorem goodv_spec_l2Address (fu : Nat) (a_0 : Int) (y : Bool) (hy : F_spec_l2Address fu a_0 = some y) : Good E Try.prog 99 [(.int .i64 a_0)] (enc_bo y) :=
  fun_good E_ok (pc_good (hpc_spec_l2Address fu)) (fn := Try.f99) (c := body_spec_l2Address) (out := out_bo) (y := y) (by kernel_rfl) (by kernel_rfl) (by kernel_rfl) (lpok_spec_l2Address fu) (fun d hd => out_bo_enc d _ hd) ((ev_spec_l2Address fu a_0).trans hy)
theorem good_spec_l2Address (fu : Nat) : ∀ xs o, S_spec_l2Address fu xs = some o → ∀ y, o.x = some y → Good E Try.prog 99 xs (o.g y) := by
  intro xs o h y hy
  unfold S_spec_l2Address at h
  split at h
  · rename_i a0_0
    cases h
    exact goodv_spec_l2Address fu a0_0 y hy
  · cases h

/-! spec.l5Backend -/
def F_spec_l5Backend (fu : Nat) (b_0 : S_impl_Backend) : Option (Bool) :=
  ((((F_spec_l3Name fu b_0.Name).bind fun y193 => (bif y193 then ((F_spec_l2Address fu b_0.Address).bind fun y194 => (bif y194 then ((F_spec_l1In fu b_0.Weight 0 9).bind fun y195 =>
    (bif y195 then ((F_spec_l1In fu b_0.Stage 1 3).bind fun y196 => (some y196)) else (some false))) else (some false))) else (some false))) : Option Bool).bind fun m197 => (some m197))
def pc_spec_l5Backend (fu : Nat) : Pc RT den := fun f xs => match f with | 46 => S_spec_l3Name fu xs | 47 => S_spec_l1In fu xs | 99 => S_spec_l2Address fu xs | _ => none
def msk_spec_l5Backend (b : Nat) : List Nat := match b with | 200001 => [2] | _ => []
def lp_spec_l5Backend (fu : Nat) : Lp RT den (Bool) := fun b s k => none
theorem ev_spec_l5Backend (fu : Nat) (b_0 : S_impl_Backend) : evFun E (pc_spec_l5Backend fu) msk_spec_l5Backend (lp_spec_l5Backend fu) out_bo 83 [(.agg [(.int .i64 b_0.Name), (.int .i64 b_0.Address), (.int .i64 b_0.Weight), (.int .i64 b_0.Stage), (.bool b_0.Up)])] = F_spec_l5Backend fu b_0 := by kernel_rfl
noncomputable def body_spec_l5Backend : Code := Try.f83.body.getD .skip
theorem lpok_spec_l5Backend (fu : Nat) : LpOk E (pc_spec_l5Backend fu) msk_spec_l5Backend (lp_spec_l5Backend fu) (loops 0 body_spec_l5Backend) := by
  have h : loops 0 body_spec_l5Backend = [] := by kernel_rfl
  rw [h]; intro p hp; cases hp
def S_spec_l5Backend (fu : Nat) (xs : List (D RT den)) : Option (Out RT den) := match xs with | [.agg [.int .i64 a0_1, .int .i64 a0_2, .int .i64 a0_3, .int .i64 a0_4, .bool a0_5]] => some ⟨Bool, F_spec_l5Backend fu (⟨a0_1, a0_2, a0_3, a0_4, a0_5⟩ : S_impl_Backend), enc_bo, fun _ => true⟩ | _ => none
theorem hpc_spec_l5Backend (fu : Nat) : ∀ f xs o, pc_spec_l5Backend fu f xs = some o → ∀ y, o.x = some y → Good E Try.prog f xs (o.g y) := by
  intro f xs o h
  unfold pc_spec_l5Backend at h
  split at h
  · exact good_spec_l3Name fu xs o h
  · exact good_spec_l1In fu xs o h
  · exact good_spec_l2Address fu xs o h
  · cases h
theorem goodv_spec_l5Backend (fu : Nat) (b_0 : S_impl_Backend) (y : Bool) (hy : F_spec_l5Backend fu b_0 = some y) : Good E Try.prog 83 [(.agg [(.int .i64 b_0.Name), (.int .i64 b_0.Address), (.int .i64 b_0.Weight), (.int .i64 b_0.Stage), (.bool b_0.Up)])] (enc_bo y) :=
  fun_good E_ok (pc_good (hpc_spec_l5Backend fu)) (fn := Try.f83) (c := body_spec_l5Backend) (out := out_bo) (y := y) (by kernel_rfl) (by kernel_rfl) (by kernel_rfl) (lpok_spec_l5Backend fu) (fun d hd => out_bo_enc d _ hd) ((ev_spec_l5Backend fu b_0).trans hy)
theorem good_spec_l5Backend (fu : Nat) : ∀ xs o, S_spec_l5Backend fu xs = some o → ∀ y, o.x = some y → Good E Try.prog 83 xs (o.g y) := by
  intro xs o h y hy
  unfold S_spec_l5Backend at h
  split at h
  · rename_i a0_1 a0_2 a0_3 a0_4 a0_5
    cases h
    exact goodv_spec_l5Backend fu (⟨a0_1, a0_2, a0_3, a0_4, a0_5⟩ : S_impl_Backend) y hy
  · cases h

/-! spec.l2Port -/
def F_spec_l2Port (fu : Nat) (p_0 : Int) : Option (Bool) :=
  ((F_spec_l1In fu p_0 0 65535).bind fun y206 => (some y206))
def pc_spec_l2Port (fu : Nat) : Pc RT den := fun f xs => match f with | 47 => S_spec_l1In fu xs | _ => none
def msk_spec_l2Port (b : Nat) : List Nat := []
def lp_spec_l2Port (fu : Nat) : Lp RT den (Bool) := fun b s k => none
theorem ev_spec_l2Port (fu : Nat) (p_0 : Int) : evFun E (pc_spec_l2Port fu) msk_spec_l2Port (lp_spec_l2Port fu) out_bo 100 [(.int .i64 p_0)] = F_spec_l2Port fu p_0 := by kernel_rfl
noncomputable def body_spec_l2Port : Code := Try.f100.body.getD .skip
theorem lpok_spec_l2Port (fu : Nat) : LpOk E (pc_spec_l2Port fu) msk_spec_l2Port (lp_spec_l2Port fu) (loops 0 body_spec_l2Port) := by
  have h : loops 0 body_spec_l2Port = [] := by kernel_rfl
  rw [h]; intro p hp; cases hp
def S_spec_l2Port (fu : Nat) (xs : List (D RT den)) : Option (Out RT den) := match xs with | [.int .i64 a0_0] => some ⟨Bool, F_spec_l2Port fu a0_0, enc_bo, fun _ => true⟩ | _ => none
theorem hpc_spec_l2Port (fu : Nat) : ∀ f xs o, pc_spec_l2Port fu f xs = some o → ∀ y, o.x = some y → Good E Try.prog f xs (o.g y) := by
  intro f xs o h
  unfold pc_spec_l2Port at h
  split at h
  · exact good_spec_l1In fu xs o h
  · cases h
theorem goodv_spec_l2Port (fu : Nat) (p_0 : Int) (y : Bool) (hy : F_spec_l2Port fu p_0 = some y) : Good E Try.prog 100 [(.int .i64 p_0)] (enc_bo y) :=
  fun_good E_ok (pc_good (hpc_spec_l2Port fu)) (fn := Try.f100) (c := body_spec_l2Port) (out := out_bo) (y := y) (by kernel_rfl) (by kernel_rfl) (by kernel_rfl) (lpok_spec_l2Port fu) (fun d hd => out_bo_enc d _ hd) ((ev_spec_l2Port fu p_0).trans hy)
theorem good_spec_l2Port (fu : Nat) : ∀ xs o, S_spec_l2Port fu xs = some o → ∀ y, o.x = some y → Good E Try.prog 100 xs (o.g y) := by
  intro xs o h y hy
  unfold S_spec_l2Port at h
  split at h
  · rename_i a0_0
    cases h
    exact goodv_spec_l2Port fu a0_0 y hy
  · cases h

/-! spec.l5Proto -/
def F_spec_l5Proto (fu : Nat) (p_0 : Int) : Option (Bool) :=
  (((bif (p_0 == 6) then (some true) else (some (p_0 == 17))) : Option Bool).bind fun m207 => (some m207))
def pc_spec_l5Proto (fu : Nat) : Pc RT den := fun f xs => none
def msk_spec_l5Proto (b : Nat) : List Nat := match b with | 200001 => [2] | _ => []
def lp_spec_l5Proto (fu : Nat) : Lp RT den (Bool) := fun b s k => none
theorem ev_spec_l5Proto (fu : Nat) (p_0 : Int) : evFun E (pc_spec_l5Proto fu) msk_spec_l5Proto (lp_spec_l5Proto fu) out_bo 101 [(.int .i64 p_0)] = F_spec_l5Proto fu p_0 := by kernel_rfl
noncomputable def body_spec_l5Proto : Code := Try.f101.body.getD .skip
theorem lpok_spec_l5Proto (fu : Nat) : LpOk E (pc_spec_l5Proto fu) msk_spec_l5Proto (lp_spec_l5Proto fu) (loops 0 body_spec_l5Proto) := by
  have h : loops 0 body_spec_l5Proto = [] := by kernel_rfl
  rw [h]; intro p hp; cases hp
def S_spec_l5Proto (fu : Nat) (xs : List (D RT den)) : Option (Out RT den) := match xs with | [.int .i64 a0_0] => some ⟨Bool, F_spec_l5Proto fu a0_0, enc_bo, fun _ => true⟩ | _ => none
theorem hpc_spec_l5Proto (fu : Nat) : ∀ f xs o, pc_spec_l5Proto fu f xs = some o → ∀ y, o.x = some y → Good E Try.prog f xs (o.g y) := by
  intro f xs o h
  cases h
theorem goodv_spec_l5Proto (fu : Nat) (p_0 : Int) (y : Bool) (hy : F_spec_l5Proto fu p_0 = some y) : Good E Try.prog 101 [(.int .i64 p_0)] (enc_bo y) :=
  fun_good E_ok (pc_good (hpc_spec_l5Proto fu)) (fn := Try.f101) (c := body_spec_l5Proto) (out := out_bo) (y := y) (by kernel_rfl) (by kernel_rfl) (by kernel_rfl) (lpok_spec_l5Proto fu) (fun d hd => out_bo_enc d _ hd) ((ev_spec_l5Proto fu p_0).trans hy)
theorem good_spec_l5Proto (fu : Nat) : ∀ xs o, S_spec_l5Proto fu xs = some o → ∀ y, o.x = some y → Good E Try.prog 101 xs (o.g y) := by
  intro xs o h y hy
  unfold S_spec_l5Proto at h
  split at h
  · rename_i a0_0
    cases h
    exact goodv_spec_l5Proto fu a0_0 y hy
  · cases h

/-! spec.l5Behind -/
def F_spec_l5Behind (fu : Nat) (a_0 : S_impl_Vip) (b_1 : S_impl_Vip) : Option (Bool) :=
  (bif (a_0.Address != b_1.Address) then (some (decide (a_0.Address < b_1.Address))) else (bif (a_0.Port != b_1.Port) then (some (decide (a_0.Port < b_1.Port))) else (some (decide (a_0.Proto < b_1.Proto)))))
def pc_spec_l5Behind (fu : Nat) : Pc RT den := fun f xs => none
def msk_spec_l5Behind (b : Nat) : List Nat := []
def lp_spec_l5Behind (fu : Nat) : Lp RT den (Bool) := fun b s k => none
theorem ev_spec_l5Behind (fu : Nat) (a_0 : S_impl_Vip) (b_1 : S_impl_Vip) : evFun E (pc_spec_l5Behind fu) msk_spec_l5Behind (lp_spec_l5Behind fu) out_bo 102 [(.agg [(.int .i64 a_0.Address), (.int .i64 a_0.Port), (.int .i64 a_0.Proto), (.rs a_0.Names.z .i64 a_0.Names.n a_0.Names.f)]), (.agg [(.int .i64 b_1.Address), (.int .i64 b_1.Port), (.int .i64 b_1.Proto), (.rs b_1.Names.z .i64 b_1.Names.n b_1.Names.f)])] = F_spec_l5Behind fu a_0 b_1 := by kernel_rfl
noncomputable def body_spec_l5Behind : Code := Try.f102.body.getD .skip
theorem lpok_spec_l5Behind (fu : Nat) : LpOk E (pc_spec_l5Behind fu) msk_spec_l5Behind (lp_spec_l5Behind fu) (loops 0 body_spec_l5Behind) := by
  have h : loops 0 body_spec_l5Behind = [] := by kernel_rfl
  rw [h]; intro p hp; cases hp
def S_spec_l5Behind (fu : Nat) (xs : List (D RT den)) : Option (Out RT den) := match xs with | [.agg [.int .i64 a0_1, .int .i64 a0_2, .int .i64 a0_3, .rs za0_4 .i64 na0_4 fa0_4], .agg [.int .i64 a1_1, .int .i64 a1_2, .int .i64 a1_3, .rs za1_4 .i64 na1_4 fa1_4]] => some ⟨Bool, F_spec_l5Behind fu (⟨a0_1, a0_2, a0_3, (⟨za0_4, na0_4, fa0_4⟩ : (Sl Int))⟩ : S_impl_Vip) (⟨a1_1, a1_2, a1_3, (⟨za1_4, na1_4, fa1_4⟩ : (Sl Int))⟩ : S_impl_Vip), enc_bo, fun _ => true⟩ | _ => none
theorem hpc_spec_l5Behind (fu : Nat) : ∀ f xs o, pc_spec_l5Behind fu f xs = some o → ∀ y, o.x = some y → Good E Try.prog f xs (o.g y) := by
  intro f xs o h
  cases h
theorem goodv_spec_l5Behind (fu : Nat) (a_0 : S_impl_Vip) (b_1 : S_impl_Vip) (y : Bool) (hy : F_spec_l5Behind fu a_0 b_1 = some y) : Good E Try.prog 102 [(.agg [(.int .i64 a_0.Address), (.int .i64 a_0.Port), (.int .i64 a_0.Proto), (.rs a_0.Names.z .i64 a_0.Names.n a_0.Names.f)]), (.agg [(.int .i64 b_1.Address), (.int .i64 b_1.Port), (.int .i64 b_1.Proto), (.rs b_1.Names.z .i64 b_1.Names.n b_1.Names.f)])] (enc_bo y) :=
  fun_good E_ok (pc_good (hpc_spec_l5Behind fu)) (fn := Try.f102) (c := body_spec_l5Behind) (out := out_bo) (y := y) (by kernel_rfl) (by kernel_rfl) (by kernel_rfl) (lpok_spec_l5Behind fu) (fun d hd => out_bo_enc d _ hd) ((ev_spec_l5Behind fu a_0 b_1).trans hy)
theorem good_spec_l5Behind (fu : Nat) : ∀ xs o, S_spec_l5Behind fu xs = some o → ∀ y, o.x = some y → Good E Try.prog 102 xs (o.g y) := by
  intro xs o h y hy
  unfold S_spec_l5Behind at h
  split at h
  · rename_i a0_1 a0_2 a0_3 za0_4 na0_4 fa0_4 a1_1 a1_2 a1_3 za1_4 na1_4 fa1_4
    cases h
    exact goodv_spec_l5Behind fu (⟨a0_1, a0_2, a0_3, (⟨za0_4, na0_4, fa0_4⟩ : (Sl Int))⟩ : S_impl_Vip) (⟨a1_1, a1_2, a1_3, (⟨za1_4, na1_4, fa1_4⟩ : (Sl Int))⟩ : S_impl_Vip) y hy
  · cases h

/-! spec.l5At -/
def F_spec_l5At_B0 {ρ : Type} (fu : Nat) (c0_0 : Int) (c0_1 : (Sl S_impl_Backend)) (c0_2 : (Sl S_impl_Vip)) (name1_3 : Int) (k0 : Int → Option ρ) (k1 : Option ρ) (i5_4 : Int) (go : Int → Option ρ) : Option ρ :=
  (bif (decide (i5_4 < ((c0_1.n : Nat) : Int))) then ((bif (decide (0 ≤ i5_4) && decide ((Int.toNat i5_4) < c0_1.n)) then some () else none : Option Unit).bind fun _ => (bif ((c0_1.f (Int.toNat i5_4)).Name == name1_3) then
    (k0 i5_4) else (go (IntKind.wrap .i64 (i5_4 + 1))))) else k1)
def F_spec_l5At (fu : Nat) (c_0 : S_impl_Config) (name_1 : Int) : Option (Int) :=
  (L (fun w0 go0 => F_spec_l5At_B0 fu c_0.Version c_0.Backends c_0.Vips name_1 (fun z208 => (some z208)) (some (-1)) w0 go0) fu (0 : Int))
def pc_spec_l5At (fu : Nat) : Pc RT den := fun f xs => none
def msk_spec_l5At (b : Nat) : List Nat := match b with | 0 => [2, 3, 4, 6, 7, 8, 9, 10, 11, 12, 13, 14, 15, 16, 17, 18, 19, 20, 21, 22, 23, 24, 25] | 100000 => [0, 1, 2, 3, 5, 6, 7, 8, 9, 10, 11, 12, 13, 14, 15, 16, 17, 18, 19, 20, 21, 22, 23, 24, 25] | _ => []
def ps_spec_l5At_0 : List (Pat RT) := [.rptr [(.int .i64), (.rs .impl_Backend), (.rs .impl_Vip)], .flat (.int .i64), .flat .dead, .flat .dead, .flat .dead, .flat (.int .i64), .flat .dead, .flat .dead, .flat .dead, .flat .dead, .flat .dead, .flat .dead, .flat .dead, .flat .dead, .flat .dead, .flat .dead, .flat .dead, .flat .dead, .flat .dead, .flat .dead, .flat .dead, .flat .dead, .flat .dead, .flat .dead, .flat .dead, .flat .dead]
def os_spec_l5At_0 : List (OP RT) := []
def conv_spec_l5At_0 (r : Raw den ps_spec_l5At_0 os_spec_l5At_0) : (Int × (Sl S_impl_Backend) × (Sl S_impl_Vip) × Int) × (Int) := ((r.1.1.1, r.1.1.2.1, r.1.1.2.2.1, r.1.2.1), r.1.2.2.2.2.2.1)
def back_spec_l5At_0 (c : Int × (Sl S_impl_Backend) × (Sl S_impl_Vip) × Int) (w : Int) : St RT den := ⟨[(.rptr [(.int .i64 c.1), (.rs c.2.1.z .impl_Backend c.2.1.n c.2.1.f), (.rs c.2.2.1.z .impl_Vip c.2.2.1.n c.2.2.1.f)]), (.int .i64 c.2.2.2), .dead, .dead, .dead, (.int .i64 w), .dead, .dead, .dead, .dead, .dead, .dead, .dead, .dead, .dead, .dead, .dead, .dead, .dead, .dead, .dead, .dead, .dead, .dead, .dead, .dead], []⟩
def Bk_spec_l5At_0 {ρ : Type} (fu : Nat) (c : Int × (Sl S_impl_Backend) × (Sl S_impl_Vip) × Int) (k : Ex → St RT den → Option ρ) (w : Int) (go : (Int) → Option ρ) : Option ρ := F_spec_l5At_B0 fu c.1 c.2.1 c.2.2.1 c.2.2.2 (fun a0 => k .ret ⟨[.dead, .dead, .dead, .dead, (.int .i64 a0), .dead, .dead, .dead, .dead, .dead, .dead, .dead, .dead, .dead, .dead, .dead, .dead, .dead, .dead, .dead, .dead, .dead, .dead, .dead, .dead, .dead], []⟩) (k (.exit 0) ⟨[.dead, .dead, .dead, .dead, .dead, .dead, .dead, .dead, .dead, .dead, .dead, .dead, .dead, .dead, .dead, .dead, .dead, .dead, .dead, .dead, .dead, .dead, .dead, .dead, .dead, .dead], []⟩) w go
def lp_spec_l5At (fu : Nat) : Lp RT den (Int) := fun b s k => match b with | 0 => handle ps_spec_l5At_0 os_spec_l5At_0 conv_spec_l5At_0 (Bk_spec_l5At_0 fu) fu s k | _ => none
theorem ev_spec_l5At (fu : Nat) (c_0 : S_impl_Config) (name_1 : Int) : evFun E (pc_spec_l5At fu) msk_spec_l5At (lp_spec_l5At fu) out_i64 103 [(.rptr [(.int .i64 c_0.Version), (.rs c_0.Backends.z .impl_Backend c_0.Backends.n c_0.Backends.f), (.rs c_0.Vips.z .impl_Vip c_0.Vips.n c_0.Vips.f)]), (.int .i64 name_1)] = F_spec_l5At fu c_0 name_1 := by kernel_rfl
noncomputable def body_spec_l5At : Code := Try.f103.body.getD .skip
noncomputable def lc_spec_l5At_0 : Code := ((loops 0 body_spec_l5At).getD 0 (0, .skip)).2
theorem round_spec_l5At_0 (fu : Nat) (it : St RT den → Option (Int)) (k : Ex → St RT den → Option (Int)) c w : evCode E (pc_spec_l5At fu) msk_spec_l5At (lp_spec_l5At fu) 0 lc_spec_l5At_0 (back_spec_l5At_0 c w) (after (msk_spec_l5At 0) (msk_spec_l5At 100000) 0 it k) = Bk_spec_l5At_0 fu c k w (fun w => it (back_spec_l5At_0 c w)) := by kernel_rfl
theorem lpok_spec_l5At_0 (fu : Nat) : ∀ s k r, lp_spec_l5At fu 0 s k = some r → ∃ fuel, iter (msk_spec_l5At 0) (msk_spec_l5At 100000) s.objs.length (evCode E (pc_spec_l5At fu) msk_spec_l5At (lp_spec_l5At fu) 0 lc_spec_l5At_0) fuel s k = some r :=
  handle_ok (ps := ps_spec_l5At_0) (os := os_spec_l5At_0) (conv := conv_spec_l5At_0) (B := Bk_spec_l5At_0 fu) (fu := fu) back_spec_l5At_0 (fun raw => by kernel_rfl) 0 (fun c w => by kernel_rfl) (round_spec_l5At_0 fu)
theorem lpok_spec_l5At (fu : Nat) : LpOk E (pc_spec_l5At fu) msk_spec_l5At (lp_spec_l5At fu) (loops 0 body_spec_l5At) := loop_all 1 (by kernel_rfl) fun i hi => match i, hi with
  | 0, _ => by
    have h : (loops 0 body_spec_l5At).getD 0 (0, .skip) = (0, lc_spec_l5At_0) := by kernel_rfl
    rw [h]; exact lpok_spec_l5At_0 fu
  | i + 1, hi => absurd hi (by omega)
def S_spec_l5At (fu : Nat) (xs : List (D RT den)) : Option (Out RT den) := match xs with | [.rptr [.int .i64 a0_1, .rs za0_2 .impl_Backend na0_2 fa0_2, .rs za0_3 .impl_Vip na0_3 fa0_3], .int .i64 a1_0] => some ⟨Int, F_spec_l5At fu (⟨a0_1, (⟨za0_2, na0_2, fa0_2⟩ : (Sl S_impl_Backend)), (⟨za0_3, na0_3, fa0_3⟩ : (Sl S_impl_Vip))⟩ : S_impl_Config) a1_0, enc_i64, fun _ => true⟩ | _ => none
theorem hpc_spec_l5At (fu : Nat) : ∀ f xs o, pc_spec_l5At fu f xs = some o → ∀ y, o.x = some y → Good E Try.prog f xs (o.g y) := by
  intro f xs o h
  cases h
theorem goodv_spec_l5At (fu : Nat) (c_0 : S_impl_Config) (name_1 : Int) (y : Int) (hy : F_spec_l5At fu c_0 name_1 = some y) : Good E Try.prog 103 [(.rptr [(.int .i64 c_0.Version), (.rs c_0.Backends.z .impl_Backend c_0.Backends.n c_0.Backends.f), (.rs c_0.Vips.z .impl_Vip c_0.Vips.n c_0.Vips.f)]), (.int .i64 name_1)] (enc_i64 y) :=
  fun_good E_ok (pc_good (hpc_spec_l5At fu)) (fn := Try.f103) (c := body_spec_l5At) (out := out_i64) (y := y) (by kernel_rfl) (by kernel_rfl) (by kernel_rfl) (lpok_spec_l5At fu) (fun d hd => out_i64_enc d _ hd) ((ev_spec_l5At fu c_0 name_1).trans hy)
theorem good_spec_l5At (fu : Nat) : ∀ xs o, S_spec_l5At fu xs = some o → ∀ y, o.x = some y → Good E Try.prog 103 xs (o.g y) := by
  intro xs o h y hy
  unfold S_spec_l5At at h
  split at h
  · rename_i a0_1 za0_2 na0_2 fa0_2 za0_3 na0_3 fa0_3 a1_0
    cases h
    exact goodv_spec_l5At fu (⟨a0_1, (⟨za0_2, na0_2, fa0_2⟩ : (Sl S_impl_Backend)), (⟨za0_3, na0_3, fa0_3⟩ : (Sl S_impl_Vip))⟩ : S_impl_Config) a1_0 y hy
  · cases h

/-! spec.l5Vip -/
def F_spec_l5Vip_B0 {ρ : Type} (fu : Nat) (c0_0 : Int) (c0_1 : (Sl S_impl_Backend)) (c0_2 : (Sl S_impl_Vip)) (o0_4 : Int) (o0_5 : Int) (o0_6 : Int) (o0_7 : (Sl Int)) (k0 : Option ρ) (k1 : Option ρ) (i6_3 : Int) (go : Int → Option ρ) : Option ρ :=
  (bif (decide (i6_3 < ((o0_7.n : Nat) : Int))) then ((bif (decide (0 ≤ i6_3) && decide ((Int.toNat i6_3) < o0_7.n)) then some () else none : Option Unit).bind fun _ =>
    ((F_spec_l5At fu (⟨c0_0, c0_1, c0_2⟩ : S_impl_Config) (o0_7.f (Int.toNat i6_3))).bind fun y205 => (bif (decide (y205 < 0)) then k0 else (go (IntKind.wrap .i64 (i6_3 + 1)))))) else
    k1)
def F_spec_l5Vip_B2 {ρ : Type} (fu : Nat) (o0_1 : Int) (o0_2 : Int) (o0_3 : Int) (o0_4 : (Sl Int)) (k0 : Option ρ) (k1 : Option ρ) (i7_0 : Int) (go : Int → Option ρ) : Option ρ :=
  (bif (decide (i7_0 < ((o0_4.n : Nat) : Int))) then ((bif (decide (0 ≤ i7_0) && decide ((Int.toNat i7_0) < o0_4.n)) then some () else none : Option Unit).bind fun _ => ((bif (decide (0 ≤ (IntKind.wrap .i64 (i7_0 - 1))) &&
    decide ((Int.toNat (IntKind.wrap .i64 (i7_0 - 1))) < o0_4.n)) then some () else none : Option Unit).bind fun _ => (bif (decide ((o0_4.f (Int.toNat i7_0)) ≤ (o0_4.f (Int.toNat (IntKind.wrap .i64 (i7_0 - 1)))))) then
    k0 else (go (IntKind.wrap .i64 (i7_0 + 1)))))) else k1)
def F_spec_l5Vip (fu : Nat) (c_0 : S_impl_Config) (at_1 : Int) : Option (Int) :=
  ((bif (decide (0 ≤ at_1) && decide ((Int.toNat at_1) < c_0.Vips.n)) then some () else none : Option Unit).bind fun _ => ((((F_spec_l2Address fu (c_0.Vips.f (Int.toNat at_1)).Address).bind fun y199 =>
    (bif (!y199) then (some true) else ((F_spec_l2Port fu (c_0.Vips.f (Int.toNat at_1)).Port).bind fun y200 => (bif (!y200) then (some true) else ((F_spec_l5Proto fu (c_0.Vips.f (Int.toNat at_1)).Proto).bind fun y201 =>
    (some (!y201))))))) : Option Bool).bind fun m202 => (bif m202 then (some 3) else (((bif (decide (at_1 > 0)) then ((bif (decide (0 ≤ (IntKind.wrap .i64 (at_1 - 1))) && decide ((Int.toNat (IntKind.wrap .i64 (at_1 - 1))) < c_0.Vips.n)) then
    some () else none : Option Unit).bind fun _ => ((F_spec_l5Behind fu (c_0.Vips.f (Int.toNat (IntKind.wrap .i64 (at_1 - 1)))) (c_0.Vips.f (Int.toNat at_1))).bind fun y203 => (some (!y203)))) else
    (some false)) : Option Bool).bind fun m204 => (bif m204 then (some 1) else (L (fun w0 go0 => F_spec_l5Vip_B0 fu c_0.Version c_0.Backends c_0.Vips ((c_0.Vips.f (Int.toNat at_1)).Address) ((c_0.Vips.f (Int.toNat at_1)).Port) ((c_0.Vips.f (Int.toNat at_1)).Proto) ((c_0.Vips.f (Int.toNat at_1)).Names) (some 4) (L (fun w2 go2 =>
    F_spec_l5Vip_B2 fu ((c_0.Vips.f (Int.toNat at_1)).Address) ((c_0.Vips.f (Int.toNat at_1)).Port) ((c_0.Vips.f (Int.toNat at_1)).Proto) ((c_0.Vips.f (Int.toNat at_1)).Names) (some 1) (some 0) w2 go2) fu (1 : Int)) w0 go0) fu (0 : Int)))))))
def pc_spec_l5Vip (fu : Nat) : Pc RT den := fun f xs => match f with | 99 => S_spec_l2Address fu xs | 100 => S_spec_l2Port fu xs | 101 => S_spec_l5Proto fu xs | 102 => S_spec_l5Behind fu xs | 103 => S_spec_l5At fu xs | _ => none
def msk_spec_l5Vip (b : Nat) : List Nat := match b with | 0 => [1, 2, 3, 4, 7, 8, 9, 10, 11, 12, 13, 14, 15, 16, 17, 18, 19, 20, 21, 22, 23, 24, 25, 26, 27, 28, 29, 30, 31, 32, 33, 34, 35, 36, 37, 38, 39, 40, 41, 42, 43, 44, 45, 46, 47, 48, 49, 50, 51, 52, 53, 54, 55, 56, 57, 58, 59, 60, 61, 62, 63, 64, 65, 66, 67, 68, 69, 70, 71, 72, 73, 74, 75, 76, 77, 78, 79] | 100000 => [0, 1, 2, 3, 6, 7, 8, 9, 10, 11, 12, 13, 14, 15, 16, 17, 18, 19, 20, 21, 22, 23, 24, 25, 26, 27, 28, 29, 30, 31, 32, 33, 34, 35, 36, 37, 38, 39, 40, 41, 42, 43, 44, 45, 46, 47, 48, 49, 50, 51, 52, 53, 54, 55, 56, 57, 58, 59, 60, 61, 62, 63, 64, 65, 66, 67, 68, 69, 70, 71, 72, 73, 74, 75, 76, 77, 78, 79] | 2 => [0, 1, 2, 3, 4, 6, 8, 9, 10, 11, 12, 13, 14, 15, 16, 17, 18, 19, 20, 21, 22, 23, 24, 25, 26, 27, 28, 29, 30, 31, 32, 33, 34, 35, 36, 37, 38, 39, 40, 41, 42, 43, 44, 45, 46, 47, 48, 49, 50, 51, 52, 53, 54, 55, 56, 57, 58, 59, 60, 61, 62, 63, 64, 65, 66, 67, 68, 69, 70, 71, 72, 73, 74, 75, 76, 77, 78, 79] | 100002 => [0, 1, 2, 3, 5, 6, 7, 8, 9, 10, 11, 12, 13, 14, 15, 16, 17, 18, 19, 20, 21, 22, 23, 24, 25, 26, 27, 28, 29, 30, 31, 32, 33, 34, 35, 36, 37, 38, 39, 40, 41, 42, 43, 44, 45, 46, 47, 48, 49, 50, 51, 52, 53, 54, 55, 56, 57, 58, 59, 60, 61, 62, 63, 64, 65, 66, 67, 68, 69, 70, 71, 72, 73, 74, 75, 76, 77, 78, 79] | 200002 => [30] | 200004 => [45] | _ => []
def ps_spec_l5Vip_0 : List (Pat RT) := [.rptr [(.int .i64), (.rs .impl_Backend), (.rs .impl_Vip)], .flat .dead, .flat .dead, .flat .dead, .flat .dead, .flat (.ref 0 0), .flat (.int .i64), .flat .dead, .flat .dead, .flat .dead, .flat .dead, .flat .dead, .flat .dead, .flat .dead, .flat .dead, .flat .dead, .flat .dead, .flat .dead, .flat .dead, .flat .dead, .flat .dead, .flat .dead, .flat .dead, .flat .dead, .flat .dead, .flat .dead, .flat .dead, .flat .dead, .flat .dead, .flat .dead, .flat .dead, .flat .dead, .flat .dead, .flat .dead, .flat .dead, .flat .dead, .flat .dead, .flat .dead, .flat .dead, .flat .dead, .flat .dead, .flat .dead, .flat .dead, .flat .dead, .flat .dead, .flat .dead, .flat .dead, .flat .dead, .flat .dead, .flat .dead, .flat .dead, .flat .dead, .flat .dead, .flat .dead, .flat .dead, .flat .dead, .flat .dead, .flat .dead, .flat .dead, .flat .dead, .flat .dead, .flat .dead, .flat .dead, .flat .dead, .flat .dead, .flat .dead, .flat .dead, .flat .dead, .flat .dead, .flat .dead, .flat .dead, .flat .dead, .flat .dead, .flat .dead, .flat .dead, .flat .dead, .flat .dead, .flat .dead, .flat .dead, .flat .dead]
def os_spec_l5Vip_0 : List (OP RT) := [.box [(.int .i64), (.int .i64), (.int .i64), (.rs .i64)]]
def conv_spec_l5Vip_0 (r : Raw den ps_spec_l5Vip_0 os_spec_l5Vip_0) : (Int × (Sl S_impl_Backend) × (Sl S_impl_Vip) × Int × Int × Int × (Sl Int)) × (Int) := ((r.1.1.1, r.1.1.2.1, r.1.1.2.2.1, r.2.1.1, r.2.1.2.1, r.2.1.2.2.1, r.2.1.2.2.2.1), r.1.2.2.2.2.2.2.1)
def back_spec_l5Vip_0 (c : Int × (Sl S_impl_Backend) × (Sl S_impl_Vip) × Int × Int × Int × (Sl Int)) (w : Int) : St RT den := ⟨[(.rptr [(.int .i64 c.1), (.rs c.2.1.z .impl_Backend c.2.1.n c.2.1.f), (.rs c.2.2.1.z .impl_Vip c.2.2.1.n c.2.2.1.f)]), .dead, .dead, .dead, .dead, (.ref 0 0), (.int .i64 w), .dead, .dead, .dead, .dead, .dead, .dead, .dead, .dead, .dead, .dead, .dead, .dead, .dead, .dead, .dead, .dead, .dead, .dead, .dead, .dead, .dead, .dead, .dead, .dead, .dead, .dead, .dead, .dead, .dead, .dead, .dead, .dead, .dead, .dead, .dead, .dead, .dead, .dead, .dead, .dead, .dead, .dead, .dead, .dead, .dead, .dead, .dead, .dead, .dead, .dead, .dead, .dead, .dead, .dead, .dead, .dead, .dead, .dead, .dead, .dead, .dead, .dead, .dead, .dead, .dead, .dead, .dead, .dead, .dead, .dead, .dead, .dead, .dead], [(.box [(.int .i64 c.2.2.2.1), (.int .i64 c.2.2.2.2.1), (.int .i64 c.2.2.2.2.2.1), (.rs c.2.2.2.2.2.2.z .i64 c.2.2.2.2.2.2.n c.2.2.2.2.2.2.f)])]⟩
def Bk_spec_l5Vip_0 {ρ : Type} (fu : Nat) (c : Int × (Sl S_impl_Backend) × (Sl S_impl_Vip) × Int × Int × Int × (Sl Int)) (k : Ex → St RT den → Option ρ) (w : Int) (go : (Int) → Option ρ) : Option ρ := F_spec_l5Vip_B0 fu c.1 c.2.1 c.2.2.1 c.2.2.2.1 c.2.2.2.2.1 c.2.2.2.2.2.1 c.2.2.2.2.2.2 (k .ret ⟨[.dead, .dead, .dead, .dead, (.int .i64 4), (.ref 0 0), .dead, .dead, .dead, .dead, .dead, .dead, .dead, .dead, .dead, .dead, .dead, .dead, .dead, .dead, .dead, .dead, .dead, .dead, .dead, .dead, .dead, .dead, .dead, .dead, .dead, .dead, .dead, .dead, .dead, .dead, .dead, .dead, .dead, .dead, .dead, .dead, .dead, .dead, .dead, .dead, .dead, .dead, .dead, .dead, .dead, .dead, .dead, .dead, .dead, .dead, .dead, .dead, .dead, .dead, .dead, .dead, .dead, .dead, .dead, .dead, .dead, .dead, .dead, .dead, .dead, .dead, .dead, .dead, .dead, .dead, .dead, .dead, .dead, .dead], [(.box [(.int .i64 c.2.2.2.1), (.int .i64 c.2.2.2.2.1), (.int .i64 c.2.2.2.2.2.1), (.rs c.2.2.2.2.2.2.z .i64 c.2.2.2.2.2.2.n c.2.2.2.2.2.2.f)])]⟩) (k (.exit 0) ⟨[.dead, .dead, .dead, .dead, .dead, (.ref 0 0), .dead, .dead, .dead, .dead, .dead, .dead, .dead, .dead, .dead, .dead, .dead, .dead, .dead, .dead, .dead, .dead, .dead, .dead, .dead, .dead, .dead, .dead, .dead, .dead, .dead, .dead, .dead, .dead, .dead, .dead, .dead, .dead, .dead, .dead, .dead, .dead, .dead, .dead, .dead, .dead, .dead, .dead, .dead, .dead, .dead, .dead, .dead, .dead, .dead, .dead, .dead, .dead, .dead, .dead, .dead, .dead, .dead, .dead, .dead, .dead, .dead, .dead, .dead, .dead, .dead, .dead, .dead, .dead, .dead, .dead, .dead, .dead, .dead, .dead], [(.box [(.int .i64 c.2.2.2.1), (.int .i64 c.2.2.2.2.1), (.int .i64 c.2.2.2.2.2.1), (.rs c.2.2.2.2.2.2.z .i64 c.2.2.2.2.2.2.n c.2.2.2.2.2.2.f)])]⟩) w go
def ps_spec_l5Vip_2 : List (Pat RT) := [.flat .dead, .flat .dead, .flat .dead, .flat .dead, .flat .dead, .flat (.ref 0 0), .flat .dead, .flat (.int .i64), .flat .dead, .flat .dead, .flat .dead, .flat .dead, .flat .dead, .flat .dead, .flat .dead, .flat .dead, .flat .dead, .flat .dead, .flat .dead, .flat .dead, .flat .dead, .flat .dead, .flat .dead, .flat .dead, .flat .dead, .flat .dead, .flat .dead, .flat .dead, .flat .dead, .flat .dead, .flat .dead, .flat .dead, .flat .dead, .flat .dead, .flat .dead, .flat .dead, .flat .dead, .flat .dead, .flat .dead, .flat .dead, .flat .dead, .flat .dead, .flat .dead, .flat .dead, .flat .dead, .flat .dead, .flat .dead, .flat .dead, .flat .dead, .flat .dead, .flat .dead, .flat .dead, .flat .dead, .flat .dead, .flat .dead, .flat .dead, .flat .dead, .flat .dead, .flat .dead, .flat .dead, .flat .dead, .flat .dead, .flat .dead, .flat .dead, .flat .dead, .flat .dead, .flat .dead, .flat .dead, .flat .dead, .flat .dead, .flat .dead, .flat .dead, .flat .dead, .flat .dead, .flat .dead, .flat .dead, .flat .dead, .flat .dead, .flat .dead, .flat .dead]
def os_spec_l5Vip_2 : List (OP RT) := [.box [(.int .i64), (.int .i64), (.int .i64), (.rs .i64)]]
def conv_spec_l5Vip_2 (r : Raw den ps_spec_l5Vip_2 os_spec_l5Vip_2) : (Int × Int × Int × (Sl Int)) × (Int) := ((r.2.1.1, r.2.1.2.1, r.2.1.2.2.1, r.2.1.2.2.2.1), r.1.2.2.2.2.2.2.2.1)
def back_spec_l5Vip_2 (c : Int × Int × Int × (Sl Int)) (w : Int) : St RT den := ⟨[.dead, .dead, .dead, .dead, .dead, (.ref 0 0), .dead, (.int .i64 w), .dead, .dead, .dead, .dead, .dead, .dead, .dead, .dead, .dead, .dead, .dead, .dead, .dead, .dead, .dead, .dead, .dead, .dead, .dead, .dead, .dead, .dead, .dead, .dead, .dead, .dead, .dead, .dead, .dead, .dead, .dead, .dead, .dead, .dead, .dead, .dead, .dead, .dead, .dead, .dead, .dead, .dead, .dead, .dead, .dead, .dead, .dead, .dead, .dead, .dead, .dead, .dead, .dead, .dead, .dead, .dead, .dead, .dead, .dead, .dead, .dead, .dead, .dead, .dead, .dead, .dead, .dead, .dead, .dead, .dead, .dead, .dead], [(.box [(.int .i64 c.1), (.int .i64 c.2.1), (.int .i64 c.2.2.1), (.rs c.2.2.2.z .i64 c.2.2.2.n c.2.2.2.f)])]⟩
def Bk_spec_l5Vip_2 {ρ : Type} (fu : Nat) (c : Int × Int × Int × (Sl Int)) (k : Ex → St RT den → Option ρ) (w : Int) (go : (Int) → Option ρ) : Option ρ := F_spec_l5Vip_B2 fu c.1 c.2.1 c.2.2.1 c.2.2.2 (k .ret ⟨[.dead, .dead, .dead, .dead, (.int .i64 1), .dead, .dead, .dead, .dead, .dead, .dead, .dead, .dead, .dead, .dead, .dead, .dead, .dead, .dead, .dead, .dead, .dead, .dead, .dead, .dead, .dead, .dead, .dead, .dead, .dead, .dead, .dead, .dead, .dead, .dead, .dead, .dead, .dead, .dead, .dead, .dead, .dead, .dead, .dead, .dead, .dead, .dead, .dead, .dead, .dead, .dead, .dead, .dead, .dead, .dead, .dead, .dead, .dead, .dead, .dead, .dead, .dead, .dead, .dead, .dead, .dead, .dead, .dead, .dead, .dead, .dead, .dead, .dead, .dead, .dead, .dead, .dead, .dead, .dead, .dead], [(.box [(.int .i64 c.1), (.int .i64 c.2.1), (.int .i64 c.2.2.1), (.rs c.2.2.2.z .i64 c.2.2.2.n c.2.2.2.f)])]⟩) (k (.exit 2) ⟨[.dead, .dead, .dead, .dead, .dead, .dead, .dead, .dead, .dead, .dead, .dead, .dead, .dead, .dead, .dead, .dead, .dead, .dead, .dead, .dead, .dead, .dead, .dead, .dead, .dead, .dead, .dead, .dead, .dead, .dead, .dead, .dead, .dead, .dead, .dead, .dead, .dead, .dead, .dead, .dead, .dead, .dead, .dead, .dead, .dead, .dead, .dead, .dead, .dead, .dead, .dead, .dead, .dead, .dead, .dead, .dead, .dead, .dead, .dead, .dead, .dead, .dead, .dead, .dead, .dead, .dead, .dead, .dead, .dead, .dead, .dead, .dead, .dead, .dead, .dead, .dead, .dead, .dead, .dead, .dead], [(.box [(.int .i64 c.1), (.int .i64 c.2.1), (.int .i64 c.2.2.1), (.rs c.2.2.2.z .i64 c.2.2.2.n c.2.2.2.f)])]⟩) w go
def lp_spec_l5Vip (fu : Nat) : Lp RT den (Int) := fun b s k => match b with | 0 => handle ps_spec_l5Vip_0 os_spec_l5Vip_0 conv_spec_l5Vip_0 (Bk_spec_l5Vip_0 fu) fu s k | 2 => handle ps_spec_l5Vip_2 os_spec_l5Vip_2 conv_spec_l5Vip_2 (Bk_spec_l5Vip_2 fu) fu s k | _ => none
theorem ev_spec_l5Vip (fu : Nat) (c_0 : S_impl_Config) (at_1 : Int) : evFun E (pc_spec_l5Vip fu) msk_spec_l5Vip (lp_spec_l5Vip fu) out_i64 84 [(.rptr [(.int .i64 c_0.Version), (.rs c_0.Backends.z .impl_Backend c_0.Backends.n c_0.Backends.f), (.rs c_0.Vips.z .impl_Vip c_0.Vips.n c_0.Vips.f)]), (.int .i64 at_1)] = F_spec_l5Vip fu c_0 at_1 := by kernel_rfl
noncomputable def body_spec_l5Vip : Code := Try.f84.body.getD .skip
noncomputable def lc_spec_l5Vip_0 : Code := ((loops 0 body_spec_l5Vip).getD 0 (0, .skip)).2
theorem round_spec_l5Vip_0 (fu : Nat) (it : St RT den → Option (Int)) (k : Ex → St RT den → Option (Int)) c w : evCode E (pc_spec_l5Vip fu) msk_spec_l5Vip (lp_spec_l5Vip fu) 0 lc_spec_l5Vip_0 (back_spec_l5Vip_0 c w) (after (msk_spec_l5Vip 0) (msk_spec_l5Vip 100000) 1 it k) = Bk_spec_l5Vip_0 fu c k w (fun w => it (back_spec_l5Vip_0 c w)) := by kernel_rfl
theorem lpok_spec_l5Vip_0 (fu : Nat) : ∀ s k r, lp_spec_l5Vip fu 0 s k = some r → ∃ fuel, iter (msk_spec_l5Vip 0) (msk_spec_l5Vip 100000) s.objs.length (evCode E (pc_spec_l5Vip fu) msk_spec_l5Vip (lp_spec_l5Vip fu) 0 lc_spec_l5Vip_0) fuel s k = some r :=
  handle_ok (ps := ps_spec_l5Vip_0) (os := os_spec_l5Vip_0) (conv := conv_spec_l5Vip_0) (B := Bk_spec_l5Vip_0 fu) (fu := fu) back_spec_l5Vip_0 (fun raw => by kernel_rfl) 1 (fun c w => by kernel_rfl) (round_spec_l5Vip_0 fu)
noncomputable def lc_spec_l5Vip_2 : Code := ((loops 0 body_spec_l5Vip).getD 1 (0, .skip)).2
theorem round_spec_l5Vip_2 (fu : Nat) (it : St RT den → Option (Int)) (k : Ex → St RT den → Option (Int)) c w : evCode E (pc_spec_l5Vip fu) msk_spec_l5Vip (lp_spec_l5Vip fu) 2 lc_spec_l5Vip_2 (back_spec_l5Vip_2 c w) (after (msk_spec_l5Vip 2) (msk_spec_l5Vip 100002) 1 it k) = Bk_spec_l5Vip_2 fu c k w (fun w => it (back_spec_l5Vip_2 c w)) := by kernel_rfl
theorem lpok_spec_l5Vip_2 (fu : Nat) : ∀ s k r, lp_spec_l5Vip fu 2 s k = some r → ∃ fuel, iter (msk_spec_l5Vip 2) (msk_spec_l5Vip 100002) s.objs.length (evCode E (pc_spec_l5Vip fu) msk_spec_l5Vip (lp_spec_l5Vip fu) 2 lc_spec_l5Vip_2) fuel s k = some r :=
  handle_ok (ps := ps_spec_l5Vip_2) (os := os_spec_l5Vip_2) (conv := conv_spec_l5Vip_2) (B := Bk_spec_l5Vip_2 fu) (fu := fu) back_spec_l5Vip_2 (fun raw => by kernel_rfl) 1 (fun c w => by kernel_rfl) (round_spec_l5Vip_2 fu)
theorem lpok_spec_l5Vip (fu : Nat) : LpOk E (pc_spec_l5Vip fu) msk_spec_l5Vip (lp_spec_l5Vip fu) (loops 0 body_spec_l5Vip) := loop_all 2 (by kernel_rfl) fun i hi => match i, hi with
  | 0, _ => by
    have h : (loops 0 body_spec_l5Vip).getD 0 (0, .skip) = (0, lc_spec_l5Vip_0) := by kernel_rfl
    rw [h]; exact lpok_spec_l5Vip_0 fu
  | 1, _ => by
    have h : (loops 0 body_spec_l5Vip).getD 1 (0, .skip) = (2, lc_spec_l5Vip_2) := by kernel_rfl
    rw [h]; exact lpok_spec_l5Vip_2 fu
  | i + 2, hi => absurd hi (by omega)
def S_spec_l5Vip (fu : Nat) (xs : List (D RT den)) : Option (Out RT den) := match xs with | [.rptr [.int .i64 a0_1, .rs za0_2 .impl_Backend na0_2 fa0_2, .rs za0_3 .impl_Vip na0_3 fa0_3], .int .i64 a1_0] => some ⟨Int, F_spec_l5Vip fu (⟨a0_1, (⟨za0_2, na0_2, fa0_2⟩ : (Sl S_impl_Backend)), (⟨za0_3, na0_3, fa0_3⟩ : (Sl S_impl_Vip))⟩ : S_impl_Config) a1_0, enc_i64, fun _ => true⟩ | _ => none
theorem hpc_spec_l5Vip (fu : Nat) : ∀ f xs o, pc_spec_l5Vip fu f xs = some o → ∀ y, o.x = some y → Good E Try.prog f xs (o.g y) := by
  intro f xs o h
  unfold pc_spec_l5Vip at h
  split at h
  · exact good_spec_l2Address fu xs o h
  · exact good_spec_l2Port fu xs o h
  · exact good_spec_l5Proto fu xs o h
  · exact good_spec_l5Behind fu xs o h
  · exact good_spec_l5At fu xs o h
  · cases h
theorem goodv_spec_l5Vip (fu : Nat) (c_0 : S_impl_Config) (at_1 : Int) (y : Int) (hy : F_spec_l5Vip fu c_0 at_1 = some y) : Good E Try.prog 84 [(.rptr [(.int .i64 c_0.Version), (.rs c_0.Backends.z .impl_Backend c_0.Backends.n c_0.Backends.f), (.rs c_0.Vips.z .impl_Vip c_0.Vips.n c_0.Vips.f)]), (.int .i64 at_1)] (enc_i64 y) :=
  fun_good E_ok (pc_good (hpc_spec_l5Vip fu)) (fn := Try.f84) (c := body_spec_l5Vip) (out := out_i64) (y := y) (by kernel_rfl) (by kernel_rfl) (by kernel_rfl) (lpok_spec_l5Vip fu) (fun d hd => out_i64_enc d _ hd) ((ev_spec_l5Vip fu c_0 at_1).trans hy)
theorem good_spec_l5Vip (fu : Nat) : ∀ xs o, S_spec_l5Vip fu xs = some o → ∀ y, o.x = some y → Good E Try.prog 84 xs (o.g y) := by
  intro xs o h y hy
  unfold S_spec_l5Vip at h
  split at h
  · rename_i a0_1 za0_2 na0_2 fa0_2 za0_3 na0_3 fa0_3 a1_0
    cases h
    exact goodv_spec_l5Vip fu (⟨a0_1, (⟨za0_2, na0_2, fa0_2⟩ : (Sl S_impl_Backend)), (⟨za0_3, na0_3, fa0_3⟩ : (Sl S_impl_Vip))⟩ : S_impl_Config) a1_0 y hy
  · cases h

/-! spec.l5Fault -/
def F_spec_l5Fault_B0 {ρ : Type} (fu : Nat) (c0_0 : Int) (c0_1 : (Sl S_impl_Backend)) (c0_2 : (Sl S_impl_Vip)) (k0 : Option ρ) (k1 : Option ρ) (k2 : Option ρ) (i3_3 : Int) (go : Int → Option ρ) : Option ρ :=
  (bif (decide (i3_3 < ((c0_1.n : Nat) : Int))) then ((bif (decide (0 ≤ i3_3) && decide ((Int.toNat i3_3) < c0_1.n)) then some () else none : Option Unit).bind fun _ =>
    ((F_spec_l5Backend fu (c0_1.f (Int.toNat i3_3))).bind fun y188 => (bif (!y188) then k0 else (((bif (decide (i3_3 > 0)) then ((bif (decide (0 ≤ i3_3) && decide ((Int.toNat i3_3) < c0_1.n)) then
    some () else none : Option Unit).bind fun _ => ((bif (decide (0 ≤ (IntKind.wrap .i64 (i3_3 - 1))) && decide ((Int.toNat (IntKind.wrap .i64 (i3_3 - 1))) < c0_1.n)) then some () else
    none : Option Unit).bind fun _ => (some (decide ((c0_1.f (Int.toNat i3_3)).Name ≤ (c0_1.f (Int.toNat (IntKind.wrap .i64 (i3_3 - 1)))).Name))))) else (some false)) : Option Bool).bind fun m189 =>
    (bif m189 then k1 else (go (IntKind.wrap .i64 (i3_3 + 1)))))))) else k2)
def F_spec_l5Fault_B2 {ρ : Type} (fu : Nat) (c0_0 : Int) (c0_1 : (Sl S_impl_Backend)) (c0_2 : (Sl S_impl_Vip)) (k0 : Int → Option ρ) (k1 : Option ρ) (i4_3 : Int) (go : Int → Option ρ) : Option ρ :=
  (bif (decide (i4_3 < ((c0_2.n : Nat) : Int))) then ((F_spec_l5Vip fu (⟨c0_0, c0_1, c0_2⟩ : S_impl_Config) i4_3).bind fun y190 => (bif (y190 != 0) then (k0 y190) else (go (IntKind.wrap .i64 (i4_3 + 1))))) else
    k1)
def F_spec_l5Fault (fu : Nat) (c_0 : S_impl_Config) : Option (Int) :=
  ((F_spec_l5Version fu c_0.Version).bind fun y186 => (bif (!y186) then (some 3) else (((bif (decide (((c_0.Backends.n : Nat) : Int) > 8)) then (some true) else (some (decide (((c_0.Vips.n : Nat) : Int) > 4)))) : Option Bool).bind fun m187 =>
    (bif m187 then (some 2) else (L (fun w0 go0 => F_spec_l5Fault_B0 fu c_0.Version c_0.Backends c_0.Vips (some 3) (some 1) (L (fun w2 go2 => F_spec_l5Fault_B2 fu c_0.Version c_0.Backends c_0.Vips (fun z191 =>
    (some z191)) (some 0) w2 go2) fu (0 : Int)) w0 go0) fu (0 : Int))))))
def pc_spec_l5Fault (fu : Nat) : Pc RT den := fun f xs => match f with | 82 => S_spec_l5Version fu xs | 83 => S_spec_l5Backend fu xs | 84 => S_spec_l5Vip fu xs | _ => none
def msk_spec_l5Fault (b : Nat) : List Nat := match b with | 0 => [1, 2, 4, 5, 6, 7, 8, 9, 10, 11, 12, 13, 14, 15, 16, 17, 18, 19, 20, 21, 22, 23, 24, 25, 26, 27, 28, 29, 30, 31, 32, 33, 34, 35, 36, 37, 38, 39, 40, 41, 42, 43, 44, 45, 46, 47, 48, 49, 50, 51, 52, 53, 54, 55, 56, 57, 58, 59, 60, 61, 62, 63, 64, 65, 66, 67, 68, 69, 70, 71, 72, 73, 74, 75, 76, 77, 78, 79, 80] | 100000 => [1, 3, 4, 5, 6, 7, 8, 9, 10, 11, 12, 13, 14, 15, 16, 17, 18, 19, 20, 21, 22, 23, 24, 25, 26, 27, 28, 29, 30, 31, 32, 33, 34, 35, 36, 37, 38, 39, 40, 41, 42, 43, 44, 45, 46, 47, 48, 49, 50, 51, 52, 53, 54, 55, 56, 57, 58, 59, 60, 61, 62, 63, 64, 65, 66, 67, 68, 69, 70, 71, 72, 73, 74, 75, 76, 77, 78, 79, 80] | 2 => [1, 2, 3, 5, 6, 7, 8, 9, 10, 11, 12, 13, 14, 15, 16, 17, 18, 19, 20, 21, 22, 23, 24, 25, 26, 27, 28, 29, 30, 31, 32, 33, 34, 35, 36, 37, 38, 39, 40, 41, 42, 43, 44, 45, 46, 47, 48, 49, 50, 51, 52, 53, 54, 55, 56, 57, 58, 59, 60, 61, 62, 63, 64, 65, 66, 67, 68, 69, 70, 71, 72, 73, 74, 75, 76, 77, 78, 79, 80] | 100002 => [0, 1, 3, 4, 5, 6, 7, 8, 9, 10, 11, 12, 13, 14, 15, 16, 17, 18, 19, 20, 21, 22, 23, 24, 25, 26, 27, 28, 29, 30, 31, 32, 33, 34, 35, 36, 37, 38, 39, 40, 41, 42, 43, 44, 45, 46, 47, 48, 49, 50, 51, 52, 53, 54, 55, 56, 57, 58, 59, 60, 61, 62, 63, 64, 65, 66, 67, 68, 69, 70, 71, 72, 73, 74, 75, 76, 77, 78, 79, 80] | 200003 => [25] | 200010 => [65] | _ => []
def ps_spec_l5Fault_0 : List (Pat RT) := [.rptr [(.int .i64), (.rs .impl_Backend), (.rs .impl_Vip)], .flat .dead, .flat .dead, .flat (.int .i64), .flat .dead, .flat .dead, .flat .dead, .flat .dead, .flat .dead, .flat .dead, .flat .dead, .flat .dead, .flat .dead, .flat .dead, .flat .dead, .flat .dead, .flat .dead, .flat .dead, .flat .dead, .flat .dead, .flat .dead, .flat .dead, .flat .dead, .flat .dead, .flat .dead, .flat .dead, .flat .dead, .flat .dead, .flat .dead, .flat .dead, .flat .dead, .flat .dead, .flat .dead, .flat .dead, .flat .dead, .flat .dead, .flat .dead, .flat .dead, .flat .dead, .flat .dead, .flat .dead, .flat .dead, .flat .dead, .flat .dead, .flat .dead, .flat .dead, .flat .dead, .flat .dead, .flat .dead, .flat .dead, .flat .dead, .flat .dead, .flat .dead, .flat .dead, .flat .dead, .flat .dead, .flat .dead, .flat .dead, .flat .dead, .flat .dead, .flat .dead, .flat .dead, .flat .dead, .flat .dead, .flat .dead, .flat .dead, .flat .dead, .flat .dead, .flat .dead, .flat .dead, .flat .dead, .flat .dead, .flat .dead, .flat .dead, .flat .dead, .flat .dead, .flat .dead, .flat .dead, .flat .dead, .flat .dead, .flat .dead]
def os_spec_l5Fault_0 : List (OP RT) := []
def conv_spec_l5Fault_0 (r : Raw den ps_spec_l5Fault_0 os_spec_l5Fault_0) : (Int × (Sl S_impl_Backend) × (Sl S_impl_Vip)) × (Int) := ((r.1.1.1, r.1.1.2.1, r.1.1.2.2.1), r.1.2.2.2.1)
def back_spec_l5Fault_0 (c : Int × (Sl S_impl_Backend) × (Sl S_impl_Vip)) (w : Int) : St RT den := ⟨[(.rptr [(.int .i64 c.1), (.rs c.2.1.z .impl_Backend c.2.1.n c.2.1.f), (.rs c.2.2.z .impl_Vip c.2.2.n c.2.2.f)]), .dead, .dead, (.int .i64 w), .dead, .dead, .dead, .dead, .dead, .dead, .dead, .dead, .dead, .dead, .dead, .dead, .dead, .dead, .dead, .dead, .dead, .dead, .dead, .dead, .dead, .dead, .dead, .dead, .dead, .dead, .dead, .dead, .dead, .dead, .dead, .dead, .dead, .dead, .dead, .dead, .dead, .dead, .dead, .dead, .dead, .dead, .dead, .dead, .dead, .dead, .dead, .dead, .dead, .dead, .dead, .dead, .dead, .dead, .dead, .dead, .dead, .dead, .dead, .dead, .dead, .dead, .dead, .dead, .dead, .dead, .dead, .dead, .dead, .dead, .dead, .dead, .dead, .dead, .dead, .dead, .dead], []⟩
def Bk_spec_l5Fault_0 {ρ : Type} (fu : Nat) (c : Int × (Sl S_impl_Backend) × (Sl S_impl_Vip)) (k : Ex → St RT den → Option ρ) (w : Int) (go : (Int) → Option ρ) : Option ρ := F_spec_l5Fault_B0 fu c.1 c.2.1 c.2.2 (k .ret ⟨[(.rptr [(.int .i64 c.1), (.rs c.2.1.z .impl_Backend c.2.1.n c.2.1.f), (.rs c.2.2.z .impl_Vip c.2.2.n c.2.2.f)]), .dead, (.int .i64 3), .dead, .dead, .dead, .dead, .dead, .dead, .dead, .dead, .dead, .dead, .dead, .dead, .dead, .dead, .dead, .dead, .dead, .dead, .dead, .dead, .dead, .dead, .dead, .dead, .dead, .dead, .dead, .dead, .dead, .dead, .dead, .dead, .dead, .dead, .dead, .dead, .dead, .dead, .dead, .dead, .dead, .dead, .dead, .dead, .dead, .dead, .dead, .dead, .dead, .dead, .dead, .dead, .dead, .dead, .dead, .dead, .dead, .dead, .dead, .dead, .dead, .dead, .dead, .dead, .dead, .dead, .dead, .dead, .dead, .dead, .dead, .dead, .dead, .dead, .dead, .dead, .dead, .dead], []⟩) (k .ret ⟨[(.rptr [(.int .i64 c.1), (.rs c.2.1.z .impl_Backend c.2.1.n c.2.1.f), (.rs c.2.2.z .impl_Vip c.2.2.n c.2.2.f)]), .dead, (.int .i64 1), .dead, .dead, .dead, .dead, .dead, .dead, .dead, .dead, .dead, .dead, .dead, .dead, .dead, .dead, .dead, .dead, .dead, .dead, .dead, .dead, .dead, .dead, .dead, .dead, .dead, .dead, .dead, .dead, .dead, .dead, .dead, .dead, .dead, .dead, .dead, .dead, .dead, .dead, .dead, .dead, .dead, .dead, .dead, .dead, .dead, .dead, .dead, .dead, .dead, .dead, .dead, .dead, .dead, .dead, .dead, .dead, .dead, .dead, .dead, .dead, .dead, .dead, .dead, .dead, .dead, .dead, .dead, .dead, .dead, .dead, .dead, .dead, .dead, .dead, .dead, .dead, .dead, .dead], []⟩) (k (.exit 0) ⟨[(.rptr [(.int .i64 c.1), (.rs c.2.1.z .impl_Backend c.2.1.n c.2.1.f), (.rs c.2.2.z .impl_Vip c.2.2.n c.2.2.f)]), .dead, .dead, .dead, .dead, .dead, .dead, .dead, .dead, .dead, .dead, .dead, .dead, .dead, .dead, .dead, .dead, .dead, .dead, .dead, .dead, .dead, .dead, .dead, .dead, .dead, .dead, .dead, .dead, .dead, .dead, .dead, .dead, .dead, .dead, .dead, .dead, .dead, .dead, .dead, .dead, .dead, .dead, .dead, .dead, .dead, .dead, .dead, .dead, .dead, .dead, .dead, .dead, .dead, .dead, .dead, .dead, .dead, .dead, .dead, .dead, .dead, .dead, .dead, .dead, .dead, .dead, .dead, .dead, .dead, .dead, .dead, .dead, .dead, .dead, .dead, .dead, .dead, .dead, .dead, .dead], []⟩) w go
def ps_spec_l5Fault_2 : List (Pat RT) := [.rptr [(.int .i64), (.rs .impl_Backend), (.rs .impl_Vip)], .flat .dead, .flat .dead, .flat .dead, .flat (.int .i64), .flat .dead, .flat .dead, .flat .dead, .flat .dead, .flat .dead, .flat .dead, .flat .dead, .flat .dead, .flat .dead, .flat .dead, .flat .dead, .flat .dead, .flat .dead, .flat .dead, .flat .dead, .flat .dead, .flat .dead, .flat .dead, .flat .dead, .flat .dead, .flat .dead, .flat .dead, .flat .dead, .flat .dead, .flat .dead, .flat .dead, .flat .dead, .flat .dead, .flat .dead, .flat .dead, .flat .dead, .flat .dead, .flat .dead, .flat .dead, .flat .dead, .flat .dead, .flat .dead, .flat .dead, .flat .dead, .flat .dead, .flat .dead, .flat .dead, .flat .dead, .flat .dead, .flat .dead, .flat .dead, .flat .dead, .flat .dead, .flat .dead, .flat .dead, .flat .dead, .flat .dead, .flat .dead, .flat .dead, .flat .dead, .flat .dead, .flat .dead, .flat .dead, .flat .dead, .flat .dead, .flat .dead, .flat .dead, .flat .dead, .flat .dead, .flat .dead, .flat .dead, .flat .dead, .flat .dead, .flat .dead, .flat .dead, .flat .dead, .flat .dead, .flat .dead, .flat .dead, .flat .dead, .flat .dead]
def os_spec_l5Fault_2 : List (OP RT) := []
def conv_spec_l5Fault_2 (r : Raw den ps_spec_l5Fault_2 os_spec_l5Fault_2) : (Int × (Sl S_impl_Backend) × (Sl S_impl_Vip)) × (Int) := ((r.1.1.1, r.1.1.2.1, r.1.1.2.2.1), r.1.2.2.2.2.1)
def back_spec_l5Fault_2 (c : Int × (Sl S_impl_Backend) × (Sl S_impl_Vip)) (w : Int) : St RT den := ⟨[(.rptr [(.int .i64 c.1), (.rs c.2.1.z .impl_Backend c.2.1.n c.2.1.f), (.rs c.2.2.z .impl_Vip c.2.2.n c.2.2.f)]), .dead, .dead, .dead, (.int .i64 w), .dead, .dead, .dead, .dead, .dead, .dead, .dead, .dead, .dead, .dead, .dead, .dead, .dead, .dead, .dead, .dead, .dead, .dead, .dead, .dead, .dead, .dead, .dead, .dead, .dead, .dead, .dead, .dead, .dead, .dead, .dead, .dead, .dead, .dead, .dead, .dead, .dead, .dead, .dead, .dead, .dead, .dead, .dead, .dead, .dead, .dead, .dead, .dead, .dead, .dead, .dead, .dead, .dead, .dead, .dead, .dead, .dead, .dead, .dead, .dead, .dead, .dead, .dead, .dead, .dead, .dead, .dead, .dead, .dead, .dead, .dead, .dead, .dead, .dead, .dead, .dead], []⟩
def Bk_spec_l5Fault_2 {ρ : Type} (fu : Nat) (c : Int × (Sl S_impl_Backend) × (Sl S_impl_Vip)) (k : Ex → St RT den → Option ρ) (w : Int) (go : (Int) → Option ρ) : Option ρ := F_spec_l5Fault_B2 fu c.1 c.2.1 c.2.2 (fun a0 => k .ret ⟨[.dead, .dead, (.int .i64 a0), .dead, .dead, .dead, .dead, .dead, .dead, .dead, .dead, .dead, .dead, .dead, .dead, .dead, .dead, .dead, .dead, .dead, .dead, .dead, .dead, .dead, .dead, .dead, .dead, .dead, .dead, .dead, .dead, .dead, .dead, .dead, .dead, .dead, .dead, .dead, .dead, .dead, .dead, .dead, .dead, .dead, .dead, .dead, .dead, .dead, .dead, .dead, .dead, .dead, .dead, .dead, .dead, .dead, .dead, .dead, .dead, .dead, .dead, .dead, .dead, .dead, .dead, .dead, .dead, .dead, .dead, .dead, .dead, .dead, .dead, .dead, .dead, .dead, .dead, .dead, .dead, .dead, .dead], []⟩) (k (.exit 2) ⟨[.dead, .dead, .dead, .dead, .dead, .dead, .dead, .dead, .dead, .dead, .dead, .dead, .dead, .dead, .dead, .dead, .dead, .dead, .dead, .dead, .dead, .dead, .dead, .dead, .dead, .dead, .dead, .dead, .dead, .dead, .dead, .dead, .dead, .dead, .dead, .dead, .dead, .dead, .dead, .dead, .dead, .dead, .dead, .dead, .dead, .dead, .dead, .dead, .dead, .dead, .dead, .dead, .dead, .dead, .dead, .dead, .dead, .dead, .dead, .dead, .dead, .dead, .dead, .dead, .dead, .dead, .dead, .dead, .dead, .dead, .dead, .dead, .dead, .dead, .dead, .dead, .dead, .dead, .dead, .dead, .dead], []⟩) w go
def lp_spec_l5Fault (fu : Nat) : Lp RT den (Int) := fun b s k => match b with | 0 => handle ps_spec_l5Fault_0 os_spec_l5Fault_0 conv_spec_l5Fault_0 (Bk_spec_l5Fault_0 fu) fu s k | 2 => handle ps_spec_l5Fault_2 os_spec_l5Fault_2 conv_spec_l5Fault_2 (Bk_spec_l5Fault_2 fu) fu s k | _ => none
theorem ev_spec_l5Fault (fu : Nat) (c_0 : S_impl_Config) : evFun E (pc_spec_l5Fault fu) msk_spec_l5Fault (lp_spec_l5Fault fu) out_i64 62 [(.rptr [(.int .i64 c_0.Version), (.rs c_0.Backends.z .impl_Backend c_0.Backends.n c_0.Backends.f), (.rs c_0.Vips.z .impl_Vip c_0.Vips.n c_0.Vips.f)])] = F_spec_l5Fault fu c_0 := by kernel_rfl
noncomputable def body_spec_l5Fault : Code := Try.f62.body.getD .skip
noncomputable def lc_spec_l5Fault_0 : Code := ((loops 0 body_spec_l5Fault).getD 0 (0, .skip)).2
theorem round_spec_l5Fault_0 (fu : Nat) (it : St RT den → Option (Int)) (k : Ex → St RT den → Option (Int)) c w : evCode E (pc_spec_l5Fault fu) msk_spec_l5Fault (lp_spec_l5Fault fu) 0 lc_spec_l5Fault_0 (back_spec_l5Fault_0 c w) (after (msk_spec_l5Fault 0) (msk_spec_l5Fault 100000) 0 it k) = Bk_spec_l5Fault_0 fu c k w (fun w => it (back_spec_l5Fault_0 c w)) := by kernel_rfl
theorem lpok_spec_l5Fault_0 (fu : Nat) : ∀ s k r, lp_spec_l5Fault fu 0 s k = some r → ∃ fuel, iter (msk_spec_l5Fault 0) (msk_spec_l5Fault 100000) s.objs.length (evCode E (pc_spec_l5Fault fu) msk_spec_l5Fault (lp_spec_l5Fault fu) 0 lc_spec_l5Fault_0) fuel s k = some r :=
  handle_ok (ps := ps_spec_l5Fault_0) (os := os_spec_l5Fault_0) (conv := conv_spec_l5Fault_0) (B := Bk_spec_l5Fault_0 fu) (fu := fu) back_spec_l5Fault_0 (fun raw => by kernel_rfl) 0 (fun c w => by kernel_rfl) (round_spec_l5Fault_0 fu)
noncomputable def lc_spec_l5Fault_2 : Code := ((loops 0 body_spec_l5Fault).getD 1 (0, .skip)).2
theorem round_spec_l5Fault_2 (fu : Nat) (it : St RT den → Option (Int)) (k : Ex → St RT den → Option (Int)) c w : evCode E (pc_spec_l5Fault fu) msk_spec_l5Fault (lp_spec_l5Fault fu) 2 lc_spec_l5Fault_2 (back_spec_l5Fault_2 c w) (after (msk_spec_l5Fault 2) (msk_spec_l5Fault 100002) 0 it k) = Bk_spec_l5Fault_2 fu c k w (fun w => it (back_spec_l5Fault_2 c w)) := by kernel_rfl
theorem lpok_spec_l5Fault_2 (fu : Nat) : ∀ s k r, lp_spec_l5Fault fu 2 s k = some r → ∃ fuel, iter (msk_spec_l5Fault 2) (msk_spec_l5Fault 100002) s.objs.length (evCode E (pc_spec_l5Fault fu) msk_spec_l5Fault (lp_spec_l5Fault fu) 2 lc_spec_l5Fault_2) fuel s k = some r :=
  handle_ok (ps := ps_spec_l5Fault_2) (os := os_spec_l5Fault_2) (conv := conv_spec_l5Fault_2) (B := Bk_spec_l5Fault_2 fu) (fu := fu) back_spec_l5Fault_2 (fun raw => by kernel_rfl) 0 (fun c w => by kernel_rfl) (round_spec_l5Fault_2 fu)
theorem lpok_spec_l5Fault (fu : Nat) : LpOk E (pc_spec_l5Fault fu) msk_spec_l5Fault (lp_spec_l5Fault fu) (loops 0 body_spec_l5Fault) := loop_all 2 (by kernel_rfl) fun i hi => match i, hi with
  | 0, _ => by
    have h : (loops 0 body_spec_l5Fault).getD 0 (0, .skip) = (0, lc_spec_l5Fault_0) := by kernel_rfl
    rw [h]; exact lpok_spec_l5Fault_0 fu
  | 1, _ => by
    have h : (loops 0 body_spec_l5Fault).getD 1 (0, .skip) = (2, lc_spec_l5Fault_2) := by kernel_rfl
    rw [h]; exact lpok_spec_l5Fault_2 fu
  | i + 2, hi => absurd hi (by omega)
def S_spec_l5Fault (fu : Nat) (xs : List (D RT den)) : Option (Out RT den) := match xs with | [.rptr [.int .i64 a0_1, .rs za0_2 .impl_Backend na0_2 fa0_2, .rs za0_3 .impl_Vip na0_3 fa0_3]] => some ⟨Int, F_spec_l5Fault fu (⟨a0_1, (⟨za0_2, na0_2, fa0_2⟩ : (Sl S_impl_Backend)), (⟨za0_3, na0_3, fa0_3⟩ : (Sl S_impl_Vip))⟩ : S_impl_Config), enc_i64, fun _ => true⟩ | _ => none
theorem hpc_spec_l5Fault (fu : Nat) : ∀ f xs o, pc_spec_l5Fault fu f xs = some o → ∀ y, o.x = some y → Good E Try.prog f xs (o.g y) := by
  intro f xs o h
  unfold pc_spec_l5Fault at h
  split at h
  · exact good_spec_l5Version fu xs o h
  · exact good_spec_l5Backend fu xs o h
  · exact good_spec_l5Vip fu xs o h
  · cases h
theorem goodv_spec_l5Fault (fu : Nat) (c_0 : S_impl_Config) (y : Int) (hy : F_spec_l5Fault fu c_0 = some y) : Good E Try.prog 62 [(.rptr [(.int .i64 c_0.Version), (.rs c_0.Backends.z .impl_Backend c_0.Backends.n c_0.Backends.f), (.rs c_0.Vips.z .impl_Vip c_0.Vips.n c_0.Vips.f)])] (enc_i64 y) :=
  fun_good E_ok (pc_good (hpc_spec_l5Fault fu)) (fn := Try.f62) (c := body_spec_l5Fault) (out := out_i64) (y := y) (by kernel_rfl) (by kernel_rfl) (by kernel_rfl) (lpok_spec_l5Fault fu) (fun d hd => out_i64_enc d _ hd) ((ev_spec_l5Fault fu c_0).trans hy)
theorem good_spec_l5Fault (fu : Nat) : ∀ xs o, S_spec_l5Fault fu xs = some o → ∀ y, o.x = some y → Good E Try.prog 62 xs (o.g y) := by
  intro xs o h y hy
  unfold S_spec_l5Fault at h
  split at h
  · rename_i a0_1 za0_2 na0_2 fa0_2 za0_3 na0_3 fa0_3
    cases h
    exact goodv_spec_l5Fault fu (⟨a0_1, (⟨za0_2, na0_2, fa0_2⟩ : (Sl S_impl_Backend)), (⟨za0_3, na0_3, fa0_3⟩ : (Sl S_impl_Vip))⟩ : S_impl_Config) y hy
  · cases h

/-! spec.l13Empty -/
def F_spec_l13Empty (fu : Nat) (c_0 : S_impl_Config) : Option (Bool) :=
  (((bif (c_0.Version == 0) then (bif (((c_0.Backends.n : Nat) : Int) == 0) then (some (((c_0.Vips.n : Nat) : Int) == 0)) else (some false)) else (some false)) : Option Bool).bind fun m209 =>
    (some m209))
def pc_spec_l13Empty (fu : Nat) : Pc RT den := fun f xs => none
def msk_spec_l13Empty (b : Nat) : List Nat := match b with | 200001 => [2] | _ => []
def lp_spec_l13Empty (fu : Nat) : Lp RT den (Bool) := fun b s k => none
theorem ev_spec_l13Empty (fu : Nat) (c_0 : S_impl_Config) : evFun E (pc_spec_l13Empty fu) msk_spec_l13Empty (lp_spec_l13Empty fu) out_bo 63 [(.rptr [(.int .i64 c_0.Version), (.rs c_0.Backends.z .impl_Backend c_0.Backends.n c_0.Backends.f), (.rs c_0.Vips.z .impl_Vip c_0.Vips.n c_0.Vips.f)])] = F_spec_l13Empty fu c_0 := by kernel_rfl
noncomputable def body_spec_l13Empty : Code := Try.f63.body.getD .skip
theorem lpok_spec_l13Empty (fu : Nat) : LpOk E (pc_spec_l13Empty fu) msk_spec_l13Empty (lp_spec_l13Empty fu) (loops 0 body_spec_l13Empty) := by
  have h : loops 0 body_spec_l13Empty = [] := by kernel_rfl
  rw [h]; intro p hp; cases hp
def S_spec_l13Empty (fu : Nat) (xs : List (D RT den)) : Option (Out RT den) := match xs with | [.rptr [.int .i64 a0_1, .rs za0_2 .impl_Backend na0_2 fa0_2, .rs za0_3 .impl_Vip na0_3 fa0_3]] => some ⟨Bool, F_spec_l13Empty fu (⟨a0_1, (⟨za0_2, na0_2, fa0_2⟩ : (Sl S_impl_Backend)), (⟨za0_3, na0_3, fa0_3⟩ : (Sl S_impl_Vip))⟩ : S_impl_Config), enc_bo, fun _ => true⟩ | _ => none
theorem hpc_spec_l13Empty (fu : Nat) : ∀ f xs o, pc_spec_l13Empty fu f xs = some o → ∀ y, o.x = some y → Good E Try.prog f xs (o.g y) := by
  intro f xs o h
  cases h
theorem goodv_spec_l13Empty (fu : Nat) (c_0 : S_impl_Config) (y : Bool) (hy : F_spec_l13Empty fu c_0 = some y) : Good E Try.prog 63 [(.rptr [(.int .i64 c_0.Version), (.rs c_0.Backends.z .impl_Backend c_0.Backends.n c_0.Backends.f), (.rs c_0.Vips.z .impl_Vip c_0.Vips.n c_0.Vips.f)])] (enc_bo y) :=
  fun_good E_ok (pc_good (hpc_spec_l13Empty fu)) (fn := Try.f63) (c := body_spec_l13Empty) (out := out_bo) (y := y) (by kernel_rfl) (by kernel_rfl) (by kernel_rfl) (lpok_spec_l13Empty fu) (fun d hd => out_bo_enc d _ hd) ((ev_spec_l13Empty fu c_0).trans hy)
theorem good_spec_l13Empty (fu : Nat) : ∀ xs o, S_spec_l13Empty fu xs = some o → ∀ y, o.x = some y → Good E Try.prog 63 xs (o.g y) := by
  intro xs o h y hy
  unfold S_spec_l13Empty at h
  split at h
  · rename_i a0_1 za0_2 na0_2 fa0_2 za0_3 na0_3 fa0_3
    cases h
    exact goodv_spec_l13Empty fu (⟨a0_1, (⟨za0_2, na0_2, fa0_2⟩ : (Sl S_impl_Backend)), (⟨za0_3, na0_3, fa0_3⟩ : (Sl S_impl_Vip))⟩ : S_impl_Config) y hy
  · cases h

/-! spec.WatchFault -/
def F_spec_WatchFault (fu : Nat) (w_0 : S_impl_Watch) : Option (Int) :=
  ((F_spec_l5Fault fu w_0.Config).bind fun y183 => (bif (y183 != 0) then (some y183) else (((bif (!w_0.Ready) then ((F_spec_l13Empty fu w_0.Config).bind fun y184 => (some (!y184))) else
    (some false)) : Option Bool).bind fun m185 => (bif m185 then (some 1) else (some 0)))))
def pc_spec_WatchFault (fu : Nat) : Pc RT den := fun f xs => match f with | 62 => S_spec_l5Fault fu xs | 63 => S_spec_l13Empty fu xs | _ => none
def msk_spec_WatchFault (b : Nat) : List Nat := match b with | 200004 => [16] | _ => []
def lp_spec_WatchFault (fu : Nat) : Lp RT den (Int) := fun b s k => none
theorem ev_spec_WatchFault (fu : Nat) (w_0 : S_impl_Watch) : evFun E (pc_spec_WatchFault fu) msk_spec_WatchFault (lp_spec_WatchFault fu) out_i64 32 [(.agg [(.bool w_0.Ready), (.int .i64 w_0.Config.Version), (.rs w_0.Config.Backends.z .impl_Backend w_0.Config.Backends.n w_0.Config.Backends.f), (.rs w_0.Config.Vips.z .impl_Vip w_0.Config.Vips.n w_0.Config.Vips.f)])] = F_spec_WatchFault fu w_0 := by kernel_rfl
noncomputable def body_spec_WatchFault : Code := Try.f32.body.getD .skip
theorem lpok_spec_WatchFault (fu : Nat) : LpOk E (pc_spec_WatchFault fu) msk_spec_WatchFault (lp_spec_WatchFault fu) (loops 0 body_spec_WatchFault) := by
  have h : loops 0 body_spec_WatchFault = [] := by kernel_rfl
  rw [h]; intro p hp; cases hp
def S_spec_WatchFault (fu : Nat) (xs : List (D RT den)) : Option (Out RT den) := match xs with | [.agg [.bool a0_1, .int .i64 a0_3, .rs za0_4 .impl_Backend na0_4 fa0_4, .rs za0_5 .impl_Vip na0_5 fa0_5]] => some ⟨Int, F_spec_WatchFault fu (⟨a0_1, (⟨a0_3, (⟨za0_4, na0_4, fa0_4⟩ : (Sl S_impl_Backend)), (⟨za0_5, na0_5, fa0_5⟩ : (Sl S_impl_Vip))⟩ : S_impl_Config)⟩ : S_impl_Watch), enc_i64, fun _ => true⟩ | _ => none
theorem hpc_spec_WatchFault (fu : Nat) : ∀ f xs o, pc_spec_WatchFault fu f xs = some o → ∀ y, o.x = some y → Good E Try.prog f xs (o.g y) := by
  intro f xs o h
  unfold pc_spec_WatchFault at h
  split at h
  · exact good_spec_l5Fault fu xs o h
  · exact good_spec_l13Empty fu xs o h
  · cases h
theorem goodv_spec_WatchFault (fu : Nat) (w_0 : S_impl_Watch) (y : Int) (hy : F_spec_WatchFault fu w_0 = some y) : Good E Try.prog 32 [(.agg [(.bool w_0.Ready), (.int .i64 w_0.Config.Version), (.rs w_0.Config.Backends.z .impl_Backend w_0.Config.Backends.n w_0.Config.Backends.f), (.rs w_0.Config.Vips.z .impl_Vip w_0.Config.Vips.n w_0.Config.Vips.f)])] (enc_i64 y) :=
  fun_good E_ok (pc_good (hpc_spec_WatchFault fu)) (fn := Try.f32) (c := body_spec_WatchFault) (out := out_i64) (y := y) (by kernel_rfl) (by kernel_rfl) (by kernel_rfl) (lpok_spec_WatchFault fu) (fun d hd => out_i64_enc d _ hd) ((ev_spec_WatchFault fu w_0).trans hy)
theorem good_spec_WatchFault (fu : Nat) : ∀ xs o, S_spec_WatchFault fu xs = some o → ∀ y, o.x = some y → Good E Try.prog 32 xs (o.g y) := by
  intro xs o h y hy
  unfold S_spec_WatchFault at h
  split at h
  · rename_i a0_1 a0_3 za0_4 na0_4 fa0_4 za0_5 na0_5 fa0_5
    cases h
    exact goodv_spec_WatchFault fu (⟨a0_1, (⟨a0_3, (⟨za0_4, na0_4, fa0_4⟩ : (Sl S_impl_Backend)), (⟨za0_5, na0_5, fa0_5⟩ : (Sl S_impl_Vip))⟩ : S_impl_Config)⟩ : S_impl_Watch) y hy
  · cases h

/-! impl.isAddress -/
def F_impl_isAddress (fu : Nat) (a_0 : Int) : Option (Bool) :=
  ((F_impl_in fu a_0 0 4294967295).bind fun y251 => (some y251))
def pc_impl_isAddress (fu : Nat) : Pc RT den := fun f xs => match f with | 44 => S_impl_in fu xs | _ => none
def msk_impl_isAddress (b : Nat) : List Nat := []
def lp_impl_isAddress (fu : Nat) : Lp RT den (Bool) := fun b s k => none
theorem ev_impl_isAddress (fu : Nat) (a_0 : Int) : evFun E (pc_impl_isAddress fu) msk_impl_isAddress (lp_impl_isAddress fu) out_bo 86 [(.int .i64 a_0)] = F_impl_isAddress fu a_0 := by kernel_rfl
noncomputable def body_impl_isAddress : Code := Try.f86.body.getD .skip
theorem lpok_impl_isAddress (fu : Nat) : LpOk E (pc_impl_isAddress fu) msk_impl_isAddress (lp_impl_isAddress fu) (loops 0 body_impl_isAddress) := by
  have h : loops 0 body_impl_isAddress = [] := by kernel_rfl
  rw [h]; intro p hp; cases hp
def S_impl_isAddress (fu : Nat) (xs : List (D RT den)) : Option (Out RT den) := match xs with | [.int .i64 a0_0] => some ⟨Bool, F_impl_isAddress fu a0_0, enc_bo, fun _ => true⟩ | _ => none
theorem hpc_impl_isAddress (fu : Nat) : ∀ f xs o, pc_impl_isAddress fu f xs = some o → ∀ y, o.x = some y → Good E Try.prog f xs (o.g y) := by
  intro f xs o h
  unfold pc_impl_isAddress at h
  split at h
  · exact good_impl_in fu xs o h
  · cases h
theorem goodv_impl_isAddress (fu : Nat) (a_0 : Int) (y : Bool) (hy : F_impl_isAddress fu a_0 = some y) : Good E Try.prog 86 [(.int .i64 a_0)] (enc_bo y) :=
  fun_good E_ok (pc_good (hpc_impl_isAddress fu)) (fn := Try.f86) (c := body_impl_isAddress) (out := out_bo) (y := y) (by kernel_rfl) (by kernel_rfl) (by kernel_rfl) (lpok_impl_isAddress fu) (fun d hd => out_bo_enc d _ hd) ((ev_impl_isAddress fu a_0).trans hy)
theorem good_impl_isAddress (fu : Nat) : ∀ xs o, S_impl_isAddress fu xs = some o → ∀ y, o.x = some y → Good E Try.prog 86 xs (o.g y) := by
  intro xs o h y hy
  unfold S_impl_isAddress at h
  split at h
  · rename_i a0_0
    cases h
    exact goodv_impl_isAddress fu a0_0 y hy
  · cases h

/-! impl.isBackend -/
def F_impl_isBackend (fu : Nat) (b_0 : S_impl_Backend) : Option (Bool) :=
  ((((F_impl_isName fu b_0.Name).bind fun y246 => (bif y246 then ((F_impl_isAddress fu b_0.Address).bind fun y247 => (bif y247 then ((F_impl_in fu b_0.Weight 0 9).bind fun y248 =>
    (bif y248 then ((F_impl_in fu b_0.Stage 1 3).bind fun y249 => (some y249)) else (some false))) else (some false))) else (some false))) : Option Bool).bind fun m250 => (some m250))
def pc_impl_isBackend (fu : Nat) : Pc RT den := fun f xs => match f with | 43 => S_impl_isName fu xs | 44 => S_impl_in fu xs | 86 => S_impl_isAddress fu xs | _ => none
def msk_impl_isBackend (b : Nat) : List Nat := match b with | 200001 => [2] | _ => []
def lp_impl_isBackend (fu : Nat) : Lp RT den (Bool) := fun b s k => none
theorem ev_impl_isBackend (fu : Nat) (b_0 : S_impl_Backend) : evFun E (pc_impl_isBackend fu) msk_impl_isBackend (lp_impl_isBackend fu) out_bo 85 [(.agg [(.int .i64 b_0.Name), (.int .i64 b_0.Address), (.int .i64 b_0.Weight), (.int .i64 b_0.Stage), (.bool b_0.Up)])] = F_impl_isBackend fu b_0 := by kernel_rfl
noncomputable def body_impl_isBackend : Code := Try.f85.body.getD .skip
theorem lpok_impl_isBackend (fu : Nat) : LpOk E (pc_impl_isBackend fu) msk_impl_isBackend (lp_impl_isBackend fu) (loops 0 body_impl_isBackend) := by
  have h : loops 0 body_impl_isBackend = [] := by kernel_rfl
  rw [h]; intro p hp; cases hp
def S_impl_isBackend (fu : Nat) (xs : List (D RT den)) : Option (Out RT den) := match xs with | [.agg [.int .i64 a0_1, .int .i64 a0_2, .int .i64 a0_3, .int .i64 a0_4, .bool a0_5]] => some ⟨Bool, F_impl_isBackend fu (⟨a0_1, a0_2, a0_3, a0_4, a0_5⟩ : S_impl_Backend), enc_bo, fun _ => true⟩ | _ => none
theorem hpc_impl_isBackend (fu : Nat) : ∀ f xs o, pc_impl_isBackend fu f xs = some o → ∀ y, o.x = some y → Good E Try.prog f xs (o.g y) := by
  intro f xs o h
  unfold pc_impl_isBackend at h
  split at h
  · exact good_impl_isName fu xs o h
  · exact good_impl_in fu xs o h
  · exact good_impl_isAddress fu xs o h
  · cases h
theorem goodv_impl_isBackend (fu : Nat) (b_0 : S_impl_Backend) (y : Bool) (hy : F_impl_isBackend fu b_0 = some y) : Good E Try.prog 85 [(.agg [(.int .i64 b_0.Name), (.int .i64 b_0.Address), (.int .i64 b_0.Weight), (.int .i64 b_0.Stage), (.bool b_0.Up)])] (enc_bo y) :=
  fun_good E_ok (pc_good (hpc_impl_isBackend fu)) (fn := Try.f85) (c := body_impl_isBackend) (out := out_bo) (y := y) (by kernel_rfl) (by kernel_rfl) (by kernel_rfl) (lpok_impl_isBackend fu) (fun d hd => out_bo_enc d _ hd) ((ev_impl_isBackend fu b_0).trans hy)
theorem good_impl_isBackend (fu : Nat) : ∀ xs o, S_impl_isBackend fu xs = some o → ∀ y, o.x = some y → Good E Try.prog 85 xs (o.g y) := by
  intro xs o h y hy
  unfold S_impl_isBackend at h
  split at h
  · rename_i a0_1 a0_2 a0_3 a0_4 a0_5
    cases h
    exact goodv_impl_isBackend fu (⟨a0_1, a0_2, a0_3, a0_4, a0_5⟩ : S_impl_Backend) y hy
  · cases h

/-! impl.isPort -/
def F_impl_isPort (fu : Nat) (n_0 : Int) : Option (Bool) :=
  ((F_impl_in fu n_0 0 65535).bind fun y252 => (some y252))
def pc_impl_isPort (fu : Nat) : Pc RT den := fun f xs => match f with | 44 => S_impl_in fu xs | _ => none
def msk_impl_isPort (b : Nat) : List Nat := []
def lp_impl_isPort (fu : Nat) : Lp RT den (Bool) := fun b s k => none
theorem ev_impl_isPort (fu : Nat) (n_0 : Int) : evFun E (pc_impl_isPort fu) msk_impl_isPort (lp_impl_isPort fu) out_bo 87 [(.int .i64 n_0)] = F_impl_isPort fu n_0 := by kernel_rfl
noncomputable def body_impl_isPort : Code := Try.f87.body.getD .skip
theorem lpok_impl_isPort (fu : Nat) : LpOk E (pc_impl_isPort fu) msk_impl_isPort (lp_impl_isPort fu) (loops 0 body_impl_isPort) := by
  have h : loops 0 body_impl_isPort = [] := by kernel_rfl
  rw [h]; intro p hp; cases hp
def S_impl_isPort (fu : Nat) (xs : List (D RT den)) : Option (Out RT den) := match xs with | [.int .i64 a0_0] => some ⟨Bool, F_impl_isPort fu a0_0, enc_bo, fun _ => true⟩ | _ => none
theorem hpc_impl_isPort (fu : Nat) : ∀ f xs o, pc_impl_isPort fu f xs = some o → ∀ y, o.x = some y → Good E Try.prog f xs (o.g y) := by
  intro f xs o h
  unfold pc_impl_isPort at h
  split at h
  · exact good_impl_in fu xs o h
  · cases h
theorem goodv_impl_isPort (fu : Nat) (n_0 : Int) (y : Bool) (hy : F_impl_isPort fu n_0 = some y) : Good E Try.prog 87 [(.int .i64 n_0)] (enc_bo y) :=
  fun_good E_ok (pc_good (hpc_impl_isPort fu)) (fn := Try.f87) (c := body_impl_isPort) (out := out_bo) (y := y) (by kernel_rfl) (by kernel_rfl) (by kernel_rfl) (lpok_impl_isPort fu) (fun d hd => out_bo_enc d _ hd) ((ev_impl_isPort fu n_0).trans hy)
theorem good_impl_isPort (fu : Nat) : ∀ xs o, S_impl_isPort fu xs = some o → ∀ y, o.x = some y → Good E Try.prog 87 xs (o.g y) := by
  intro xs o h y hy
  unfold S_impl_isPort at h
  split at h
  · rename_i a0_0
    cases h
    exact goodv_impl_isPort fu a0_0 y hy
  · cases h

/-! impl.isProto -/
def F_impl_isProto (fu : Nat) (n_0 : Int) : Option (Bool) :=
  (((bif (n_0 == 6) then (some true) else (some (n_0 == 17))) : Option Bool).bind fun m253 => (some m253))
def pc_impl_isProto (fu : Nat) : Pc RT den := fun f xs => none
def msk_impl_isProto (b : Nat) : List Nat := match b with | 200001 => [2] | _ => []
def lp_impl_isProto (fu : Nat) : Lp RT den (Bool) := fun b s k => none
theorem ev_impl_isProto (fu : Nat) (n_0 : Int) : evFun E (pc_impl_isProto fu) msk_impl_isProto (lp_impl_isProto fu) out_bo 88 [(.int .i64 n_0)] = F_impl_isProto fu n_0 := by kernel_rfl
noncomputable def body_impl_isProto : Code := Try.f88.body.getD .skip
theorem lpok_impl_isProto (fu : Nat) : LpOk E (pc_impl_isProto fu) msk_impl_isProto (lp_impl_isProto fu) (loops 0 body_impl_isProto) := by
  have h : loops 0 body_impl_isProto = [] := by kernel_rfl
  rw [h]; intro p hp; cases hp
def S_impl_isProto (fu : Nat) (xs : List (D RT den)) : Option (Out RT den) := match xs with | [.int .i64 a0_0] => some ⟨Bool, F_impl_isProto fu a0_0, enc_bo, fun _ => true⟩ | _ => none
theorem hpc_impl_isProto (fu : Nat) : ∀ f xs o, pc_impl_isProto fu f xs = some o → ∀ y, o.x = some y → Good E Try.prog f xs (o.g y) := by
  intro f xs o h
  cases h
theorem goodv_impl_isProto (fu : Nat) (n_0 : Int) (y : Bool) (hy : F_impl_isProto fu n_0 = some y) : Good E Try.prog 88 [(.int .i64 n_0)] (enc_bo y) :=
  fun_good E_ok (pc_good (hpc_impl_isProto fu)) (fn := Try.f88) (c := body_impl_isProto) (out := out_bo) (y := y) (by kernel_rfl) (by kernel_rfl) (by kernel_rfl) (lpok_impl_isProto fu) (fun d hd => out_bo_enc d _ hd) ((ev_impl_isProto fu n_0).trans hy)
theorem good_impl_isProto (fu : Nat) : ∀ xs o, S_impl_isProto fu xs = some o → ∀ y, o.x = some y → Good E Try.prog 88 xs (o.g y) := by
  intro xs o h y hy
  unfold S_impl_isProto at h
  split at h
  · rename_i a0_0
    cases h
    exact goodv_impl_isProto fu a0_0 y hy
  · cases h

/-! (*impl.Config).backend'1 -/
def F_impl_Config_backend_c1 (fu : Nat) (b_0 : S_impl_Backend) (x_1_1 : Int) : Option (Bool) :=
  (some (b_0.Name == x_1_1))
def pc_impl_Config_backend_c1 (fu : Nat) : Pc RT den := fun f xs => none
def msk_impl_Config_backend_c1 (b : Nat) : List Nat := []
def lp_impl_Config_backend_c1 (fu : Nat) : Lp RT den (Bool) := fun b s k => none
theorem ev_impl_Config_backend_c1 (fu : Nat) (b_0 : S_impl_Backend) (x_1_1 : Int) : evFun E (pc_impl_Config_backend_c1 fu) msk_impl_Config_backend_c1 (lp_impl_Config_backend_c1 fu) out_bo 108 [(.agg [(.int .i64 b_0.Name), (.int .i64 b_0.Address), (.int .i64 b_0.Weight), (.int .i64 b_0.Stage), (.bool b_0.Up)]), (.rptr [(.int .i64 x_1_1)])] = F_impl_Config_backend_c1 fu b_0 x_1_1 := by kernel_rfl
noncomputable def body_impl_Config_backend_c1 : Code := Try.f108.body.getD .skip
theorem lpok_impl_Config_backend_c1 (fu : Nat) : LpOk E (pc_impl_Config_backend_c1 fu) msk_impl_Config_backend_c1 (lp_impl_Config_backend_c1 fu) (loops 0 body_impl_Config_backend_c1) := by
  have h : loops 0 body_impl_Config_backend_c1 = [] := by kernel_rfl
  rw [h]; intro p hp; cases hp
def S_impl_Config_backend_c1 (fu : Nat) (xs : List (D RT den)) : Option (Out RT den) := match xs with | [.agg [.int .i64 a0_1, .int .i64 a0_2, .int .i64 a0_3, .int .i64 a0_4, .bool a0_5], .rptr [.int .i64 a1_0]] => some ⟨Bool, F_impl_Config_backend_c1 fu (⟨a0_1, a0_2, a0_3, a0_4, a0_5⟩ : S_impl_Backend) a1_0, enc_bo, fun _ => true⟩ | _ => none
theorem hpc_impl_Config_backend_c1 (fu : Nat) : ∀ f xs o, pc_impl_Config_backend_c1 fu f xs = some o → ∀ y, o.x = some y → Good E Try.prog f xs (o.g y) := by
  intro f xs o h
  cases h
theorem goodv_impl_Config_backend_c1 (fu : Nat) (b_0 : S_impl_Backend) (x_1_1 : Int) (y : Bool) (hy : F_impl_Config_backend_c1 fu b_0 x_1_1 = some y) : Good E Try.prog 108 [(.agg [(.int .i64 b_0.Name), (.int .i64 b_0.Address), (.int .i64 b_0.Weight), (.int .i64 b_0.Stage), (.bool b_0.Up)]), (.rptr [(.int .i64 x_1_1)])] (enc_bo y) :=
  fun_good E_ok (pc_good (hpc_impl_Config_backend_c1 fu)) (fn := Try.f108) (c := body_impl_Config_backend_c1) (out := out_bo) (y := y) (by kernel_rfl) (by kernel_rfl) (by kernel_rfl) (lpok_impl_Config_backend_c1 fu) (fun d hd => out_bo_enc d _ hd) ((ev_impl_Config_backend_c1 fu b_0 x_1_1).trans hy)
theorem good_impl_Config_backend_c1 (fu : Nat) : ∀ xs o, S_impl_Config_backend_c1 fu xs = some o → ∀ y, o.x = some y → Good E Try.prog 108 xs (o.g y) := by
  intro xs o h y hy
  unfold S_impl_Config_backend_c1 at h
  split at h
  · rename_i a0_1 a0_2 a0_3 a0_4 a0_5 a1_0
    cases h
    exact goodv_impl_Config_backend_c1 fu (⟨a0_1, a0_2, a0_3, a0_4, a0_5⟩ : S_impl_Backend) a1_0 y hy
  · cases h
end Go.Proofs.Ytnocoglmchnggaa.Pc
