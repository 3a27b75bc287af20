/- The functions' evaluated forms, each a proved summary. Conditions: none. -/
import Derived.Test.YtaghkcpgpjbdnaaPcT
namespace Go.Proofs.Ytaghkcpgpjbdnaa.Pc
open Go Go.RowKit Go.Proofs Vm
set_option linter.unusedVariables false
set_option linter.unusedSimpArgs false
set_option maxRecDepth 100000
/-! spec.l14Bad -/
def F_spec_l14Bad_H (fu : Nat) (c_0 : Int) : Option (S_impl_MuxResult) :=
  (some (⟨c_0, 0, 0, (⟨(some true), 0, (fun _ => dflt .u8)⟩ : (Sl Int)), (⟨0, 0, (⟨false, (⟨0, (⟨(some true), 0, (fun _ => dflt .impl_Backend)⟩ : (Sl S_impl_Backend)), (⟨(some true),
    0, (fun _ => dflt .impl_Vip)⟩ : (Sl S_impl_Vip))⟩ : S_impl_Config)⟩ : S_impl_Watch), (⟨(some true), 0, (fun _ => dflt .sl_i64)⟩ : (Sl (Sl Int))), (⟨(some true), 0, (fun _ =>
    dflt .impl_Held)⟩ : (Sl S_impl_Held))⟩ : S_impl_Mux)⟩ : S_impl_MuxResult))
def pcf_spec_l14Bad_H (fu : Nat) (f : Nat) (xs : List (D RT den)) : Option (Out RT den) := none
def pcx_spec_l14Bad_H (fu : Nat) (f : Nat) (xs : List (D RT den)) (ins : List (Ob RT den)) : Option (OutX RT den) := none
def pc_spec_l14Bad_H (fu : Nat) : Pc RT den := ⟨pcf_spec_l14Bad_H fu, fun _ => false, fun _ => false, pcx_spec_l14Bad_H fu⟩
def msk_spec_l14Bad_H (b : Nat) : List Nat := []
def lp_spec_l14Bad_H (fu : Nat) : Lp RT den (S_impl_MuxResult) := fun b s k => none
theorem ev_spec_l14Bad_H (fu : Nat) (c_0 : Int) : evFunX E (pc_spec_l14Bad_H fu) msk_spec_l14Bad_H (lp_spec_l14Bad_H fu) out_impl_MuxResult_H 16 [(.int .i64 c_0)] [] = F_spec_l14Bad_H fu c_0 := by kernel_rfl
noncomputable def body_spec_l14Bad_H : Code := Try.f16.body.getD .skip
theorem lpok_spec_l14Bad_H (fu : Nat) : LpOk E (pc_spec_l14Bad_H fu) msk_spec_l14Bad_H (lp_spec_l14Bad_H fu) (loops 0 body_spec_l14Bad_H) := by
  have h : loops 0 body_spec_l14Bad_H = [] := by kernel_rfl
  rw [h]; intro p hp; cases hp
def S_spec_l14Bad_H (fu : Nat) (xs : List (D RT den)) (ins : List (Ob RT den)) : Option (OutX RT den) := match xs, ins with | [.int .i64 a0_0], [] => some ⟨S_impl_MuxResult, F_spec_l14Bad_H fu a0_0, enc_impl_MuxResult_H⟩ | _, _ => none
theorem hpc_spec_l14Bad_H (fu : Nat) : ∀ f xs o, pcf_spec_l14Bad_H fu f xs = some o → ∀ y, o.x = some y → Good E Try.prog f xs (o.g y) := by
  intro f xs o h
  cases h
theorem hpx_spec_l14Bad_H (fu : Nat) : ∀ f xs ins o, pcx_spec_l14Bad_H fu f xs ins = some o → ∀ y, o.x = some y → GoodX E Try.prog f xs ins (o.g y).1 (o.g y).2 := by
  intro f xs ins o h
  cases h
theorem goodv_spec_l14Bad_H (fu : Nat) (c_0 : Int) (y : S_impl_MuxResult) (hy : F_spec_l14Bad_H fu c_0 = some y) : GoodX E Try.prog 16 [(.int .i64 c_0)] [] (enc_impl_MuxResult_H y).1 (enc_impl_MuxResult_H y).2 :=
  funX_good E_ok (pc_good (pc := pc_spec_l14Bad_H fu) (hpc_spec_l14Bad_H fu) (hpx_spec_l14Bad_H fu)) (fn := Try.f16) (c := body_spec_l14Bad_H) (out := out_impl_MuxResult_H) (y := y) (by kernel_rfl) (by kernel_rfl) (by kernel_rfl) (lpok_spec_l14Bad_H fu) (by kernel_rfl) (Nat.zero_le _) (fun d os hd => out_impl_MuxResult_H_enc d os _ hd) ((ev_spec_l14Bad_H fu c_0).trans hy)
theorem good_spec_l14Bad_H (fu : Nat) : ∀ xs ins o, S_spec_l14Bad_H fu xs ins = some o → ∀ y, o.x = some y → GoodX E Try.prog 16 xs ins (o.g y).1 (o.g y).2 := by
  intro xs ins o h y hy
  unfold S_spec_l14Bad_H at h
  split at h
  · rename_i a0_0
    cases h
    exact goodv_spec_l14Bad_H fu a0_0 y hy
  · cases h

/-! spec.l1In -/
def F_spec_l1In (fu : Nat) (v_0 : Int) (low_1 : Int) (high_2 : Int) : Option (Bool) :=
  (((bif (decide (v_0 ≥ low_1)) then (some (decide (v_0 ≤ high_2))) else (some false)) : Option Bool).bind fun m4 => (some m4))
def pcf_spec_l1In (fu : Nat) (f : Nat) (xs : List (D RT den)) : Option (Out RT den) := none
def pcx_spec_l1In (fu : Nat) (f : Nat) (xs : List (D RT den)) (ins : List (Ob RT den)) : Option (OutX RT den) := none
def pc_spec_l1In (fu : Nat) : Pc RT den := ⟨pcf_spec_l1In fu, fun _ => false, fun _ => false, pcx_spec_l1In fu⟩
def msk_spec_l1In (b : Nat) : List Nat := match b with | 200001 => [6] | _ => []
def lp_spec_l1In (fu : Nat) : Lp RT den (Bool) := fun b s k => none
theorem ev_spec_l1In (fu : Nat) (v_0 : Int) (low_1 : Int) (high_2 : Int) : evFun E (pc_spec_l1In fu) msk_spec_l1In (lp_spec_l1In fu) out_bo 24 [(.int .i64 v_0), (.int .i64 low_1), (.int .i64 high_2)] = F_spec_l1In fu v_0 low_1 high_2 := by kernel_rfl
noncomputable def body_spec_l1In : Code := Try.f24.body.getD .skip
theorem lpok_spec_l1In (fu : Nat) : LpOk E (pc_spec_l1In fu) msk_spec_l1In (lp_spec_l1In fu) (loops 0 body_spec_l1In) := by
  have h : loops 0 body_spec_l1In = [] := by kernel_rfl
  rw [h]; intro p hp; cases hp
def S_spec_l1In (fu : Nat) (xs : List (D RT den)) : Option (Out RT den) := match xs with | [.int .i64 a0_0, .int .i64 a1_0, .int .i64 a2_0] => some ⟨Bool, F_spec_l1In fu a0_0 a1_0 a2_0, enc_bo, fun _ => true⟩ | _ => none
theorem hpc_spec_l1In (fu : Nat) : ∀ f xs o, pcf_spec_l1In fu f xs = some o → ∀ y, o.x = some y → Good E Try.prog f xs (o.g y) := by
  intro f xs o h
  cases h
theorem hpx_spec_l1In (fu : Nat) : ∀ f xs ins o, pcx_spec_l1In fu f xs ins = some o → ∀ y, o.x = some y → GoodX E Try.prog f xs ins (o.g y).1 (o.g y).2 := by
  intro f xs ins o h
  cases h
theorem goodv_spec_l1In (fu : Nat) (v_0 : Int) (low_1 : Int) (high_2 : Int) (y : Bool) (hy : F_spec_l1In fu v_0 low_1 high_2 = some y) : Good E Try.prog 24 [(.int .i64 v_0), (.int .i64 low_1), (.int .i64 high_2)] (enc_bo y) :=
  fun_good E_ok (pc_good (pc := pc_spec_l1In fu) (hpc_spec_l1In fu) (hpx_spec_l1In fu)) (fn := Try.f24) (c := body_spec_l1In) (out := out_bo) (y := y) (by kernel_rfl) (by kernel_rfl) (by kernel_rfl) (lpok_spec_l1In fu) (fun d hd => out_bo_enc d _ hd) ((ev_spec_l1In fu v_0 low_1 high_2).trans hy)
theorem good_spec_l1In (fu : Nat) : ∀ xs o, S_spec_l1In fu xs = some o → ∀ y, o.x = some y → Good E Try.prog 24 xs (o.g y) := by
  intro xs o h y hy
  unfold S_spec_l1In at h
  split at h
  · rename_i a0_0 a1_0 a2_0
    cases h
    exact goodv_spec_l1In fu a0_0 a1_0 a2_0 y hy
  · cases h

/-! spec.l2Address -/
def F_spec_l2Address (fu : Nat) (a_0 : Int) : Option (Bool) :=
  ((F_spec_l1In fu a_0 0 4294967295).bind fun y3 => (some y3))
def pcf_spec_l2Address (fu : Nat) (f : Nat) (xs : List (D RT den)) : Option (Out RT den) := match f with | 24 => S_spec_l1In fu xs | _ => none
def pcx_spec_l2Address (fu : Nat) (f : Nat) (xs : List (D RT den)) (ins : List (Ob RT den)) : Option (OutX RT den) := none
def pc_spec_l2Address (fu : Nat) : Pc RT den := ⟨pcf_spec_l2Address fu, fun _ => false, fun _ => false, pcx_spec_l2Address fu⟩
def msk_spec_l2Address (b : Nat) : List Nat := []
def lp_spec_l2Address (fu : Nat) : Lp RT den (Bool) := fun b s k => none
theorem ev_spec_l2Address (fu : Nat) (a_0 : Int) : evFun E (pc_spec_l2Address fu) msk_spec_l2Address (lp_spec_l2Address fu) out_bo 15 [(.int .i64 a_0)] = F_spec_l2Address fu a_0 := by kernel_rfl
noncomputable def body_spec_l2Address : Code := Try.f15.body.getD .skip
theorem lpok_spec_l2Address (fu : Nat) : LpOk E (pc_spec_l2Address fu) msk_spec_l2Address (lp_spec_l2Address fu) (loops 0 body_spec_l2Address) := by
  have h : loops 0 body_spec_l2Address = [] := by kernel_rfl
  rw [h]; intro p hp; cases hp
def S_spec_l2Address (fu : Nat) (xs : List (D RT den)) : Option (Out RT den) := match xs with | [.int .i64 a0_0] => some ⟨Bool, F_spec_l2Address fu a0_0, enc_bo, fun _ => true⟩ | _ => none
theorem hpc_spec_l2Address (fu : Nat) : ∀ f xs o, pcf_spec_l2Address fu f xs = some o → ∀ y, o.x = some y → Good E Try.prog f xs (o.g y) := by
  intro f xs o h
  unfold pcf_spec_l2Address at h
  split at h
  · exact good_spec_l1In fu xs o h
  · cases h
theorem hpx_spec_l2Address (fu : Nat) : ∀ f xs ins o, pcx_spec_l2Address fu f xs ins = some o → ∀ y, o.x = some y → GoodX E Try.prog f xs ins (o.g y).1 (o.g y).2 := by
  intro f xs ins o h
  cases h
theorem goodv_spec_l2Address (fu : Nat) (a_0 : Int) (y : Bool) (hy : F_spec_l2Address fu a_0 = some y) : Good E Try.prog 15 [(.int .i64 a_0)] (enc_bo y) :=
  fun_good E_ok (pc_good (pc := pc_spec_l2Address fu) (hpc_spec_l2Address fu) (hpx_spec_l2Address fu)) (fn := Try.f15) (c := body_spec_l2Address) (out := out_bo) (y := y) (by kernel_rfl) (by kernel_rfl) (by kernel_rfl) (lpok_spec_l2Address fu) (fun d hd => out_bo_enc d _ hd) ((ev_spec_l2Address fu a_0).trans hy)
theorem good_spec_l2Address (fu : Nat) : ∀ xs o, S_spec_l2Address fu xs = some o → ∀ y, o.x = some y → Good E Try.prog 15 xs (o.g y) := by
  intro xs o h y hy
  unfold S_spec_l2Address at h
  split at h
  · rename_i a0_0
    cases h
    exact goodv_spec_l2Address fu a0_0 y hy
  · cases h

/-! spec.NewMux -/
def F_spec_NewMux_H (fu : Nat) (address_0 : Int) : Option (S_impl_MuxResult) :=
  ((F_spec_l2Address fu address_0).bind fun y1 => (bif (!y1) then ((F_spec_l14Bad_H fu 3).bind fun y2 => (some (⟨y2.Code, y2.Why, y2.Name, (⟨none, y2.Out.n, y2.Out.f⟩ : (Sl Int)),
    (⟨y2.Mux.Address, y2.Mux.Now, (⟨y2.Mux.Watch.Ready, (⟨y2.Mux.Watch.Config.Version, (⟨none, y2.Mux.Watch.Config.Backends.n, y2.Mux.Watch.Config.Backends.f⟩ : (Sl S_impl_Backend)),
    (⟨(some true), 0, (fun _ => dflt .impl_Vip)⟩ : (Sl S_impl_Vip))⟩ : S_impl_Config)⟩ : S_impl_Watch), (⟨(some true), 0, (fun _ => dflt .sl_i64)⟩ : (Sl (Sl Int))), (⟨none,
    y2.Mux.Cache.n, y2.Mux.Cache.f⟩ : (Sl S_impl_Held))⟩ : S_impl_Mux)⟩ : S_impl_MuxResult))) else (some (⟨0, 0, 0, (⟨(some true), 0, (fun _ => dflt .u8)⟩ : (Sl Int)), (⟨address_0,
    0, (⟨false, (⟨0, (⟨(some true), 0, (fun _ => dflt .impl_Backend)⟩ : (Sl S_impl_Backend)), (⟨(some true), 0, (fun _ => dflt .impl_Vip)⟩ : (Sl S_impl_Vip))⟩ : S_impl_Config)⟩ : S_impl_Watch),
    (⟨(some true), 0, (fun _ => dflt .sl_i64)⟩ : (Sl (Sl Int))), (⟨(some true), 0, (fun _ => dflt .impl_Held)⟩ : (Sl S_impl_Held))⟩ : S_impl_Mux)⟩ : S_impl_MuxResult))))
def pcf_spec_NewMux_H (fu : Nat) (f : Nat) (xs : List (D RT den)) : Option (Out RT den) := match f with | 15 => S_spec_l2Address fu xs | _ => none
def pcx_spec_NewMux_H (fu : Nat) (f : Nat) (xs : List (D RT den)) (ins : List (Ob RT den)) : Option (OutX RT den) := match f with | 16 => S_spec_l14Bad_H fu xs ins | _ => none
def pc_spec_NewMux_H (fu : Nat) : Pc RT den := ⟨pcf_spec_NewMux_H fu, fun f => match f with | 16 => true | _ => false, fun _ => false, pcx_spec_NewMux_H fu⟩
def msk_spec_NewMux_H (b : Nat) : List Nat := []
def lp_spec_NewMux_H (fu : Nat) : Lp RT den (S_impl_MuxResult) := fun b s k => none
theorem ev_spec_NewMux_H (fu : Nat) (address_0 : Int) : evFunX E (pc_spec_NewMux_H fu) msk_spec_NewMux_H (lp_spec_NewMux_H fu) out_impl_MuxResult_H 5 [(.int .i64 address_0)] [] = F_spec_NewMux_H fu address_0 := by kernel_rfl
noncomputable def body_spec_NewMux_H : Code := Try.f5.body.getD .skip
theorem lpok_spec_NewMux_H (fu : Nat) : LpOk E (pc_spec_NewMux_H fu) msk_spec_NewMux_H (lp_spec_NewMux_H fu) (loops 0 body_spec_NewMux_H) := by
  have h : loops 0 body_spec_NewMux_H = [] := by kernel_rfl
  rw [h]; intro p hp; cases hp
def S_spec_NewMux_H (fu : Nat) (xs : List (D RT den)) (ins : List (Ob RT den)) : Option (OutX RT den) := match xs, ins with | [.int .i64 a0_0], [] => some ⟨S_impl_MuxResult, F_spec_NewMux_H fu a0_0, enc_impl_MuxResult_H⟩ | _, _ => none
theorem hpc_spec_NewMux_H (fu : Nat) : ∀ f xs o, pcf_spec_NewMux_H fu f xs = some o → ∀ y, o.x = some y → Good E Try.prog f xs (o.g y) := by
  intro f xs o h
  unfold pcf_spec_NewMux_H at h
  split at h
  · exact good_spec_l2Address fu xs o h
  · cases h
theorem hpx_spec_NewMux_H (fu : Nat) : ∀ f xs ins o, pcx_spec_NewMux_H fu f xs ins = some o → ∀ y, o.x = some y → GoodX E Try.prog f xs ins (o.g y).1 (o.g y).2 := by
  intro f xs ins o h
  unfold pcx_spec_NewMux_H at h
  split at h
  · exact good_spec_l14Bad_H fu xs ins o h
  · cases h
theorem goodv_spec_NewMux_H (fu : Nat) (address_0 : Int) (y : S_impl_MuxResult) (hy : F_spec_NewMux_H fu address_0 = some y) : GoodX E Try.prog 5 [(.int .i64 address_0)] [] (enc_impl_MuxResult_H y).1 (enc_impl_MuxResult_H y).2 :=
  funX_good E_ok (pc_good (pc := pc_spec_NewMux_H fu) (hpc_spec_NewMux_H fu) (hpx_spec_NewMux_H fu)) (fn := Try.f5) (c := body_spec_NewMux_H) (out := out_impl_MuxResult_H) (y := y) (by kernel_rfl) (by kernel_rfl) (by kernel_rfl) (lpok_spec_NewMux_H fu) (by kernel_rfl) (Nat.zero_le _) (fun d os hd => out_impl_MuxResult_H_enc d os _ hd) ((ev_spec_NewMux_H fu address_0).trans hy)
theorem good_spec_NewMux_H (fu : Nat) : ∀ xs ins o, S_spec_NewMux_H fu xs ins = some o → ∀ y, o.x = some y → GoodX E Try.prog 5 xs ins (o.g y).1 (o.g y).2 := by
  intro xs ins o h y hy
  unfold S_spec_NewMux_H at h
  split at h
  · rename_i a0_0
    cases h
    exact goodv_spec_NewMux_H fu a0_0 y hy
  · cases h

/-! impl.in -/
def F_impl_in (fu : Nat) (n_0 : Int) (low_1 : Int) (high_2 : Int) : Option (Bool) :=
  (((bif (decide (n_0 ≥ low_1)) then (some (decide (n_0 ≤ high_2))) else (some false)) : Option Bool).bind fun m8 => (some m8))
def pcf_impl_in (fu : Nat) (f : Nat) (xs : List (D RT den)) : Option (Out RT den) := none
def pcx_impl_in (fu : Nat) (f : Nat) (xs : List (D RT den)) (ins : List (Ob RT den)) : Option (OutX RT den) := none
def pc_impl_in (fu : Nat) : Pc RT den := ⟨pcf_impl_in fu, fun _ => false, fun _ => false, pcx_impl_in fu⟩
def msk_impl_in (b : Nat) : List Nat := match b with | 200001 => [6] | _ => []
def lp_impl_in (fu : Nat) : Lp RT den (Bool) := fun b s k => none
theorem ev_impl_in (fu : Nat) (n_0 : Int) (low_1 : Int) (high_2 : Int) : evFun E (pc_impl_in fu) msk_impl_in (lp_impl_in fu) out_bo 26 [(.int .i64 n_0), (.int .i64 low_1), (.int .i64 high_2)] = F_impl_in fu n_0 low_1 high_2 := by kernel_rfl
noncomputable def body_impl_in : Code := Try.f26.body.getD .skip
theorem lpok_impl_in (fu : Nat) : LpOk E (pc_impl_in fu) msk_impl_in (lp_impl_in fu) (loops 0 body_impl_in) := by
  have h : loops 0 body_impl_in = [] := by kernel_rfl
  rw [h]; intro p hp; cases hp
def S_impl_in (fu : Nat) (xs : List (D RT den)) : Option (Out RT den) := match xs with | [.int .i64 a0_0, .int .i64 a1_0, .int .i64 a2_0] => some ⟨Bool, F_impl_in fu a0_0 a1_0 a2_0, enc_bo, fun _ => true⟩ | _ => none
theorem hpc_impl_in (fu : Nat) : ∀ f xs o, pcf_impl_in fu f xs = some o → ∀ y, o.x = some y → Good E Try.prog f xs (o.g y) := by
  intro f xs o h
  cases h
theorem hpx_impl_in (fu : Nat) : ∀ f xs ins o, pcx_impl_in fu f xs ins = some o → ∀ y, o.x = some y → GoodX E Try.prog f xs ins (o.g y).1 (o.g y).2 := by
  intro f xs ins o h
  cases h
theorem goodv_impl_in (fu : Nat) (n_0 : Int) (low_1 : Int) (high_2 : Int) (y : Bool) (hy : F_impl_in fu n_0 low_1 high_2 = some y) : Good E Try.prog 26 [(.int .i64 n_0), (.int .i64 low_1), (.int .i64 high_2)] (enc_bo y) :=
  fun_good E_ok (pc_good (pc := pc_impl_in fu) (hpc_impl_in fu) (hpx_impl_in fu)) (fn := Try.f26) (c := body_impl_in) (out := out_bo) (y := y) (by kernel_rfl) (by kernel_rfl) (by kernel_rfl) (lpok_impl_in fu) (fun d hd => out_bo_enc d _ hd) ((ev_impl_in fu n_0 low_1 high_2).trans hy)
theorem good_impl_in (fu : Nat) : ∀ xs o, S_impl_in fu xs = some o → ∀ y, o.x = some y → Good E Try.prog 26 xs (o.g y) := by
  intro xs o h y hy
  unfold S_impl_in at h
  split at h
  · rename_i a0_0 a1_0 a2_0
    cases h
    exact goodv_impl_in fu a0_0 a1_0 a2_0 y hy
  · cases h

/-! impl.isAddress -/
def F_impl_isAddress (fu : Nat) (a_0 : Int) : Option (Bool) :=
  ((F_impl_in fu a_0 0 4294967295).bind fun y7 => (some y7))
def pcf_impl_isAddress (fu : Nat) (f : Nat) (xs : List (D RT den)) : Option (Out RT den) := match f with | 26 => S_impl_in fu xs | _ => none
def pcx_impl_isAddress (fu : Nat) (f : Nat) (xs : List (D RT den)) (ins : List (Ob RT den)) : Option (OutX RT den) := none
def pc_impl_isAddress (fu : Nat) : Pc RT den := ⟨pcf_impl_isAddress fu, fun _ => false, fun _ => false, pcx_impl_isAddress fu⟩
def msk_impl_isAddress (b : Nat) : List Nat := []
def lp_impl_isAddress (fu : Nat) : Lp RT den (Bool) := fun b s k => none
theorem ev_impl_isAddress (fu : Nat) (a_0 : Int) : evFun E (pc_impl_isAddress fu) msk_impl_isAddress (lp_impl_isAddress fu) out_bo 17 [(.int .i64 a_0)] = F_impl_isAddress fu a_0 := by kernel_rfl
noncomputable def body_impl_isAddress : Code := Try.f17.body.getD .skip
theorem lpok_impl_isAddress (fu : Nat) : LpOk E (pc_impl_isAddress fu) msk_impl_isAddress (lp_impl_isAddress fu) (loops 0 body_impl_isAddress) := by
  have h : loops 0 body_impl_isAddress = [] := by kernel_rfl
  rw [h]; intro p hp; cases hp
def S_impl_isAddress (fu : Nat) (xs : List (D RT den)) : Option (Out RT den) := match xs with | [.int .i64 a0_0] => some ⟨Bool, F_impl_isAddress fu a0_0, enc_bo, fun _ => true⟩ | _ => none
theorem hpc_impl_isAddress (fu : Nat) : ∀ f xs o, pcf_impl_isAddress fu f xs = some o → ∀ y, o.x = some y → Good E Try.prog f xs (o.g y) := by
  intro f xs o h
  unfold pcf_impl_isAddress at h
  split at h
  · exact good_impl_in fu xs o h
  · cases h
theorem hpx_impl_isAddress (fu : Nat) : ∀ f xs ins o, pcx_impl_isAddress fu f xs ins = some o → ∀ y, o.x = some y → GoodX E Try.prog f xs ins (o.g y).1 (o.g y).2 := by
  intro f xs ins o h
  cases h
theorem goodv_impl_isAddress (fu : Nat) (a_0 : Int) (y : Bool) (hy : F_impl_isAddress fu a_0 = some y) : Good E Try.prog 17 [(.int .i64 a_0)] (enc_bo y) :=
  fun_good E_ok (pc_good (pc := pc_impl_isAddress fu) (hpc_impl_isAddress fu) (hpx_impl_isAddress fu)) (fn := Try.f17) (c := body_impl_isAddress) (out := out_bo) (y := y) (by kernel_rfl) (by kernel_rfl) (by kernel_rfl) (lpok_impl_isAddress fu) (fun d hd => out_bo_enc d _ hd) ((ev_impl_isAddress fu a_0).trans hy)
theorem good_impl_isAddress (fu : Nat) : ∀ xs o, S_impl_isAddress fu xs = some o → ∀ y, o.x = some y → Good E Try.prog 17 xs (o.g y) := by
  intro xs o h y hy
  unfold S_impl_isAddress at h
  split at h
  · rename_i a0_0
    cases h
    exact goodv_impl_isAddress fu a0_0 y hy
  · cases h

/-! impl.NewMux -/
def F_impl_NewMux_H (fu : Nat) (address_0 : Int) : Option (S_impl_MuxResult) :=
  ((F_impl_isAddress fu address_0).bind fun y6 => (bif (!y6) then (some (⟨3, 0, 0, (⟨(some true), 0, (fun _ => dflt .u8)⟩ : (Sl Int)), (⟨0, 0, (⟨false, (⟨0, (⟨(some true), 0, (fun _ =>
    dflt .impl_Backend)⟩ : (Sl S_impl_Backend)), (⟨(some true), 0, (fun _ => dflt .impl_Vip)⟩ : (Sl S_impl_Vip))⟩ : S_impl_Config)⟩ : S_impl_Watch), (⟨(some true), 0, (fun _ => dflt .sl_i64)⟩ : (Sl (Sl Int))),
    (⟨(some true), 0, (fun _ => dflt .impl_Held)⟩ : (Sl S_impl_Held))⟩ : S_impl_Mux)⟩ : S_impl_MuxResult)) else (some (⟨0, 0, 0, (⟨(some true), 0, (fun _ => dflt .u8)⟩ : (Sl Int)),
    (⟨address_0, 0, (⟨false, (⟨0, (⟨(some true), 0, (fun _ => dflt .impl_Backend)⟩ : (Sl S_impl_Backend)), (⟨(some true), 0, (fun _ => dflt .impl_Vip)⟩ : (Sl S_impl_Vip))⟩ : S_impl_Config)⟩ : S_impl_Watch),
    (⟨(some true), 0, (fun _ => dflt .sl_i64)⟩ : (Sl (Sl Int))), (⟨(some true), 0, (fun _ => dflt .impl_Held)⟩ : (Sl S_impl_Held))⟩ : S_impl_Mux)⟩ : S_impl_MuxResult))))
def pcf_impl_NewMux_H (fu : Nat) (f : Nat) (xs : List (D RT den)) : Option (Out RT den) := match f with | 17 => S_impl_isAddress fu xs | _ => none
def pcx_impl_NewMux_H (fu : Nat) (f : Nat) (xs : List (D RT den)) (ins : List (Ob RT den)) : Option (OutX RT den) := none
def pc_impl_NewMux_H (fu : Nat) : Pc RT den := ⟨pcf_impl_NewMux_H fu, fun _ => false, fun _ => false, pcx_impl_NewMux_H fu⟩
def msk_impl_NewMux_H (b : Nat) : List Nat := []
def lp_impl_NewMux_H (fu : Nat) : Lp RT den (S_impl_MuxResult) := fun b s k => none
theorem ev_impl_NewMux_H (fu : Nat) (address_0 : Int) : evFunX E (pc_impl_NewMux_H fu) msk_impl_NewMux_H (lp_impl_NewMux_H fu) out_impl_MuxResult_H 6 [(.int .i64 address_0)] [] = F_impl_NewMux_H fu address_0 := by kernel_rfl
noncomputable def body_impl_NewMux_H : Code := Try.f6.body.getD .skip
theorem lpok_impl_NewMux_H (fu : Nat) : LpOk E (pc_impl_NewMux_H fu) msk_impl_NewMux_H (lp_impl_NewMux_H fu) (loops 0 body_impl_NewMux_H) := by
  have h : loops 0 body_impl_NewMux_H = [] := by kernel_rfl
  rw [h]; intro p hp; cases hp
def S_impl_NewMux_H (fu : Nat) (xs : List (D RT den)) (ins : List (Ob RT den)) : Option (OutX RT den) := match xs, ins with | [.int .i64 a0_0], [] => some ⟨S_impl_MuxResult, F_impl_NewMux_H fu a0_0, enc_impl_MuxResult_H⟩ | _, _ => none
theorem hpc_impl_NewMux_H (fu : Nat) : ∀ f xs o, pcf_impl_NewMux_H fu f xs = some o → ∀ y, o.x = some y → Good E Try.prog f xs (o.g y) := by
  intro f xs o h
  unfold pcf_impl_NewMux_H at h
  split at h
  · exact good_impl_isAddress fu xs o h
  · cases h
theorem hpx_impl_NewMux_H (fu : Nat) : ∀ f xs ins o, pcx_impl_NewMux_H fu f xs ins = some o → ∀ y, o.x = some y → GoodX E Try.prog f xs ins (o.g y).1 (o.g y).2 := by
  intro f xs ins o h
  cases h
theorem goodv_impl_NewMux_H (fu : Nat) (address_0 : Int) (y : S_impl_MuxResult) (hy : F_impl_NewMux_H fu address_0 = some y) : GoodX E Try.prog 6 [(.int .i64 address_0)] [] (enc_impl_MuxResult_H y).1 (enc_impl_MuxResult_H y).2 :=
  funX_good E_ok (pc_good (pc := pc_impl_NewMux_H fu) (hpc_impl_NewMux_H fu) (hpx_impl_NewMux_H fu)) (fn := Try.f6) (c := body_impl_NewMux_H) (out := out_impl_MuxResult_H) (y := y) (by kernel_rfl) (by kernel_rfl) (by kernel_rfl) (lpok_impl_NewMux_H fu) (by kernel_rfl) (Nat.zero_le _) (fun d os hd => out_impl_MuxResult_H_enc d os _ hd) ((ev_impl_NewMux_H fu address_0).trans hy)
theorem good_impl_NewMux_H (fu : Nat) : ∀ xs ins o, S_impl_NewMux_H fu xs ins = some o → ∀ y, o.x = some y → GoodX E Try.prog 6 xs ins (o.g y).1 (o.g y).2 := by
  intro xs ins o h y hy
  unfold S_impl_NewMux_H at h
  split at h
  · rename_i a0_0
    cases h
    exact goodv_impl_NewMux_H fu a0_0 y hy
  · cases h

/-! laws.markByteS -/
def F_laws_markByteS_L_B0 {ρ : Type} (fu : Nat) (a0_0 : Nat) (on0_3 : Nat) (k0 : Int → (Nat → Int) → Option ρ) (k1_1 : Int) (i5_2 : Int) (of0_4 : (Nat → Int)) (go : Int → Int → (Nat → Int) → Option ρ) : Option ρ :=
  (bif (decide (i5_2 < ((a0_0 : Nat) : Int))) then ((bif (decide (0 ≤ i5_2) && decide ((Int.toNat i5_2) < a0_0)) then some () else none : Option Unit).bind fun _ => (go (IntKind.wrap .i64 (k1_1 + 1)) (IntKind.wrap .i64 (i5_2 + 1)) (fun j =>
    if j = (Int.toNat i5_2) then (IntKind.wrap .u8 k1_1) else of0_4 j))) else (k0 k1_1 of0_4))
def F_laws_markByteS_L (fu : Nat) (a_0_0 : Nat) (k_1_1 : Int) (rn0 : Nat) (rf0 : (Nat → Int)) : Option (Int × (Nat × (Nat → Int))) :=
  (L (fun w0 go0 => F_laws_markByteS_L_B0 fu a_0_0 rn0 (fun z11 z12 => (some (z11, (rn0, z12)))) w0.1 w0.2.1 w0.2.2 (fun q0 q1 q2 => go0 (q0, q1, q2))) fu ((k_1_1, 0, rf0) : Int × Int × (Nat → Int)))
def pcf_laws_markByteS_L (fu : Nat) (f : Nat) (xs : List (D RT den)) : Option (Out RT den) := none
def pcx_laws_markByteS_L (fu : Nat) (f : Nat) (xs : List (D RT den)) (ins : List (Ob RT den)) : Option (OutX RT den) := none
def pc_laws_markByteS_L (fu : Nat) : Pc RT den := ⟨pcf_laws_markByteS_L fu, fun _ => false, fun _ => false, pcx_laws_markByteS_L fu⟩
def msk_laws_markByteS_L (b : Nat) : List Nat := match b with | 0 => [2, 3, 4, 6, 7, 8, 9, 10, 11, 12, 13, 14, 15, 16, 17, 18, 19] | 100000 => [0, 2, 3, 5, 6, 7, 8, 9, 10, 11, 12, 13, 14, 15, 16, 17, 18, 19] | _ => []
def ps_laws_markByteS_L_0 : List (Pat RT) := [.flat (.os 0), .flat (.int .i64), .flat .dead, .flat .dead, .flat .dead, .flat (.int .i64), .flat .dead, .flat .dead, .flat .dead, .flat .dead, .flat .dead, .flat .dead, .flat .dead, .flat .dead, .flat .dead, .flat .dead, .flat .dead, .flat .dead, .flat .dead, .flat .dead]
def os_laws_markByteS_L_0 : List (OP RT) := [.row true .u8]
def conv_laws_markByteS_L_0 (r : Raw den ps_laws_markByteS_L_0 os_laws_markByteS_L_0) : (Nat × Nat) × (Int × Int × (Nat → Int)) := ((r.1.1, r.2.1.1), (r.1.2.1, r.1.2.2.2.2.2.1, r.2.1.2))
def back_laws_markByteS_L_0 (c : Nat × Nat) (w : Int × Int × (Nat → Int)) : St RT den := ⟨[(.os 0 c.1), (.int .i64 w.1), .dead, .dead, .dead, (.int .i64 w.2.1), .dead, .dead, .dead, .dead, .dead, .dead, .dead, .dead, .dead, .dead, .dead, .dead, .dead, .dead], [(.row true .u8 c.2 w.2.2)]⟩
def Bk_laws_markByteS_L_0 {ρ : Type} (fu : Nat) (c : Nat × Nat) (k : Ex → St RT den → Option ρ) (w : Int × Int × (Nat → Int)) (go : (Int × Int × (Nat → Int)) → Option ρ) : Option ρ := F_laws_markByteS_L_B0 fu c.1 c.2 (fun a0 a1 => k (.exit 0) ⟨[.dead, (.int .i64 a0), .dead, .dead, .dead, .dead, .dead, .dead, .dead, .dead, .dead, .dead, .dead, .dead, .dead, .dead, .dead, .dead, .dead, .dead], [(.row true .u8 c.2 a1)]⟩) w.1 w.2.1 w.2.2 (fun q0 q1 q2 => go (q0, q1, q2))
def lp_laws_markByteS_L (fu : Nat) : Lp RT den (Int × (Nat × (Nat → Int))) := fun b s k => match b with | 0 => handle ps_laws_markByteS_L_0 os_laws_markByteS_L_0 conv_laws_markByteS_L_0 (Bk_laws_markByteS_L_0 fu) fu s k | _ => none
def out_laws_markByteS_L (d : D RT den) (os : List (Ob RT den)) : Option (Int × (Nat × (Nat → Int))) := match d, os with | .int .i64 a0_0, [.row true .u8 n0 f0] => some (a0_0, (n0, f0)) | _, _ => none
def enc_laws_markByteS_L (y : Int × (Nat × (Nat → Int))) : D RT den × List (Ob RT den) := ((.int .i64 y.1), [(.row true .u8 y.2.1 y.2.2)])
theorem out_laws_markByteS_L_enc (d : D RT den) (os : List (Ob RT den)) (y : Int × (Nat × (Nat → Int))) (h : out_laws_markByteS_L d os = some y) : (unh 1 d).1 = (enc_laws_markByteS_L y).1 ∧ os ++ (unh 1 d).2 = (enc_laws_markByteS_L y).2 := by
  unfold out_laws_markByteS_L at h
  split at h
  · cases h; exact ⟨rfl, rfl⟩
  · cases h
theorem ev_laws_markByteS_L (fu : Nat) (a_0_0 : Nat) (k_1_1 : Int) (rn0 : Nat) (rf0 : (Nat → Int)) : evFunX E (pc_laws_markByteS_L fu) msk_laws_markByteS_L (lp_laws_markByteS_L fu) out_laws_markByteS_L 20 [(.os 0 a_0_0), (.int .i64 k_1_1)] [(.row true .u8 rn0 rf0)] = F_laws_markByteS_L fu a_0_0 k_1_1 rn0 rf0 := by kernel_rfl
noncomputable def body_laws_markByteS_L : Code := Try.f20.body.getD .skip
noncomputable def lc_laws_markByteS_L_0 : Code := ((loops 0 body_laws_markByteS_L).getD 0 (0, .skip)).2
theorem round_laws_markByteS_L_0 (fu : Nat) (it : St RT den → Option (Int × (Nat × (Nat → Int)))) (k : Ex → St RT den → Option (Int × (Nat × (Nat → Int)))) c w : evCode E (pc_laws_markByteS_L fu) msk_laws_markByteS_L (lp_laws_markByteS_L fu) 0 lc_laws_markByteS_L_0 (back_laws_markByteS_L_0 c w) (after (msk_laws_markByteS_L 0) (msk_laws_markByteS_L 100000) 1 it k) = Bk_laws_markByteS_L_0 fu c k w (fun w => it (back_laws_markByteS_L_0 c w)) := by kernel_rfl
theorem lpok_laws_markByteS_L_0 (fu : Nat) : ∀ s k r, lp_laws_markByteS_L fu 0 s k = some r → ∃ fuel, iter (msk_laws_markByteS_L 0) (msk_laws_markByteS_L 100000) s.objs.length (evCode E (pc_laws_markByteS_L fu) msk_laws_markByteS_L (lp_laws_markByteS_L fu) 0 lc_laws_markByteS_L_0) fuel s k = some r :=
  handle_ok (ps := ps_laws_markByteS_L_0) (os := os_laws_markByteS_L_0) (conv := conv_laws_markByteS_L_0) (B := Bk_laws_markByteS_L_0 fu) (fu := fu) back_laws_markByteS_L_0 (fun raw => by kernel_rfl) 1 (fun c w => by kernel_rfl) (round_laws_markByteS_L_0 fu)
theorem lpok_laws_markByteS_L (fu : Nat) : LpOk E (pc_laws_markByteS_L fu) msk_laws_markByteS_L (lp_laws_markByteS_L fu) (loops 0 body_laws_markByteS_L) := loop_all 1 (by kernel_rfl) fun i hi => match i, hi with
  | 0, _ => by
    have h : (loops 0 body_laws_markByteS_L).getD 0 (0, .skip) = (0, lc_laws_markByteS_L_0) := by kernel_rfl
    rw [h]; exact lpok_laws_markByteS_L_0 fu
  | i + 1, hi => absurd hi (by omega)
def S_laws_markByteS_L (fu : Nat) (xs : List (D RT den)) (ins : List (Ob RT den)) : Option (OutX RT den) := match xs, ins with | [.os 0 a0_0, .int .i64 a1_0], [.row true .u8 rn0 rf0] => some ⟨Int × (Nat × (Nat → Int)), F_laws_markByteS_L fu a0_0 a1_0 rn0 rf0, enc_laws_markByteS_L⟩ | _, _ => none
theorem hpc_laws_markByteS_L (fu : Nat) : ∀ f xs o, pcf_laws_markByteS_L fu f xs = some o → ∀ y, o.x = some y → Good E Try.prog f xs (o.g y) := by
  intro f xs o h
  cases h
theorem hpx_laws_markByteS_L (fu : Nat) : ∀ f xs ins o, pcx_laws_markByteS_L fu f xs ins = some o → ∀ y, o.x = some y → GoodX E Try.prog f xs ins (o.g y).1 (o.g y).2 := by
  intro f xs ins o h
  cases h
theorem goodv_laws_markByteS_L (fu : Nat) (a_0_0 : Nat) (k_1_1 : Int) (rn0 : Nat) (rf0 : (Nat → Int)) (y : Int × (Nat × (Nat → Int))) (hy : F_laws_markByteS_L fu a_0_0 k_1_1 rn0 rf0 = some y) : GoodX E Try.prog 20 [(.os 0 a_0_0), (.int .i64 k_1_1)] [(.row true .u8 rn0 rf0)] (enc_laws_markByteS_L y).1 (enc_laws_markByteS_L y).2 :=
  funX_good E_ok (pc_good (pc := pc_laws_markByteS_L fu) (hpc_laws_markByteS_L fu) (hpx_laws_markByteS_L fu)) (fn := Try.f20) (c := body_laws_markByteS_L) (out := out_laws_markByteS_L) (y := y) (by kernel_rfl) (by kernel_rfl) (by kernel_rfl) (lpok_laws_markByteS_L fu) (by kernel_rfl) (Nat.le_refl _) (fun d os hd => out_laws_markByteS_L_enc d os _ hd) ((ev_laws_markByteS_L fu a_0_0 k_1_1 rn0 rf0).trans hy)
theorem good_laws_markByteS_L (fu : Nat) : ∀ xs ins o, S_laws_markByteS_L fu xs ins = some o → ∀ y, o.x = some y → GoodX E Try.prog 20 xs ins (o.g y).1 (o.g y).2 := by
  intro xs ins o h y hy
  unfold S_laws_markByteS_L at h
  split at h
  · rename_i a0_0 a1_0 rn0 rf0
    cases h
    exact goodv_laws_markByteS_L fu a0_0 a1_0 rn0 rf0 y hy
  · cases h

/-! laws.markBackendS -/
def F_laws_markBackendS_L_B0 {ρ : Type} (fu : Nat) (a0_0 : Nat) (on0_3 : Nat) (k0 : Int → (Nat → S_impl_Backend) → Option ρ) (k1_1 : Int) (i5_2 : Int) (of0_4 : (Nat → S_impl_Backend)) (go : Int → Int → (Nat → S_impl_Backend) → Option ρ) : Option ρ :=
  (bif (decide (i5_2 < ((a0_0 : Nat) : Int))) then ((bif (decide (0 ≤ i5_2) && decide ((Int.toNat i5_2) < a0_0)) then some () else none : Option Unit).bind fun _ => ((bif (decide (0 ≤ i5_2) &&
    decide ((Int.toNat i5_2) < a0_0)) then some () else none : Option Unit).bind fun _ => ((bif (decide (0 ≤ i5_2) && decide ((Int.toNat i5_2) < a0_0)) then some () else none : Option Unit).bind fun _ =>
    ((bif (decide (0 ≤ i5_2) && decide ((Int.toNat i5_2) < a0_0)) then some () else none : Option Unit).bind fun _ => ((bif (decide (0 ≤ i5_2) && decide ((Int.toNat i5_2) < a0_0)) then
    some () else none : Option Unit).bind fun _ => (go (IntKind.wrap .i64 ((IntKind.wrap .i64 ((IntKind.wrap .i64 ((IntKind.wrap .i64 ((IntKind.wrap .i64 (k1_1 + 1)) + 1)) + 1)) + 1)) + 1)) (IntKind.wrap .i64 (i5_2 + 1)) (upd_impl_Backend_4_1 (upd_impl_Backend_3_1 (upd_impl_Backend_2_1 (upd_impl_Backend_1_1 (upd_impl_Backend_0_1 of0_4 (Int.toNat i5_2) k1_1) (Int.toNat i5_2) (IntKind.wrap .i64 (k1_1 + 1))) (Int.toNat i5_2) (IntKind.wrap .i64 ((IntKind.wrap .i64 (k1_1 + 1)) + 1))) (Int.toNat i5_2) (IntKind.wrap .i64 ((IntKind.wrap .i64 ((IntKind.wrap .i64 (k1_1 + 1)) + 1)) + 1))) (Int.toNat i5_2) ((Int.tmod (IntKind.wrap .i64 ((IntKind.wrap .i64 ((IntKind.wrap .i64 ((IntKind.wrap .i64 (k1_1 + 1)) + 1)) + 1)) + 1)) 3) == 0)))))))) else
    (k0 k1_1 of0_4))
def F_laws_markBackendS_L (fu : Nat) (a_0_0 : Nat) (k_1_1 : Int) (rn0 : Nat) (rf0 : (Nat → S_impl_Backend)) : Option (Int × (Nat × (Nat → S_impl_Backend))) :=
  (L (fun w0 go0 => F_laws_markBackendS_L_B0 fu a_0_0 rn0 (fun z14 z15 => (some (z14, (rn0, z15)))) w0.1 w0.2.1 w0.2.2 (fun q0 q1 q2 => go0 (q0, q1, q2))) fu ((k_1_1, 0, rf0) : Int × Int × (Nat → S_impl_Backend)))
def pcf_laws_markBackendS_L (fu : Nat) (f : Nat) (xs : List (D RT den)) : Option (Out RT den) := none
def pcx_laws_markBackendS_L (fu : Nat) (f : Nat) (xs : List (D RT den)) (ins : List (Ob RT den)) : Option (OutX RT den) := none
def pc_laws_markBackendS_L (fu : Nat) : Pc RT den := ⟨pcf_laws_markBackendS_L fu, fun _ => false, fun _ => false, pcx_laws_markBackendS_L fu⟩
def msk_laws_markBackendS_L (b : Nat) : List Nat := match b with | 0 => [2, 3, 4, 6, 7, 8, 9, 10, 11, 12, 13, 14, 15, 16, 17, 18, 19, 20, 21, 22, 23, 24, 25, 26, 27, 28, 29, 30, 31, 32, 33, 34, 35, 36, 37, 38, 39, 40, 41, 42, 43, 44, 45, 46, 47, 48, 49] | 100000 => [0, 2, 3, 5, 6, 7, 8, 9, 10, 11, 12, 13, 14, 15, 16, 17, 18, 19, 20, 21, 22, 23, 24, 25, 26, 27, 28, 29, 30, 31, 32, 33, 34, 35, 36, 37, 38, 39, 40, 41, 42, 43, 44, 45, 46, 47, 48, 49] | _ => []
def ps_laws_markBackendS_L_0 : List (Pat RT) := [.flat (.os 0), .flat (.int .i64), .flat .dead, .flat .dead, .flat .dead, .flat (.int .i64), .flat .dead, .flat .dead, .flat .dead, .flat .dead, .flat .dead, .flat .dead, .flat .dead, .flat .dead, .flat .dead, .flat .dead, .flat .dead, .flat .dead, .flat .dead, .flat .dead, .flat .dead, .flat .dead, .flat .dead, .flat .dead, .flat .dead, .flat .dead, .flat .dead, .flat .dead, .flat .dead, .flat .dead, .flat .dead, .flat .dead, .flat .dead, .flat .dead, .flat .dead, .flat .dead, .flat .dead, .flat .dead, .flat .dead, .flat .dead, .flat .dead, .flat .dead, .flat .dead, .flat .dead, .flat .dead, .flat .dead, .flat .dead, .flat .dead, .flat .dead, .flat .dead]
def os_laws_markBackendS_L_0 : List (OP RT) := [.row true .impl_Backend]
def conv_laws_markBackendS_L_0 (r : Raw den ps_laws_markBackendS_L_0 os_laws_markBackendS_L_0) : (Nat × Nat) × (Int × Int × (Nat → S_impl_Backend)) := ((r.1.1, r.2.1.1), (r.1.2.1, r.1.2.2.2.2.2.1, r.2.1.2))
def back_laws_markBackendS_L_0 (c : Nat × Nat) (w : Int × Int × (Nat → S_impl_Backend)) : St RT den := ⟨[(.os 0 c.1), (.int .i64 w.1), .dead, .dead, .dead, (.int .i64 w.2.1), .dead, .dead, .dead, .dead, .dead, .dead, .dead, .dead, .dead, .dead, .dead, .dead, .dead, .dead, .dead, .dead, .dead, .dead, .dead, .dead, .dead, .dead, .dead, .dead, .dead, .dead, .dead, .dead, .dead, .dead, .dead, .dead, .dead, .dead, .dead, .dead, .dead, .dead, .dead, .dead, .dead, .dead, .dead, .dead], [(.row true .impl_Backend c.2 w.2.2)]⟩
def Bk_laws_markBackendS_L_0 {ρ : Type} (fu : Nat) (c : Nat × Nat) (k : Ex → St RT den → Option ρ) (w : Int × Int × (Nat → S_impl_Backend)) (go : (Int × Int × (Nat → S_impl_Backend)) → Option ρ) : Option ρ := F_laws_markBackendS_L_B0 fu c.1 c.2 (fun a0 a1 => k (.exit 0) ⟨[.dead, (.int .i64 a0), .dead, .dead, .dead, .dead, .dead, .dead, .dead, .dead, .dead, .dead, .dead, .dead, .dead, .dead, .dead, .dead, .dead, .dead, .dead, .dead, .dead, .dead, .dead, .dead, .dead, .dead, .dead, .dead, .dead, .dead, .dead, .dead, .dead, .dead, .dead, .dead, .dead, .dead, .dead, .dead, .dead, .dead, .dead, .dead, .dead, .dead, .dead, .dead], [(.row true .impl_Backend c.2 a1)]⟩) w.1 w.2.1 w.2.2 (fun q0 q1 q2 => go (q0, q1, q2))
def lp_laws_markBackendS_L (fu : Nat) : Lp RT den (Int × (Nat × (Nat → S_impl_Backend))) := fun b s k => match b with | 0 => handle ps_laws_markBackendS_L_0 os_laws_markBackendS_L_0 conv_laws_markBackendS_L_0 (Bk_laws_markBackendS_L_0 fu) fu s k | _ => none
def out_laws_markBackendS_L (d : D RT den) (os : List (Ob RT den)) : Option (Int × (Nat × (Nat → S_impl_Backend))) := match d, os with | .int .i64 a0_0, [.row true .impl_Backend n0 f0] => some (a0_0, (n0, f0)) | _, _ => none
def enc_laws_markBackendS_L (y : Int × (Nat × (Nat → S_impl_Backend))) : D RT den × List (Ob RT den) := ((.int .i64 y.1), [(.row true .impl_Backend y.2.1 y.2.2)])
theorem out_laws_markBackendS_L_enc (d : D RT den) (os : List (Ob RT den)) (y : Int × (Nat × (Nat → S_impl_Backend))) (h : out_laws_markBackendS_L d os = some y) : (unh 1 d).1 = (enc_laws_markBackendS_L y).1 ∧ os ++ (unh 1 d).2 = (enc_laws_markBackendS_L y).2 := by
  unfold out_laws_markBackendS_L at h
  split at h
  · cases h; exact ⟨rfl, rfl⟩
  · cases h
theorem ev_laws_markBackendS_L (fu : Nat) (a_0_0 : Nat) (k_1_1 : Int) (rn0 : Nat) (rf0 : (Nat → S_impl_Backend)) : evFunX E (pc_laws_markBackendS_L fu) msk_laws_markBackendS_L (lp_laws_markBackendS_L fu) out_laws_markBackendS_L 54 [(.os 0 a_0_0), (.int .i64 k_1_1)] [(.row true .impl_Backend rn0 rf0)] = F_laws_markBackendS_L fu a_0_0 k_1_1 rn0 rf0 := by kernel_rfl
noncomputable def body_laws_markBackendS_L : Code := Try.f54.body.getD .skip
noncomputable def lc_laws_markBackendS_L_0 : Code := ((loops 0 body_laws_markBackendS_L).getD 0 (0, .skip)).2
theorem round_laws_markBackendS_L_0 (fu : Nat) (it : St RT den → Option (Int × (Nat × (Nat → S_impl_Backend)))) (k : Ex → St RT den → Option (Int × (Nat × (Nat → S_impl_Backend)))) c w : evCode E (pc_laws_markBackendS_L fu) msk_laws_markBackendS_L (lp_laws_markBackendS_L fu) 0 lc_laws_markBackendS_L_0 (back_laws_markBackendS_L_0 c w) (after (msk_laws_markBackendS_L 0) (msk_laws_markBackendS_L 100000) 1 it k) = Bk_laws_markBackendS_L_0 fu c k w (fun w => it (back_laws_markBackendS_L_0 c w)) := by kernel_rfl
theorem lpok_laws_markBackendS_L_0 (fu : Nat) : ∀ s k r, lp_laws_markBackendS_L fu 0 s k = some r → ∃ fuel, iter (msk_laws_markBackendS_L 0) (msk_laws_markBackendS_L 100000) s.objs.length (evCode E (pc_laws_markBackendS_L fu) msk_laws_markBackendS_L (lp_laws_markBackendS_L fu) 0 lc_laws_markBackendS_L_0) fuel s k = some r :=
  handle_ok (ps := ps_laws_markBackendS_L_0) (os := os_laws_markBackendS_L_0) (conv := conv_laws_markBackendS_L_0) (B := Bk_laws_markBackendS_L_0 fu) (fu := fu) back_laws_markBackendS_L_0 (fun raw => by kernel_rfl) 1 (fun c w => by kernel_rfl) (round_laws_markBackendS_L_0 fu)
theorem lpok_laws_markBackendS_L (fu : Nat) : LpOk E (pc_laws_markBackendS_L fu) msk_laws_markBackendS_L (lp_laws_markBackendS_L fu) (loops 0 body_laws_markBackendS_L) := loop_all 1 (by kernel_rfl) fun i hi => match i, hi with
  | 0, _ => by
    have h : (loops 0 body_laws_markBackendS_L).getD 0 (0, .skip) = (0, lc_laws_markBackendS_L_0) := by kernel_rfl
    rw [h]; exact lpok_laws_markBackendS_L_0 fu
  | i + 1, hi => absurd hi (by omega)
def S_laws_markBackendS_L (fu : Nat) (xs : List (D RT den)) (ins : List (Ob RT den)) : Option (OutX RT den) := match xs, ins with | [.os 0 a0_0, .int .i64 a1_0], [.row true .impl_Backend rn0 rf0] => some ⟨Int × (Nat × (Nat → S_impl_Backend)), F_laws_markBackendS_L fu a0_0 a1_0 rn0 rf0, enc_laws_markBackendS_L⟩ | _, _ => none
theorem hpc_laws_markBackendS_L (fu : Nat) : ∀ f xs o, pcf_laws_markBackendS_L fu f xs = some o → ∀ y, o.x = some y → Good E Try.prog f xs (o.g y) := by
  intro f xs o h
  cases h
theorem hpx_laws_markBackendS_L (fu : Nat) : ∀ f xs ins o, pcx_laws_markBackendS_L fu f xs ins = some o → ∀ y, o.x = some y → GoodX E Try.prog f xs ins (o.g y).1 (o.g y).2 := by
  intro f xs ins o h
  cases h
theorem goodv_laws_markBackendS_L (fu : Nat) (a_0_0 : Nat) (k_1_1 : Int) (rn0 : Nat) (rf0 : (Nat → S_impl_Backend)) (y : Int × (Nat × (Nat → S_impl_Backend))) (hy : F_laws_markBackendS_L fu a_0_0 k_1_1 rn0 rf0 = some y) : GoodX E Try.prog 54 [(.os 0 a_0_0), (.int .i64 k_1_1)] [(.row true .impl_Backend rn0 rf0)] (enc_laws_markBackendS_L y).1 (enc_laws_markBackendS_L y).2 :=
  funX_good E_ok (pc_good (pc := pc_laws_markBackendS_L fu) (hpc_laws_markBackendS_L fu) (hpx_laws_markBackendS_L fu)) (fn := Try.f54) (c := body_laws_markBackendS_L) (out := out_laws_markBackendS_L) (y := y) (by kernel_rfl) (by kernel_rfl) (by kernel_rfl) (lpok_laws_markBackendS_L fu) (by kernel_rfl) (Nat.le_refl _) (fun d os hd => out_laws_markBackendS_L_enc d os _ hd) ((ev_laws_markBackendS_L fu a_0_0 k_1_1 rn0 rf0).trans hy)
theorem good_laws_markBackendS_L (fu : Nat) : ∀ xs ins o, S_laws_markBackendS_L fu xs ins = some o → ∀ y, o.x = some y → GoodX E Try.prog 54 xs ins (o.g y).1 (o.g y).2 := by
  intro xs ins o h y hy
  unfold S_laws_markBackendS_L at h
  split at h
  · rename_i a0_0 a1_0 rn0 rf0
    cases h
    exact goodv_laws_markBackendS_L fu a0_0 a1_0 rn0 rf0 y hy
  · cases h

/-! laws.markVipS -/
def F_laws_markVipS_L_B0 {ρ : Type} (fu : Nat) (k1_0 : Int) (i5_1 : Int) (k0 : Option ρ) (go : Unit → Option ρ) : Option ρ :=
  (bif (decide (i5_1 < 0)) then none else k0)
def F_laws_markVipS_L (fu : Nat) (k_1_0 : Int) : Option (Int) :=
  (L (fun w0 go0 => F_laws_markVipS_L_B0 fu k_1_0 0 (some (k_1_0))  go0) fu (() : Unit))
def pcf_laws_markVipS_L (fu : Nat) (f : Nat) (xs : List (D RT den)) : Option (Out RT den) := none
def pcx_laws_markVipS_L (fu : Nat) (f : Nat) (xs : List (D RT den)) (ins : List (Ob RT den)) : Option (OutX RT den) := none
def pc_laws_markVipS_L (fu : Nat) : Pc RT den := ⟨pcf_laws_markVipS_L fu, fun _ => false, fun _ => false, pcx_laws_markVipS_L fu⟩
def msk_laws_markVipS_L (b : Nat) : List Nat := match b with | 0 => [2, 3, 4, 6, 7, 8, 9, 10, 11, 12, 13, 14, 15, 16, 17, 18, 19, 20, 21, 22, 23, 24, 25, 26, 27, 28, 29, 30, 31, 32, 33, 34, 35, 36, 37, 38, 39, 40] | 100000 => [0, 2, 3, 5, 6, 7, 8, 9, 10, 11, 12, 13, 14, 15, 16, 17, 18, 19, 20, 21, 22, 23, 24, 25, 26, 27, 28, 29, 30, 31, 32, 33, 34, 35, 36, 37, 38, 39, 40] | _ => []
def ps_laws_markVipS_L_0 : List (Pat RT) := [.flat (.emp true .impl_Vip), .flat (.int .i64), .flat .dead, .flat .dead, .flat .dead, .flat (.int .i64), .flat .dead, .flat .dead, .flat .dead, .flat .dead, .flat .dead, .flat .dead, .flat .dead, .flat .dead, .flat .dead, .flat .dead, .flat .dead, .flat .dead, .flat .dead, .flat .dead, .flat .dead, .flat .dead, .flat .dead, .flat .dead, .flat .dead, .flat .dead, .flat .dead, .flat .dead, .flat .dead, .flat .dead, .flat .dead, .flat .dead, .flat .dead, .flat .dead, .flat .dead, .flat .dead, .flat .dead, .flat .dead, .flat .dead, .flat .dead, .flat .dead]
def os_laws_markVipS_L_0 : List (OP RT) := []
def conv_laws_markVipS_L_0 (r : Raw den ps_laws_markVipS_L_0 os_laws_markVipS_L_0) : (Int × Int) × (Unit) := ((r.1.2.1, r.1.2.2.2.2.2.1), ())
def back_laws_markVipS_L_0 (c : Int × Int) (w : Unit) : St RT den := ⟨[(.emp true .impl_Vip), (.int .i64 c.1), .dead, .dead, .dead, (.int .i64 c.2), .dead, .dead, .dead, .dead, .dead, .dead, .dead, .dead, .dead, .dead, .dead, .dead, .dead, .dead, .dead, .dead, .dead, .dead, .dead, .dead, .dead, .dead, .dead, .dead, .dead, .dead, .dead, .dead, .dead, .dead, .dead, .dead, .dead, .dead, .dead], []⟩
def Bk_laws_markVipS_L_0 {ρ : Type} (fu : Nat) (c : Int × Int) (k : Ex → St RT den → Option ρ) (w : Unit) (go : (Unit) → Option ρ) : Option ρ := F_laws_markVipS_L_B0 fu c.1 c.2 (k (.exit 0) ⟨[.dead, (.int .i64 c.1), .dead, .dead, .dead, .dead, .dead, .dead, .dead, .dead, .dead, .dead, .dead, .dead, .dead, .dead, .dead, .dead, .dead, .dead, .dead, .dead, .dead, .dead, .dead, .dead, .dead, .dead, .dead, .dead, .dead, .dead, .dead, .dead, .dead, .dead, .dead, .dead, .dead, .dead, .dead], []⟩)  go
def lp_laws_markVipS_L (fu : Nat) : Lp RT den (Int) := fun b s k => match b with | 0 => handle ps_laws_markVipS_L_0 os_laws_markVipS_L_0 conv_laws_markVipS_L_0 (Bk_laws_markVipS_L_0 fu) fu s k | _ => none
def out_laws_markVipS_L (d : D RT den) (os : List (Ob RT den)) : Option (Int) := match d, os with | .int .i64 a0_0, [] => some (a0_0) | _, _ => none
def enc_laws_markVipS_L (y : Int) : D RT den × List (Ob RT den) := ((.int .i64 y), [])
theorem out_laws_markVipS_L_enc (d : D RT den) (os : List (Ob RT den)) (y : Int) (h : out_laws_markVipS_L d os = some y) : (unh 0 d).1 = (enc_laws_markVipS_L y).1 ∧ os ++ (unh 0 d).2 = (enc_laws_markVipS_L y).2 := by
  unfold out_laws_markVipS_L at h
  split at h
  · cases h; exact ⟨rfl, rfl⟩
  · cases h
theorem ev_laws_markVipS_L (fu : Nat) (k_1_0 : Int) : evFunX E (pc_laws_markVipS_L fu) msk_laws_markVipS_L (lp_laws_markVipS_L fu) out_laws_markVipS_L 55 [(.emp true .impl_Vip), (.int .i64 k_1_0)] [] = F_laws_markVipS_L fu k_1_0 := by kernel_rfl
noncomputable def body_laws_markVipS_L : Code := Try.f55.body.getD .skip
noncomputable def lc_laws_markVipS_L_0 : Code := ((loops 0 body_laws_markVipS_L).getD 0 (0, .skip)).2
theorem round_laws_markVipS_L_0 (fu : Nat) (it : St RT den → Option (Int)) (k : Ex → St RT den → Option (Int)) c w : evCode E (pc_laws_markVipS_L fu) msk_laws_markVipS_L (lp_laws_markVipS_L fu) 0 lc_laws_markVipS_L_0 (back_laws_markVipS_L_0 c w) (after (msk_laws_markVipS_L 0) (msk_laws_markVipS_L 100000) 0 it k) = Bk_laws_markVipS_L_0 fu c k w (fun w => it (back_laws_markVipS_L_0 c w)) := by kernel_rfl
theorem lpok_laws_markVipS_L_0 (fu : Nat) : ∀ s k r, lp_laws_markVipS_L fu 0 s k = some r → ∃ fuel, iter (msk_laws_markVipS_L 0) (msk_laws_markVipS_L 100000) s.objs.length (evCode E (pc_laws_markVipS_L fu) msk_laws_markVipS_L (lp_laws_markVipS_L fu) 0 lc_laws_markVipS_L_0) fuel s k = some r :=
  handle_ok (ps := ps_laws_markVipS_L_0) (os := os_laws_markVipS_L_0) (conv := conv_laws_markVipS_L_0) (B := Bk_laws_markVipS_L_0 fu) (fu := fu) back_laws_markVipS_L_0 (fun raw => by kernel_rfl) 0 (fun c w => by kernel_rfl) (round_laws_markVipS_L_0 fu)
theorem lpok_laws_markVipS_L (fu : Nat) : LpOk E (pc_laws_markVipS_L fu) msk_laws_markVipS_L (lp_laws_markVipS_L fu) (loops 0 body_laws_markVipS_L) := loop_all 1 (by kernel_rfl) fun i hi => match i, hi with
  | 0, _ => by
    have h : (loops 0 body_laws_markVipS_L).getD 0 (0, .skip) = (0, lc_laws_markVipS_L_0) := by kernel_rfl
    rw [h]; exact lpok_laws_markVipS_L_0 fu
  | i + 1, hi => absurd hi (by omega)
def S_laws_markVipS_L (fu : Nat) (xs : List (D RT den)) (ins : List (Ob RT den)) : Option (OutX RT den) := match xs, ins with | [.emp true .impl_Vip, .int .i64 a1_0], [] => some ⟨Int, F_laws_markVipS_L fu a1_0, enc_laws_markVipS_L⟩ | _, _ => none
theorem hpc_laws_markVipS_L (fu : Nat) : ∀ f xs o, pcf_laws_markVipS_L fu f xs = some o → ∀ y, o.x = some y → Good E Try.prog f xs (o.g y) := by
  intro f xs o h
  cases h
theorem hpx_laws_markVipS_L (fu : Nat) : ∀ f xs ins o, pcx_laws_markVipS_L fu f xs ins = some o → ∀ y, o.x = some y → GoodX E Try.prog f xs ins (o.g y).1 (o.g y).2 := by
  intro f xs ins o h
  cases h
theorem goodv_laws_markVipS_L (fu : Nat) (k_1_0 : Int) (y : Int) (hy : F_laws_markVipS_L fu k_1_0 = some y) : GoodX E Try.prog 55 [(.emp true .impl_Vip), (.int .i64 k_1_0)] [] (enc_laws_markVipS_L y).1 (enc_laws_markVipS_L y).2 :=
  funX_good E_ok (pc_good (pc := pc_laws_markVipS_L fu) (hpc_laws_markVipS_L fu) (hpx_laws_markVipS_L fu)) (fn := Try.f55) (c := body_laws_markVipS_L) (out := out_laws_markVipS_L) (y := y) (by kernel_rfl) (by kernel_rfl) (by kernel_rfl) (lpok_laws_markVipS_L fu) (by kernel_rfl) (Nat.le_refl _) (fun d os hd => out_laws_markVipS_L_enc d os _ hd) ((ev_laws_markVipS_L fu k_1_0).trans hy)
theorem good_laws_markVipS_L (fu : Nat) : ∀ xs ins o, S_laws_markVipS_L fu xs ins = some o → ∀ y, o.x = some y → GoodX E Try.prog 55 xs ins (o.g y).1 (o.g y).2 := by
  intro xs ins o h y hy
  unfold S_laws_markVipS_L at h
  split at h
  · rename_i a1_0
    cases h
    exact goodv_laws_markVipS_L fu a1_0 y hy
  · cases h

/-! laws.markConfig -/
def F_laws_markConfig_L (fu : Nat) (a_0_0 : Int) (a_0_1 : Nat) (k_1_2 : Int) (rn0 : Nat) (rf0 : (Nat → S_impl_Backend)) : Option (Int × (Nat × (Nat → S_impl_Backend))) :=
  ((F_laws_markBackendS_L fu a_0_1 k_1_2 rn0 rf0).bind fun y16 => ((F_laws_markVipS_L fu y16.1).bind fun y17 => (some (y17, (y16.2.1, y16.2.2)))))
def pcf_laws_markConfig_L (fu : Nat) (f : Nat) (xs : List (D RT den)) : Option (Out RT den) := none
def pcx_laws_markConfig_L (fu : Nat) (f : Nat) (xs : List (D RT den)) (ins : List (Ob RT den)) : Option (OutX RT den) := match f with | 54 => S_laws_markBackendS_L fu xs ins | 55 => S_laws_markVipS_L fu xs ins | _ => none
def pc_laws_markConfig_L (fu : Nat) : Pc RT den := ⟨pcf_laws_markConfig_L fu, fun f => match f with | 54 => true | 55 => true | _ => false, fun f => match f with | 54 => true | 55 => true | _ => false, pcx_laws_markConfig_L fu⟩
def msk_laws_markConfig_L (b : Nat) : List Nat := []
def lp_laws_markConfig_L (fu : Nat) : Lp RT den (Int × (Nat × (Nat → S_impl_Backend))) := fun b s k => none
def out_laws_markConfig_L (d : D RT den) (os : List (Ob RT den)) : Option (Int × (Nat × (Nat → S_impl_Backend))) := match d, os with | .int .i64 a0_0, [.row true .impl_Backend n0 f0] => some (a0_0, (n0, f0)) | _, _ => none
def enc_laws_markConfig_L (y : Int × (Nat × (Nat → S_impl_Backend))) : D RT den × List (Ob RT den) := ((.int .i64 y.1), [(.row true .impl_Backend y.2.1 y.2.2)])
theorem out_laws_markConfig_L_enc (d : D RT den) (os : List (Ob RT den)) (y : Int × (Nat × (Nat → S_impl_Backend))) (h : out_laws_markConfig_L d os = some y) : (unh 1 d).1 = (enc_laws_markConfig_L y).1 ∧ os ++ (unh 1 d).2 = (enc_laws_markConfig_L y).2 := by
  unfold out_laws_markConfig_L at h
  split at h
  · cases h; exact ⟨rfl, rfl⟩
  · cases h
theorem ev_laws_markConfig_L (fu : Nat) (a_0_0 : Int) (a_0_1 : Nat) (k_1_2 : Int) (rn0 : Nat) (rf0 : (Nat → S_impl_Backend)) : evFunX E (pc_laws_markConfig_L fu) msk_laws_markConfig_L (lp_laws_markConfig_L fu) out_laws_markConfig_L 49 [(.agg [(.int .i64 a_0_0), (.os 0 a_0_1), (.emp true .impl_Vip)]), (.int .i64 k_1_2)] [(.row true .impl_Backend rn0 rf0)] = F_laws_markConfig_L fu a_0_0 a_0_1 k_1_2 rn0 rf0 := by kernel_rfl
noncomputable def body_laws_markConfig_L : Code := Try.f49.body.getD .skip
theorem lpok_laws_markConfig_L (fu : Nat) : LpOk E (pc_laws_markConfig_L fu) msk_laws_markConfig_L (lp_laws_markConfig_L fu) (loops 0 body_laws_markConfig_L) := by
  have h : loops 0 body_laws_markConfig_L = [] := by kernel_rfl
  rw [h]; intro p hp; cases hp
def S_laws_markConfig_L (fu : Nat) (xs : List (D RT den)) (ins : List (Ob RT den)) : Option (OutX RT den) := match xs, ins with | [.agg [.int .i64 a0_0, .os 0 a0_1, .emp true .impl_Vip], .int .i64 a1_0], [.row true .impl_Backend rn0 rf0] => some ⟨Int × (Nat × (Nat → S_impl_Backend)), F_laws_markConfig_L fu a0_0 a0_1 a1_0 rn0 rf0, enc_laws_markConfig_L⟩ | _, _ => none
theorem hpc_laws_markConfig_L (fu : Nat) : ∀ f xs o, pcf_laws_markConfig_L fu f xs = some o → ∀ y, o.x = some y → Good E Try.prog f xs (o.g y) := by
  intro f xs o h
  cases h
theorem hpx_laws_markConfig_L (fu : Nat) : ∀ f xs ins o, pcx_laws_markConfig_L fu f xs ins = some o → ∀ y, o.x = some y → GoodX E Try.prog f xs ins (o.g y).1 (o.g y).2 := by
  intro f xs ins o h
  unfold pcx_laws_markConfig_L at h
  split at h
  · exact good_laws_markBackendS_L fu xs ins o h
  · exact good_laws_markVipS_L fu xs ins o h
  · cases h
theorem goodv_laws_markConfig_L (fu : Nat) (a_0_0 : Int) (a_0_1 : Nat) (k_1_2 : Int) (rn0 : Nat) (rf0 : (Nat → S_impl_Backend)) (y : Int × (Nat × (Nat → S_impl_Backend))) (hy : F_laws_markConfig_L fu a_0_0 a_0_1 k_1_2 rn0 rf0 = some y) : GoodX E Try.prog 49 [(.agg [(.int .i64 a_0_0), (.os 0 a_0_1), (.emp true .impl_Vip)]), (.int .i64 k_1_2)] [(.row true .impl_Backend rn0 rf0)] (enc_laws_markConfig_L y).1 (enc_laws_markConfig_L y).2 :=
  funX_good E_ok (pc_good (pc := pc_laws_markConfig_L fu) (hpc_laws_markConfig_L fu) (hpx_laws_markConfig_L fu)) (fn := Try.f49) (c := body_laws_markConfig_L) (out := out_laws_markConfig_L) (y := y) (by kernel_rfl) (by kernel_rfl) (by kernel_rfl) (lpok_laws_markConfig_L fu) (by kernel_rfl) (Nat.le_refl _) (fun d os hd => out_laws_markConfig_L_enc d os _ hd) ((ev_laws_markConfig_L fu a_0_0 a_0_1 k_1_2 rn0 rf0).trans hy)
theorem good_laws_markConfig_L (fu : Nat) : ∀ xs ins o, S_laws_markConfig_L fu xs ins = some o → ∀ y, o.x = some y → GoodX E Try.prog 49 xs ins (o.g y).1 (o.g y).2 := by
  intro xs ins o h y hy
  unfold S_laws_markConfig_L at h
  split at h
  · rename_i a0_0 a0_1 a1_0 rn0 rf0
    cases h
    exact goodv_laws_markConfig_L fu a0_0 a0_1 a1_0 rn0 rf0 y hy
  · cases h

/-! laws.markWatch -/
def F_laws_markWatch_L (fu : Nat) (a_0_0 : Bool) (a_0_1 : Int) (a_0_2 : Nat) (k_1_3 : Int) (rn0 : Nat) (rf0 : (Nat → S_impl_Backend)) : Option (Int × (Nat × (Nat → S_impl_Backend))) :=
  ((F_laws_markConfig_L fu a_0_1 a_0_2 k_1_3 rn0 rf0).bind fun y18 => (some (y18.1, (y18.2.1, y18.2.2))))
def pcf_laws_markWatch_L (fu : Nat) (f : Nat) (xs : List (D RT den)) : Option (Out RT den) := none
def pcx_laws_markWatch_L (fu : Nat) (f : Nat) (xs : List (D RT den)) (ins : List (Ob RT den)) : Option (OutX RT den) := match f with | 49 => S_laws_markConfig_L fu xs ins | _ => none
def pc_laws_markWatch_L (fu : Nat) : Pc RT den := ⟨pcf_laws_markWatch_L fu, fun f => match f with | 49 => true | _ => false, fun f => match f with | 49 => true | _ => false, pcx_laws_markWatch_L fu⟩
def msk_laws_markWatch_L (b : Nat) : List Nat := []
def lp_laws_markWatch_L (fu : Nat) : Lp RT den (Int × (Nat × (Nat → S_impl_Backend))) := fun b s k => none
def out_laws_markWatch_L (d : D RT den) (os : List (Ob RT den)) : Option (Int × (Nat × (Nat → S_impl_Backend))) := match d, os with | .int .i64 a0_0, [.row true .impl_Backend n0 f0] => some (a0_0, (n0, f0)) | _, _ => none
def enc_laws_markWatch_L (y : Int × (Nat × (Nat → S_impl_Backend))) : D RT den × List (Ob RT den) := ((.int .i64 y.1), [(.row true .impl_Backend y.2.1 y.2.2)])
theorem out_laws_markWatch_L_enc (d : D RT den) (os : List (Ob RT den)) (y : Int × (Nat × (Nat → S_impl_Backend))) (h : out_laws_markWatch_L d os = some y) : (unh 1 d).1 = (enc_laws_markWatch_L y).1 ∧ os ++ (unh 1 d).2 = (enc_laws_markWatch_L y).2 := by
  unfold out_laws_markWatch_L at h
  split at h
  · cases h; exact ⟨rfl, rfl⟩
  · cases h
theorem ev_laws_markWatch_L (fu : Nat) (a_0_0 : Bool) (a_0_1 : Int) (a_0_2 : Nat) (k_1_3 : Int) (rn0 : Nat) (rf0 : (Nat → S_impl_Backend)) : evFunX E (pc_laws_markWatch_L fu) msk_laws_markWatch_L (lp_laws_markWatch_L fu) out_laws_markWatch_L 34 [(.agg [(.bool a_0_0), (.int .i64 a_0_1), (.os 0 a_0_2), (.emp true .impl_Vip)]), (.int .i64 k_1_3)] [(.row true .impl_Backend rn0 rf0)] = F_laws_markWatch_L fu a_0_0 a_0_1 a_0_2 k_1_3 rn0 rf0 := by kernel_rfl
noncomputable def body_laws_markWatch_L : Code := Try.f34.body.getD .skip
theorem lpok_laws_markWatch_L (fu : Nat) : LpOk E (pc_laws_markWatch_L fu) msk_laws_markWatch_L (lp_laws_markWatch_L fu) (loops 0 body_laws_markWatch_L) := by
  have h : loops 0 body_laws_markWatch_L = [] := by kernel_rfl
  rw [h]; intro p hp; cases hp
def S_laws_markWatch_L (fu : Nat) (xs : List (D RT den)) (ins : List (Ob RT den)) : Option (OutX RT den) := match xs, ins with | [.agg [.bool a0_0, .int .i64 a0_1, .os 0 a0_2, .emp true .impl_Vip], .int .i64 a1_0], [.row true .impl_Backend rn0 rf0] => some ⟨Int × (Nat × (Nat → S_impl_Backend)), F_laws_markWatch_L fu a0_0 a0_1 a0_2 a1_0 rn0 rf0, enc_laws_markWatch_L⟩ | _, _ => none
theorem hpc_laws_markWatch_L (fu : Nat) : ∀ f xs o, pcf_laws_markWatch_L fu f xs = some o → ∀ y, o.x = some y → Good E Try.prog f xs (o.g y) := by
  intro f xs o h
  cases h
theorem hpx_laws_markWatch_L (fu : Nat) : ∀ f xs ins o, pcx_laws_markWatch_L fu f xs ins = some o → ∀ y, o.x = some y → GoodX E Try.prog f xs ins (o.g y).1 (o.g y).2 := by
  intro f xs ins o h
  unfold pcx_laws_markWatch_L at h
  split at h
  · exact good_laws_markConfig_L fu xs ins o h
  · cases h
theorem goodv_laws_markWatch_L (fu : Nat) (a_0_0 : Bool) (a_0_1 : Int) (a_0_2 : Nat) (k_1_3 : Int) (rn0 : Nat) (rf0 : (Nat → S_impl_Backend)) (y : Int × (Nat × (Nat → S_impl_Backend))) (hy : F_laws_markWatch_L fu a_0_0 a_0_1 a_0_2 k_1_3 rn0 rf0 = some y) : GoodX E Try.prog 34 [(.agg [(.bool a_0_0), (.int .i64 a_0_1), (.os 0 a_0_2), (.emp true .impl_Vip)]), (.int .i64 k_1_3)] [(.row true .impl_Backend rn0 rf0)] (enc_laws_markWatch_L y).1 (enc_laws_markWatch_L y).2 :=
  funX_good E_ok (pc_good (pc := pc_laws_markWatch_L fu) (hpc_laws_markWatch_L fu) (hpx_laws_markWatch_L fu)) (fn := Try.f34) (c := body_laws_markWatch_L) (out := out_laws_markWatch_L) (y := y) (by kernel_rfl) (by kernel_rfl) (by kernel_rfl) (lpok_laws_markWatch_L fu) (by kernel_rfl) (Nat.le_refl _) (fun d os hd => out_laws_markWatch_L_enc d os _ hd) ((ev_laws_markWatch_L fu a_0_0 a_0_1 a_0_2 k_1_3 rn0 rf0).trans hy)
theorem good_laws_markWatch_L (fu : Nat) : ∀ xs ins o, S_laws_markWatch_L fu xs ins = some o → ∀ y, o.x = some y → GoodX E Try.prog 34 xs ins (o.g y).1 (o.g y).2 := by
  intro xs ins o h y hy
  unfold S_laws_markWatch_L at h
  split at h
  · rename_i a0_0 a0_1 a0_2 a1_0 rn0 rf0
    cases h
    exact goodv_laws_markWatch_L fu a0_0 a0_1 a0_2 a1_0 rn0 rf0 y hy
  · cases h

/-! laws.markInt64SS -/
def F_laws_markInt64SS_L_B0 {ρ : Type} (fu : Nat) (k1_0 : Int) (i5_1 : Int) (k0 : Option ρ) (go : Unit → Option ρ) : Option ρ :=
  (bif (decide (i5_1 < 0)) then none else k0)
def F_laws_markInt64SS_L (fu : Nat) (k_1_0 : Int) : Option (Int) :=
  (L (fun w0 go0 => F_laws_markInt64SS_L_B0 fu k_1_0 0 (some (k_1_0))  go0) fu (() : Unit))
def pcf_laws_markInt64SS_L (fu : Nat) (f : Nat) (xs : List (D RT den)) : Option (Out RT den) := none
def pcx_laws_markInt64SS_L (fu : Nat) (f : Nat) (xs : List (D RT den)) (ins : List (Ob RT den)) : Option (OutX RT den) := none
def pc_laws_markInt64SS_L (fu : Nat) : Pc RT den := ⟨pcf_laws_markInt64SS_L fu, fun _ => false, fun _ => false, pcx_laws_markInt64SS_L fu⟩
def msk_laws_markInt64SS_L (b : Nat) : List Nat := match b with | 0 => [2, 3, 4, 6, 7, 8, 9, 10, 11, 12, 13, 14, 15, 16, 17, 18] | 100000 => [0, 2, 3, 5, 6, 7, 8, 9, 10, 11, 12, 13, 14, 15, 16, 17, 18] | _ => []
def ps_laws_markInt64SS_L_0 : List (Pat RT) := [.flat (.emp true .sl_i64), .flat (.int .i64), .flat .dead, .flat .dead, .flat .dead, .flat (.int .i64), .flat .dead, .flat .dead, .flat .dead, .flat .dead, .flat .dead, .flat .dead, .flat .dead, .flat .dead, .flat .dead, .flat .dead, .flat .dead, .flat .dead, .flat .dead]
def os_laws_markInt64SS_L_0 : List (OP RT) := []
def conv_laws_markInt64SS_L_0 (r : Raw den ps_laws_markInt64SS_L_0 os_laws_markInt64SS_L_0) : (Int × Int) × (Unit) := ((r.1.2.1, r.1.2.2.2.2.2.1), ())
def back_laws_markInt64SS_L_0 (c : Int × Int) (w : Unit) : St RT den := ⟨[(.emp true .sl_i64), (.int .i64 c.1), .dead, .dead, .dead, (.int .i64 c.2), .dead, .dead, .dead, .dead, .dead, .dead, .dead, .dead, .dead, .dead, .dead, .dead, .dead], []⟩
def Bk_laws_markInt64SS_L_0 {ρ : Type} (fu : Nat) (c : Int × Int) (k : Ex → St RT den → Option ρ) (w : Unit) (go : (Unit) → Option ρ) : Option ρ := F_laws_markInt64SS_L_B0 fu c.1 c.2 (k (.exit 0) ⟨[.dead, (.int .i64 c.1), .dead, .dead, .dead, .dead, .dead, .dead, .dead, .dead, .dead, .dead, .dead, .dead, .dead, .dead, .dead, .dead, .dead], []⟩)  go
def lp_laws_markInt64SS_L (fu : Nat) : Lp RT den (Int) := fun b s k => match b with | 0 => handle ps_laws_markInt64SS_L_0 os_laws_markInt64SS_L_0 conv_laws_markInt64SS_L_0 (Bk_laws_markInt64SS_L_0 fu) fu s k | _ => none
def out_laws_markInt64SS_L (d : D RT den) (os : List (Ob RT den)) : Option (Int) := match d, os with | .int .i64 a0_0, [] => some (a0_0) | _, _ => none
def enc_laws_markInt64SS_L (y : Int) : D RT den × List (Ob RT den) := ((.int .i64 y), [])
theorem out_laws_markInt64SS_L_enc (d : D RT den) (os : List (Ob RT den)) (y : Int) (h : out_laws_markInt64SS_L d os = some y) : (unh 0 d).1 = (enc_laws_markInt64SS_L y).1 ∧ os ++ (unh 0 d).2 = (enc_laws_markInt64SS_L y).2 := by
  unfold out_laws_markInt64SS_L at h
  split at h
  · cases h; exact ⟨rfl, rfl⟩
  · cases h
theorem ev_laws_markInt64SS_L (fu : Nat) (k_1_0 : Int) : evFunX E (pc_laws_markInt64SS_L fu) msk_laws_markInt64SS_L (lp_laws_markInt64SS_L fu) out_laws_markInt64SS_L 35 [(.emp true .sl_i64), (.int .i64 k_1_0)] [] = F_laws_markInt64SS_L fu k_1_0 := by kernel_rfl
noncomputable def body_laws_markInt64SS_L : Code := Try.f35.body.getD .skip
noncomputable def lc_laws_markInt64SS_L_0 : Code := ((loops 0 body_laws_markInt64SS_L).getD 0 (0, .skip)).2
theorem round_laws_markInt64SS_L_0 (fu : Nat) (it : St RT den → Option (Int)) (k : Ex → St RT den → Option (Int)) c w : evCode E (pc_laws_markInt64SS_L fu) msk_laws_markInt64SS_L (lp_laws_markInt64SS_L fu) 0 lc_laws_markInt64SS_L_0 (back_laws_markInt64SS_L_0 c w) (after (msk_laws_markInt64SS_L 0) (msk_laws_markInt64SS_L 100000) 0 it k) = Bk_laws_markInt64SS_L_0 fu c k w (fun w => it (back_laws_markInt64SS_L_0 c w)) := by kernel_rfl
theorem lpok_laws_markInt64SS_L_0 (fu : Nat) : ∀ s k r, lp_laws_markInt64SS_L fu 0 s k = some r → ∃ fuel, iter (msk_laws_markInt64SS_L 0) (msk_laws_markInt64SS_L 100000) s.objs.length (evCode E (pc_laws_markInt64SS_L fu) msk_laws_markInt64SS_L (lp_laws_markInt64SS_L fu) 0 lc_laws_markInt64SS_L_0) fuel s k = some r :=
  handle_ok (ps := ps_laws_markInt64SS_L_0) (os := os_laws_markInt64SS_L_0) (conv := conv_laws_markInt64SS_L_0) (B := Bk_laws_markInt64SS_L_0 fu) (fu := fu) back_laws_markInt64SS_L_0 (fun raw => by kernel_rfl) 0 (fun c w => by kernel_rfl) (round_laws_markInt64SS_L_0 fu)
theorem lpok_laws_markInt64SS_L (fu : Nat) : LpOk E (pc_laws_markInt64SS_L fu) msk_laws_markInt64SS_L (lp_laws_markInt64SS_L fu) (loops 0 body_laws_markInt64SS_L) := loop_all 1 (by kernel_rfl) fun i hi => match i, hi with
  | 0, _ => by
    have h : (loops 0 body_laws_markInt64SS_L).getD 0 (0, .skip) = (0, lc_laws_markInt64SS_L_0) := by kernel_rfl
    rw [h]; exact lpok_laws_markInt64SS_L_0 fu
  | i + 1, hi => absurd hi (by omega)
def S_laws_markInt64SS_L (fu : Nat) (xs : List (D RT den)) (ins : List (Ob RT den)) : Option (OutX RT den) := match xs, ins with | [.emp true .sl_i64, .int .i64 a1_0], [] => some ⟨Int, F_laws_markInt64SS_L fu a1_0, enc_laws_markInt64SS_L⟩ | _, _ => none
theorem hpc_laws_markInt64SS_L (fu : Nat) : ∀ f xs o, pcf_laws_markInt64SS_L fu f xs = some o → ∀ y, o.x = some y → Good E Try.prog f xs (o.g y) := by
  intro f xs o h
  cases h
theorem hpx_laws_markInt64SS_L (fu : Nat) : ∀ f xs ins o, pcx_laws_markInt64SS_L fu f xs ins = some o → ∀ y, o.x = some y → GoodX E Try.prog f xs ins (o.g y).1 (o.g y).2 := by
  intro f xs ins o h
  cases h
theorem goodv_laws_markInt64SS_L (fu : Nat) (k_1_0 : Int) (y : Int) (hy : F_laws_markInt64SS_L fu k_1_0 = some y) : GoodX E Try.prog 35 [(.emp true .sl_i64), (.int .i64 k_1_0)] [] (enc_laws_markInt64SS_L y).1 (enc_laws_markInt64SS_L y).2 :=
  funX_good E_ok (pc_good (pc := pc_laws_markInt64SS_L fu) (hpc_laws_markInt64SS_L fu) (hpx_laws_markInt64SS_L fu)) (fn := Try.f35) (c := body_laws_markInt64SS_L) (out := out_laws_markInt64SS_L) (y := y) (by kernel_rfl) (by kernel_rfl) (by kernel_rfl) (lpok_laws_markInt64SS_L fu) (by kernel_rfl) (Nat.le_refl _) (fun d os hd => out_laws_markInt64SS_L_enc d os _ hd) ((ev_laws_markInt64SS_L fu k_1_0).trans hy)
theorem good_laws_markInt64SS_L (fu : Nat) : ∀ xs ins o, S_laws_markInt64SS_L fu xs ins = some o → ∀ y, o.x = some y → GoodX E Try.prog 35 xs ins (o.g y).1 (o.g y).2 := by
  intro xs ins o h y hy
  unfold S_laws_markInt64SS_L at h
  split at h
  · rename_i a1_0
    cases h
    exact goodv_laws_markInt64SS_L fu a1_0 y hy
  · cases h

/-! laws.markHeldS -/
def F_laws_markHeldS_L_B0 {ρ : Type} (fu : Nat) (a0_0 : Nat) (on0_3 : Nat) (k0 : Int → (Nat → S_impl_Held) → Option ρ) (k1_1 : Int) (i5_2 : Int) (of0_4 : (Nat → S_impl_Held)) (go : Int → Int → (Nat → S_impl_Held) → Option ρ) : Option ρ :=
  (bif (decide (i5_2 < ((a0_0 : Nat) : Int))) then ((bif (decide (0 ≤ i5_2) && decide ((Int.toNat i5_2) < a0_0)) then some () else none : Option Unit).bind fun _ => ((bif (decide (0 ≤ i5_2) &&
    decide ((Int.toNat i5_2) < a0_0)) then some () else none : Option Unit).bind fun _ => ((bif (decide (0 ≤ i5_2) && decide ((Int.toNat i5_2) < a0_0)) then some () else none : Option Unit).bind fun _ =>
    ((bif (decide (0 ≤ i5_2) && decide ((Int.toNat i5_2) < a0_0)) then some () else none : Option Unit).bind fun _ => ((bif (decide (0 ≤ i5_2) && decide ((Int.toNat i5_2) < a0_0)) then
    some () else none : Option Unit).bind fun _ => ((bif (decide (0 ≤ i5_2) && decide ((Int.toNat i5_2) < a0_0)) then some () else none : Option Unit).bind fun _ => ((bif (decide (0 ≤ i5_2) &&
    decide ((Int.toNat i5_2) < a0_0)) then some () else none : Option Unit).bind fun _ => (go (IntKind.wrap .i64 ((IntKind.wrap .i64 ((IntKind.wrap .i64 ((IntKind.wrap .i64 ((IntKind.wrap .i64 ((IntKind.wrap .i64 ((IntKind.wrap .i64 (k1_1 + 1)) + 1)) + 1)) + 1)) + 1)) + 1)) + 1)) (IntKind.wrap .i64 (i5_2 + 1)) (upd_impl_Held_6_1 (upd_impl_Held_5_1 (upd_impl_Held_4_1 (upd_impl_Held_3_1 (upd_impl_Held_2_1 (upd_impl_Held_1_1 (upd_impl_Held_0_1 of0_4 (Int.toNat i5_2) k1_1) (Int.toNat i5_2) (IntKind.wrap .i64 (k1_1 + 1))) (Int.toNat i5_2) (IntKind.wrap .i64 ((IntKind.wrap .i64 (k1_1 + 1)) + 1))) (Int.toNat i5_2) (IntKind.wrap .i64 ((IntKind.wrap .i64 ((IntKind.wrap .i64 (k1_1 + 1)) + 1)) + 1))) (Int.toNat i5_2) (IntKind.wrap .i64 ((IntKind.wrap .i64 ((IntKind.wrap .i64 ((IntKind.wrap .i64 (k1_1 + 1)) + 1)) + 1)) + 1))) (Int.toNat i5_2) (IntKind.wrap .i64 ((IntKind.wrap .i64 ((IntKind.wrap .i64 ((IntKind.wrap .i64 ((IntKind.wrap .i64 (k1_1 + 1)) + 1)) + 1)) + 1)) + 1))) (Int.toNat i5_2) (IntKind.wrap .i64 ((IntKind.wrap .i64 ((IntKind.wrap .i64 ((IntKind.wrap .i64 ((IntKind.wrap .i64 ((IntKind.wrap .i64 (k1_1 + 1)) + 1)) + 1)) + 1)) + 1)) + 1))))))))))) else
    (k0 k1_1 of0_4))
def F_laws_markHeldS_L (fu : Nat) (a_0_0 : Nat) (k_1_1 : Int) (rn0 : Nat) (rf0 : (Nat → S_impl_Held)) : Option (Int × (Nat × (Nat → S_impl_Held))) :=
  (L (fun w0 go0 => F_laws_markHeldS_L_B0 fu a_0_0 rn0 (fun z21 z22 => (some (z21, (rn0, z22)))) w0.1 w0.2.1 w0.2.2 (fun q0 q1 q2 => go0 (q0, q1, q2))) fu ((k_1_1, 0, rf0) : Int × Int × (Nat → S_impl_Held)))
def pcf_laws_markHeldS_L (fu : Nat) (f : Nat) (xs : List (D RT den)) : Option (Out RT den) := none
def pcx_laws_markHeldS_L (fu : Nat) (f : Nat) (xs : List (D RT den)) (ins : List (Ob RT den)) : Option (OutX RT den) := none
def pc_laws_markHeldS_L (fu : Nat) : Pc RT den := ⟨pcf_laws_markHeldS_L fu, fun _ => false, fun _ => false, pcx_laws_markHeldS_L fu⟩
def msk_laws_markHeldS_L (b : Nat) : List Nat := match b with | 0 => [2, 3, 4, 6, 7, 8, 9, 10, 11, 12, 13, 14, 15, 16, 17, 18, 19, 20, 21, 22, 23, 24, 25, 26, 27, 28, 29, 30, 31, 32, 33, 34, 35, 36, 37, 38, 39, 40, 41, 42, 43, 44, 45, 46, 47, 48, 49, 50, 51, 52, 53, 54, 55, 56, 57, 58, 59, 60, 61, 62, 63, 64, 65, 66] | 100000 => [0, 2, 3, 5, 6, 7, 8, 9, 10, 11, 12, 13, 14, 15, 16, 17, 18, 19, 20, 21, 22, 23, 24, 25, 26, 27, 28, 29, 30, 31, 32, 33, 34, 35, 36, 37, 38, 39, 40, 41, 42, 43, 44, 45, 46, 47, 48, 49, 50, 51, 52, 53, 54, 55, 56, 57, 58, 59, 60, 61, 62, 63, 64, 65, 66] | _ => []
def ps_laws_markHeldS_L_0 : List (Pat RT) := [.flat (.os 0), .flat (.int .i64), .flat .dead, .flat .dead, .flat .dead, .flat (.int .i64), .flat .dead, .flat .dead, .flat .dead, .flat .dead, .flat .dead, .flat .dead, .flat .dead, .flat .dead, .flat .dead, .flat .dead, .flat .dead, .flat .dead, .flat .dead, .flat .dead, .flat .dead, .flat .dead, .flat .dead, .flat .dead, .flat .dead, .flat .dead, .flat .dead, .flat .dead, .flat .dead, .flat .dead, .flat .dead, .flat .dead, .flat .dead, .flat .dead, .flat .dead, .flat .dead, .flat .dead, .flat .dead, .flat .dead, .flat .dead, .flat .dead, .flat .dead, .flat .dead, .flat .dead, .flat .dead, .flat .dead, .flat .dead, .flat .dead, .flat .dead, .flat .dead, .flat .dead, .flat .dead, .flat .dead, .flat .dead, .flat .dead, .flat .dead, .flat .dead, .flat .dead, .flat .dead, .flat .dead, .flat .dead, .flat .dead, .flat .dead, .flat .dead, .flat .dead, .flat .dead, .flat .dead]
def os_laws_markHeldS_L_0 : List (OP RT) := [.row true .impl_Held]
def conv_laws_markHeldS_L_0 (r : Raw den ps_laws_markHeldS_L_0 os_laws_markHeldS_L_0) : (Nat × Nat) × (Int × Int × (Nat → S_impl_Held)) := ((r.1.1, r.2.1.1), (r.1.2.1, r.1.2.2.2.2.2.1, r.2.1.2))
def back_laws_markHeldS_L_0 (c : Nat × Nat) (w : Int × Int × (Nat → S_impl_Held)) : St RT den := ⟨[(.os 0 c.1), (.int .i64 w.1), .dead, .dead, .dead, (.int .i64 w.2.1), .dead, .dead, .dead, .dead, .dead, .dead, .dead, .dead, .dead, .dead, .dead, .dead, .dead, .dead, .dead, .dead, .dead, .dead, .dead, .dead, .dead, .dead, .dead, .dead, .dead, .dead, .dead, .dead, .dead, .dead, .dead, .dead, .dead, .dead, .dead, .dead, .dead, .dead, .dead, .dead, .dead, .dead, .dead, .dead, .dead, .dead, .dead, .dead, .dead, .dead, .dead, .dead, .dead, .dead, .dead, .dead, .dead, .dead, .dead, .dead, .dead], [(.row true .impl_Held c.2 w.2.2)]⟩
def Bk_laws_markHeldS_L_0 {ρ : Type} (fu : Nat) (c : Nat × Nat) (k : Ex → St RT den → Option ρ) (w : Int × Int × (Nat → S_impl_Held)) (go : (Int × Int × (Nat → S_impl_Held)) → Option ρ) : Option ρ := F_laws_markHeldS_L_B0 fu c.1 c.2 (fun a0 a1 => k (.exit 0) ⟨[.dead, (.int .i64 a0), .dead, .dead, .dead, .dead, .dead, .dead, .dead, .dead, .dead, .dead, .dead, .dead, .dead, .dead, .dead, .dead, .dead, .dead, .dead, .dead, .dead, .dead, .dead, .dead, .dead, .dead, .dead, .dead, .dead, .dead, .dead, .dead, .dead, .dead, .dead, .dead, .dead, .dead, .dead, .dead, .dead, .dead, .dead, .dead, .dead, .dead, .dead, .dead, .dead, .dead, .dead, .dead, .dead, .dead, .dead, .dead, .dead, .dead, .dead, .dead, .dead, .dead, .dead, .dead, .dead], [(.row true .impl_Held c.2 a1)]⟩) w.1 w.2.1 w.2.2 (fun q0 q1 q2 => go (q0, q1, q2))
def lp_laws_markHeldS_L (fu : Nat) : Lp RT den (Int × (Nat × (Nat → S_impl_Held))) := fun b s k => match b with | 0 => handle ps_laws_markHeldS_L_0 os_laws_markHeldS_L_0 conv_laws_markHeldS_L_0 (Bk_laws_markHeldS_L_0 fu) fu s k | _ => none
def out_laws_markHeldS_L (d : D RT den) (os : List (Ob RT den)) : Option (Int × (Nat × (Nat → S_impl_Held))) := match d, os with | .int .i64 a0_0, [.row true .impl_Held n0 f0] => some (a0_0, (n0, f0)) | _, _ => none
def enc_laws_markHeldS_L (y : Int × (Nat × (Nat → S_impl_Held))) : D RT den × List (Ob RT den) := ((.int .i64 y.1), [(.row true .impl_Held y.2.1 y.2.2)])
theorem out_laws_markHeldS_L_enc (d : D RT den) (os : List (Ob RT den)) (y : Int × (Nat × (Nat → S_impl_Held))) (h : out_laws_markHeldS_L d os = some y) : (unh 1 d).1 = (enc_laws_markHeldS_L y).1 ∧ os ++ (unh 1 d).2 = (enc_laws_markHeldS_L y).2 := by
  unfold out_laws_markHeldS_L at h
  split at h
  · cases h; exact ⟨rfl, rfl⟩
  · cases h
theorem ev_laws_markHeldS_L (fu : Nat) (a_0_0 : Nat) (k_1_1 : Int) (rn0 : Nat) (rf0 : (Nat → S_impl_Held)) : evFunX E (pc_laws_markHeldS_L fu) msk_laws_markHeldS_L (lp_laws_markHeldS_L fu) out_laws_markHeldS_L 36 [(.os 0 a_0_0), (.int .i64 k_1_1)] [(.row true .impl_Held rn0 rf0)] = F_laws_markHeldS_L fu a_0_0 k_1_1 rn0 rf0 := by kernel_rfl
noncomputable def body_laws_markHeldS_L : Code := Try.f36.body.getD .skip
noncomputable def lc_laws_markHeldS_L_0 : Code := ((loops 0 body_laws_markHeldS_L).getD 0 (0, .skip)).2
theorem round_laws_markHeldS_L_0 (fu : Nat) (it : St RT den → Option (Int × (Nat × (Nat → S_impl_Held)))) (k : Ex → St RT den → Option (Int × (Nat × (Nat → S_impl_Held)))) c w : evCode E (pc_laws_markHeldS_L fu) msk_laws_markHeldS_L (lp_laws_markHeldS_L fu) 0 lc_laws_markHeldS_L_0 (back_laws_markHeldS_L_0 c w) (after (msk_laws_markHeldS_L 0) (msk_laws_markHeldS_L 100000) 1 it k) = Bk_laws_markHeldS_L_0 fu c k w (fun w => it (back_laws_markHeldS_L_0 c w)) := by kernel_rfl
theorem lpok_laws_markHeldS_L_0 (fu : Nat) : ∀ s k r, lp_laws_markHeldS_L fu 0 s k = some r → ∃ fuel, iter (msk_laws_markHeldS_L 0) (msk_laws_markHeldS_L 100000) s.objs.length (evCode E (pc_laws_markHeldS_L fu) msk_laws_markHeldS_L (lp_laws_markHeldS_L fu) 0 lc_laws_markHeldS_L_0) fuel s k = some r :=
  handle_ok (ps := ps_laws_markHeldS_L_0) (os := os_laws_markHeldS_L_0) (conv := conv_laws_markHeldS_L_0) (B := Bk_laws_markHeldS_L_0 fu) (fu := fu) back_laws_markHeldS_L_0 (fun raw => by kernel_rfl) 1 (fun c w => by kernel_rfl) (round_laws_markHeldS_L_0 fu)
theorem lpok_laws_markHeldS_L (fu : Nat) : LpOk E (pc_laws_markHeldS_L fu) msk_laws_markHeldS_L (lp_laws_markHeldS_L fu) (loops 0 body_laws_markHeldS_L) := loop_all 1 (by kernel_rfl) fun i hi => match i, hi with
  | 0, _ => by
    have h : (loops 0 body_laws_markHeldS_L).getD 0 (0, .skip) = (0, lc_laws_markHeldS_L_0) := by kernel_rfl
    rw [h]; exact lpok_laws_markHeldS_L_0 fu
  | i + 1, hi => absurd hi (by omega)
def S_laws_markHeldS_L (fu : Nat) (xs : List (D RT den)) (ins : List (Ob RT den)) : Option (OutX RT den) := match xs, ins with | [.os 0 a0_0, .int .i64 a1_0], [.row true .impl_Held rn0 rf0] => some ⟨Int × (Nat × (Nat → S_impl_Held)), F_laws_markHeldS_L fu a0_0 a1_0 rn0 rf0, enc_laws_markHeldS_L⟩ | _, _ => none
theorem hpc_laws_markHeldS_L (fu : Nat) : ∀ f xs o, pcf_laws_markHeldS_L fu f xs = some o → ∀ y, o.x = some y → Good E Try.prog f xs (o.g y) := by
  intro f xs o h
  cases h
theorem hpx_laws_markHeldS_L (fu : Nat) : ∀ f xs ins o, pcx_laws_markHeldS_L fu f xs ins = some o → ∀ y, o.x = some y → GoodX E Try.prog f xs ins (o.g y).1 (o.g y).2 := by
  intro f xs ins o h
  cases h
theorem goodv_laws_markHeldS_L (fu : Nat) (a_0_0 : Nat) (k_1_1 : Int) (rn0 : Nat) (rf0 : (Nat → S_impl_Held)) (y : Int × (Nat × (Nat → S_impl_Held))) (hy : F_laws_markHeldS_L fu a_0_0 k_1_1 rn0 rf0 = some y) : GoodX E Try.prog 36 [(.os 0 a_0_0), (.int .i64 k_1_1)] [(.row true .impl_Held rn0 rf0)] (enc_laws_markHeldS_L y).1 (enc_laws_markHeldS_L y).2 :=
  funX_good E_ok (pc_good (pc := pc_laws_markHeldS_L fu) (hpc_laws_markHeldS_L fu) (hpx_laws_markHeldS_L fu)) (fn := Try.f36) (c := body_laws_markHeldS_L) (out := out_laws_markHeldS_L) (y := y) (by kernel_rfl) (by kernel_rfl) (by kernel_rfl) (lpok_laws_markHeldS_L fu) (by kernel_rfl) (Nat.le_refl _) (fun d os hd => out_laws_markHeldS_L_enc d os _ hd) ((ev_laws_markHeldS_L fu a_0_0 k_1_1 rn0 rf0).trans hy)
theorem good_laws_markHeldS_L (fu : Nat) : ∀ xs ins o, S_laws_markHeldS_L fu xs ins = some o → ∀ y, o.x = some y → GoodX E Try.prog 36 xs ins (o.g y).1 (o.g y).2 := by
  intro xs ins o h y hy
  unfold S_laws_markHeldS_L at h
  split at h
  · rename_i a0_0 a1_0 rn0 rf0
    cases h
    exact goodv_laws_markHeldS_L fu a0_0 a1_0 rn0 rf0 y hy
  · cases h

/-! laws.markMux -/
def F_laws_markMux_L (fu : Nat) (a_0_0 : Int) (a_0_1 : Int) (a_0_2 : Bool) (a_0_3 : Int) (a_0_4 : Nat) (a_0_5 : Nat) (k_1_6 : Int) (rn0 : Nat) (rf0 : (Nat → S_impl_Backend)) (rn1 : Nat) (rf1 : (Nat → S_impl_Held)) : Option (Int × (Nat × (Nat → S_impl_Backend)) × (Nat × (Nat → S_impl_Held))) :=
  ((F_laws_markWatch_L fu a_0_2 a_0_3 a_0_4 k_1_6 rn0 rf0).bind fun y19 => ((F_laws_markInt64SS_L fu y19.1).bind fun y20 => ((F_laws_markHeldS_L fu a_0_5 y20 rn1 rf1).bind fun y23 =>
    (some (y23.1, (y19.2.1, y19.2.2), (y23.2.1, y23.2.2))))))
def pcf_laws_markMux_L (fu : Nat) (f : Nat) (xs : List (D RT den)) : Option (Out RT den) := none
def pcx_laws_markMux_L (fu : Nat) (f : Nat) (xs : List (D RT den)) (ins : List (Ob RT den)) : Option (OutX RT den) := match f with | 34 => S_laws_markWatch_L fu xs ins | 35 => S_laws_markInt64SS_L fu xs ins | 36 => S_laws_markHeldS_L fu xs ins | _ => none
def pc_laws_markMux_L (fu : Nat) : Pc RT den := ⟨pcf_laws_markMux_L fu, fun f => match f with | 34 => true | 35 => true | 36 => true | _ => false, fun f => match f with | 34 => true | 35 => true | 36 => true | _ => false, pcx_laws_markMux_L fu⟩
def msk_laws_markMux_L (b : Nat) : List Nat := []
def lp_laws_markMux_L (fu : Nat) : Lp RT den (Int × (Nat × (Nat → S_impl_Backend)) × (Nat × (Nat → S_impl_Held))) := fun b s k => none
def out_laws_markMux_L (d : D RT den) (os : List (Ob RT den)) : Option (Int × (Nat × (Nat → S_impl_Backend)) × (Nat × (Nat → S_impl_Held))) := match d, os with | .int .i64 a0_0, [.row true .impl_Backend n0 f0, .row true .impl_Held n1 f1] => some (a0_0, (n0, f0), (n1, f1)) | _, _ => none
def enc_laws_markMux_L (y : Int × (Nat × (Nat → S_impl_Backend)) × (Nat × (Nat → S_impl_Held))) : D RT den × List (Ob RT den) := ((.int .i64 y.1), [(.row true .impl_Backend y.2.1.1 y.2.1.2), (.row true .impl_Held y.2.2.1 y.2.2.2)])
theorem out_laws_markMux_L_enc (d : D RT den) (os : List (Ob RT den)) (y : Int × (Nat × (Nat → S_impl_Backend)) × (Nat × (Nat → S_impl_Held))) (h : out_laws_markMux_L d os = some y) : (unh 2 d).1 = (enc_laws_markMux_L y).1 ∧ os ++ (unh 2 d).2 = (enc_laws_markMux_L y).2 := by
  unfold out_laws_markMux_L at h
  split at h
  · cases h; exact ⟨rfl, rfl⟩
  · cases h
theorem ev_laws_markMux_L (fu : Nat) (a_0_0 : Int) (a_0_1 : Int) (a_0_2 : Bool) (a_0_3 : Int) (a_0_4 : Nat) (a_0_5 : Nat) (k_1_6 : Int) (rn0 : Nat) (rf0 : (Nat → S_impl_Backend)) (rn1 : Nat) (rf1 : (Nat → S_impl_Held)) : evFunX E (pc_laws_markMux_L fu) msk_laws_markMux_L (lp_laws_markMux_L fu) out_laws_markMux_L 21 [(.agg [(.int .i64 a_0_0), (.int .i64 a_0_1), (.bool a_0_2), (.int .i64 a_0_3), (.os 0 a_0_4), (.emp true .impl_Vip), (.emp true .sl_i64), (.os 1 a_0_5)]), (.int .i64 k_1_6)] [(.row true .impl_Backend rn0 rf0), (.row true .impl_Held rn1 rf1)] = F_laws_markMux_L fu a_0_0 a_0_1 a_0_2 a_0_3 a_0_4 a_0_5 k_1_6 rn0 rf0 rn1 rf1 := by kernel_rfl
noncomputable def body_laws_markMux_L : Code := Try.f21.body.getD .skip
theorem lpok_laws_markMux_L (fu : Nat) : LpOk E (pc_laws_markMux_L fu) msk_laws_markMux_L (lp_laws_markMux_L fu) (loops 0 body_laws_markMux_L) := by
  have h : loops 0 body_laws_markMux_L = [] := by kernel_rfl
  rw [h]; intro p hp; cases hp
def S_laws_markMux_L (fu : Nat) (xs : List (D RT den)) (ins : List (Ob RT den)) : Option (OutX RT den) := match xs, ins with | [.agg [.int .i64 a0_0, .int .i64 a0_1, .bool a0_2, .int .i64 a0_3, .os 0 a0_4, .emp true .impl_Vip, .emp true .sl_i64, .os 1 a0_5], .int .i64 a1_0], [.row true .impl_Backend rn0 rf0, .row true .impl_Held rn1 rf1] => some ⟨Int × (Nat × (Nat → S_impl_Backend)) × (Nat × (Nat → S_impl_Held)), F_laws_markMux_L fu a0_0 a0_1 a0_2 a0_3 a0_4 a0_5 a1_0 rn0 rf0 rn1 rf1, enc_laws_markMux_L⟩ | _, _ => none
theorem hpc_laws_markMux_L (fu : Nat) : ∀ f xs o, pcf_laws_markMux_L fu f xs = some o → ∀ y, o.x = some y → Good E Try.prog f xs (o.g y) := by
  intro f xs o h
  cases h
theorem hpx_laws_markMux_L (fu : Nat) : ∀ f xs ins o, pcx_laws_markMux_L fu f xs ins = some o → ∀ y, o.x = some y → GoodX E Try.prog f xs ins (o.g y).1 (o.g y).2 := by
  intro f xs ins o h
  unfold pcx_laws_markMux_L at h
  split at h
  · exact good_laws_markWatch_L fu xs ins o h
  · exact good_laws_markInt64SS_L fu xs ins o h
  · exact good_laws_markHeldS_L fu xs ins o h
  · cases h
theorem goodv_laws_markMux_L (fu : Nat) (a_0_0 : Int) (a_0_1 : Int) (a_0_2 : Bool) (a_0_3 : Int) (a_0_4 : Nat) (a_0_5 : Nat) (k_1_6 : Int) (rn0 : Nat) (rf0 : (Nat → S_impl_Backend)) (rn1 : Nat) (rf1 : (Nat → S_impl_Held)) (y : Int × (Nat × (Nat → S_impl_Backend)) × (Nat × (Nat → S_impl_Held))) (hy : F_laws_markMux_L fu a_0_0 a_0_1 a_0_2 a_0_3 a_0_4 a_0_5 k_1_6 rn0 rf0 rn1 rf1 = some y) : GoodX E Try.prog 21 [(.agg [(.int .i64 a_0_0), (.int .i64 a_0_1), (.bool a_0_2), (.int .i64 a_0_3), (.os 0 a_0_4), (.emp true .impl_Vip), (.emp true .sl_i64), (.os 1 a_0_5)]), (.int .i64 k_1_6)] [(.row true .impl_Backend rn0 rf0), (.row true .impl_Held rn1 rf1)] (enc_laws_markMux_L y).1 (enc_laws_markMux_L y).2 :=
  funX_good E_ok (pc_good (pc := pc_laws_markMux_L fu) (hpc_laws_markMux_L fu) (hpx_laws_markMux_L fu)) (fn := Try.f21) (c := body_laws_markMux_L) (out := out_laws_markMux_L) (y := y) (by kernel_rfl) (by kernel_rfl) (by kernel_rfl) (lpok_laws_markMux_L fu) (by kernel_rfl) (Nat.le_refl _) (fun d os hd => out_laws_markMux_L_enc d os _ hd) ((ev_laws_markMux_L fu a_0_0 a_0_1 a_0_2 a_0_3 a_0_4 a_0_5 k_1_6 rn0 rf0 rn1 rf1).trans hy)
theorem good_laws_markMux_L (fu : Nat) : ∀ xs ins o, S_laws_markMux_L fu xs ins = some o → ∀ y, o.x = some y → GoodX E Try.prog 21 xs ins (o.g y).1 (o.g y).2 := by
  intro xs ins o h y hy
  unfold S_laws_markMux_L at h
  split at h
  · rename_i a0_0 a0_1 a0_2 a0_3 a0_4 a0_5 a1_0 rn0 rf0 rn1 rf1
    cases h
    exact goodv_laws_markMux_L fu a0_0 a0_1 a0_2 a0_3 a0_4 a0_5 a1_0 rn0 rf0 rn1 rf1 y hy
  · cases h

/-! laws.markMuxResult -/
def F_laws_markMuxResult_L (fu : Nat) (a_0_0 : Int) (a_0_1 : Int) (a_0_2 : Int) (a_0_3 : Nat) (a_0_4 : Int) (a_0_5 : Int) (a_0_6 : Bool) (a_0_7 : Int) (a_0_8 : Nat) (a_0_9 : Nat) (k_1_10 : Int) (rn0 : Nat) (rf0 : (Nat → Int)) (rn1 : Nat) (rf1 : (Nat → S_impl_Backend)) (rn2 : Nat) (rf2 : (Nat → S_impl_Held)) : Option (Int × (Nat × (Nat → Int)) × (Nat × (Nat → S_impl_Backend)) × (Nat × (Nat → S_impl_Held))) :=
  ((F_laws_markByteS_L fu a_0_3 k_1_10 rn0 rf0).bind fun y13 => ((F_laws_markMux_L fu a_0_4 a_0_5 a_0_6 a_0_7 a_0_8 a_0_9 y13.1 rn1 rf1 rn2 rf2).bind fun y24 => (some (y24.1,
    (y13.2.1, y13.2.2), (y24.2.1.1, y24.2.1.2), (y24.2.2.1, y24.2.2.2)))))
def pcf_laws_markMuxResult_L (fu : Nat) (f : Nat) (xs : List (D RT den)) : Option (Out RT den) := none
def pcx_laws_markMuxResult_L (fu : Nat) (f : Nat) (xs : List (D RT den)) (ins : List (Ob RT den)) : Option (OutX RT den) := match f with | 20 => S_laws_markByteS_L fu xs ins | 21 => S_laws_markMux_L fu xs ins | _ => none
def pc_laws_markMuxResult_L (fu : Nat) : Pc RT den := ⟨pcf_laws_markMuxResult_L fu, fun f => match f with | 20 => true | 21 => true | _ => false, fun f => match f with | 20 => true | 21 => true | _ => false, pcx_laws_markMuxResult_L fu⟩
def msk_laws_markMuxResult_L (b : Nat) : List Nat := []
def lp_laws_markMuxResult_L (fu : Nat) : Lp RT den (Int × (Nat × (Nat → Int)) × (Nat × (Nat → S_impl_Backend)) × (Nat × (Nat → S_impl_Held))) := fun b s k => none
def out_laws_markMuxResult_L (d : D RT den) (os : List (Ob RT den)) : Option (Int × (Nat × (Nat → Int)) × (Nat × (Nat → S_impl_Backend)) × (Nat × (Nat → S_impl_Held))) := match d, os with | .int .i64 a0_0, [.row true .u8 n0 f0, .row true .impl_Backend n1 f1, .row true .impl_Held n2 f2] => some (a0_0, (n0, f0), (n1, f1), (n2, f2)) | _, _ => none
def enc_laws_markMuxResult_L (y : Int × (Nat × (Nat → Int)) × (Nat × (Nat → S_impl_Backend)) × (Nat × (Nat → S_impl_Held))) : D RT den × List (Ob RT den) := ((.int .i64 y.1), [(.row true .u8 y.2.1.1 y.2.1.2), (.row true .impl_Backend y.2.2.1.1 y.2.2.1.2), (.row true .impl_Held y.2.2.2.1 y.2.2.2.2)])
theorem out_laws_markMuxResult_L_enc (d : D RT den) (os : List (Ob RT den)) (y : Int × (Nat × (Nat → Int)) × (Nat × (Nat → S_impl_Backend)) × (Nat × (Nat → S_impl_Held))) (h : out_laws_markMuxResult_L d os = some y) : (unh 3 d).1 = (enc_laws_markMuxResult_L y).1 ∧ os ++ (unh 3 d).2 = (enc_laws_markMuxResult_L y).2 := by
  unfold out_laws_markMuxResult_L at h
  split at h
  · cases h; exact ⟨rfl, rfl⟩
  · cases h
theorem ev_laws_markMuxResult_L (fu : Nat) (a_0_0 : Int) (a_0_1 : Int) (a_0_2 : Int) (a_0_3 : Nat) (a_0_4 : Int) (a_0_5 : Int) (a_0_6 : Bool) (a_0_7 : Int) (a_0_8 : Nat) (a_0_9 : Nat) (k_1_10 : Int) (rn0 : Nat) (rf0 : (Nat → Int)) (rn1 : Nat) (rf1 : (Nat → S_impl_Backend)) (rn2 : Nat) (rf2 : (Nat → S_impl_Held)) : evFunX E (pc_laws_markMuxResult_L fu) msk_laws_markMuxResult_L (lp_laws_markMuxResult_L fu) out_laws_markMuxResult_L 8 [(.agg [(.int .i64 a_0_0), (.int .i64 a_0_1), (.int .i64 a_0_2), (.os 0 a_0_3), (.int .i64 a_0_4), (.int .i64 a_0_5), (.bool a_0_6), (.int .i64 a_0_7), (.os 1 a_0_8), (.emp true .impl_Vip), (.emp true .sl_i64), (.os 2 a_0_9)]), (.int .i64 k_1_10)] [(.row true .u8 rn0 rf0), (.row true .impl_Backend rn1 rf1), (.row true .impl_Held rn2 rf2)] = F_laws_markMuxResult_L fu a_0_0 a_0_1 a_0_2 a_0_3 a_0_4 a_0_5 a_0_6 a_0_7 a_0_8 a_0_9 k_1_10 rn0 rf0 rn1 rf1 rn2 rf2 := by kernel_rfl
noncomputable def body_laws_markMuxResult_L : Code := Try.f8.body.getD .skip
theorem lpok_laws_markMuxResult_L (fu : Nat) : LpOk E (pc_laws_markMuxResult_L fu) msk_laws_markMuxResult_L (lp_laws_markMuxResult_L fu) (loops 0 body_laws_markMuxResult_L) := by
  have h : loops 0 body_laws_markMuxResult_L = [] := by kernel_rfl
  rw [h]; intro p hp; cases hp
def S_laws_markMuxResult_L (fu : Nat) (xs : List (D RT den)) (ins : List (Ob RT den)) : Option (OutX RT den) := match xs, ins with | [.agg [.int .i64 a0_0, .int .i64 a0_1, .int .i64 a0_2, .os 0 a0_3, .int .i64 a0_4, .int .i64 a0_5, .bool a0_6, .int .i64 a0_7, .os 1 a0_8, .emp true .impl_Vip, .emp true .sl_i64, .os 2 a0_9], .int .i64 a1_0], [.row true .u8 rn0 rf0, .row true .impl_Backend rn1 rf1, .row true .impl_Held rn2 rf2] => some ⟨Int × (Nat × (Nat → Int)) × (Nat × (Nat → S_impl_Backend)) × (Nat × (Nat → S_impl_Held)), F_laws_markMuxResult_L fu a0_0 a0_1 a0_2 a0_3 a0_4 a0_5 a0_6 a0_7 a0_8 a0_9 a1_0 rn0 rf0 rn1 rf1 rn2 rf2, enc_laws_markMuxResult_L⟩ | _, _ => none
theorem hpc_laws_markMuxResult_L (fu : Nat) : ∀ f xs o, pcf_laws_markMuxResult_L fu f xs = some o → ∀ y, o.x = some y → Good E Try.prog f xs (o.g y) := by
  intro f xs o h
  cases h
theorem hpx_laws_markMuxResult_L (fu : Nat) : ∀ f xs ins o, pcx_laws_markMuxResult_L fu f xs ins = some o → ∀ y, o.x = some y → GoodX E Try.prog f xs ins (o.g y).1 (o.g y).2 := by
  intro f xs ins o h
  unfold pcx_laws_markMuxResult_L at h
  split at h
  · exact good_laws_markByteS_L fu xs ins o h
  · exact good_laws_markMux_L fu xs ins o h
  · cases h
theorem goodv_laws_markMuxResult_L (fu : Nat) (a_0_0 : Int) (a_0_1 : Int) (a_0_2 : Int) (a_0_3 : Nat) (a_0_4 : Int) (a_0_5 : Int) (a_0_6 : Bool) (a_0_7 : Int) (a_0_8 : Nat) (a_0_9 : Nat) (k_1_10 : Int) (rn0 : Nat) (rf0 : (Nat → Int)) (rn1 : Nat) (rf1 : (Nat → S_impl_Backend)) (rn2 : Nat) (rf2 : (Nat → S_impl_Held)) (y : Int × (Nat × (Nat → Int)) × (Nat × (Nat → S_impl_Backend)) × (Nat × (Nat → S_impl_Held))) (hy : F_laws_markMuxResult_L fu a_0_0 a_0_1 a_0_2 a_0_3 a_0_4 a_0_5 a_0_6 a_0_7 a_0_8 a_0_9 k_1_10 rn0 rf0 rn1 rf1 rn2 rf2 = some y) : GoodX E Try.prog 8 [(.agg [(.int .i64 a_0_0), (.int .i64 a_0_1), (.int .i64 a_0_2), (.os 0 a_0_3), (.int .i64 a_0_4), (.int .i64 a_0_5), (.bool a_0_6), (.int .i64 a_0_7), (.os 1 a_0_8), (.emp true .impl_Vip), (.emp true .sl_i64), (.os 2 a_0_9)]), (.int .i64 k_1_10)] [(.row true .u8 rn0 rf0), (.row true .impl_Backend rn1 rf1), (.row true .impl_Held rn2 rf2)] (enc_laws_markMuxResult_L y).1 (enc_laws_markMuxResult_L y).2 :=
  funX_good E_ok (pc_good (pc := pc_laws_markMuxResult_L fu) (hpc_laws_markMuxResult_L fu) (hpx_laws_markMuxResult_L fu)) (fn := Try.f8) (c := body_laws_markMuxResult_L) (out := out_laws_markMuxResult_L) (y := y) (by kernel_rfl) (by kernel_rfl) (by kernel_rfl) (lpok_laws_markMuxResult_L fu) (by kernel_rfl) (Nat.le_refl _) (fun d os hd => out_laws_markMuxResult_L_enc d os _ hd) ((ev_laws_markMuxResult_L fu a_0_0 a_0_1 a_0_2 a_0_3 a_0_4 a_0_5 a_0_6 a_0_7 a_0_8 a_0_9 k_1_10 rn0 rf0 rn1 rf1 rn2 rf2).trans hy)
theorem good_laws_markMuxResult_L (fu : Nat) : ∀ xs ins o, S_laws_markMuxResult_L fu xs ins = some o → ∀ y, o.x = some y → GoodX E Try.prog 8 xs ins (o.g y).1 (o.g y).2 := by
  intro xs ins o h y hy
  unfold S_laws_markMuxResult_L at h
  split at h
  · rename_i a0_0 a0_1 a0_2 a0_3 a0_4 a0_5 a0_6 a0_7 a0_8 a0_9 a1_0 rn0 rf0 rn1 rf1 rn2 rf2
    cases h
    exact goodv_laws_markMuxResult_L fu a0_0 a0_1 a0_2 a0_3 a0_4 a0_5 a0_6 a0_7 a0_8 a0_9 a1_0 rn0 rf0 rn1 rf1 rn2 rf2 y hy
  · cases h
end Go.Proofs.Ytaghkcpgpjbdnaa.Pc
