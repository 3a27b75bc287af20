/- The functions' evaluated forms, each a proved summary. Conditions: none. -/
import Derived.Test.YtaghkcpgpjbdnaaPnT
namespace Go.Proofs.Ytaghkcpgpjbdnaa.Pn
open Go Go.RowKit Go.Proofs Vm
set_option linter.unusedVariables false
set_option linter.unusedSimpArgs false
set_option maxRecDepth 100000
/-! spec.l15Bad -/
def F_spec_l15Bad_E (fu : Nat) (c_0 : Int) : Option (S_impl_FleetResult) :=
  (some (⟨c_0, 0, 0, (⟨(some true), 0, (fun _ => dflt .u8)⟩ : (Sl Int)), (⟨(⟨(some true), 0, (fun _ => dflt .impl_Entry)⟩ : (Sl S_impl_Entry)), (⟨(some true), 0, (fun _ => dflt .impl_Mux)⟩ : (Sl S_impl_Mux_0))⟩ : S_impl_Fleet)⟩ : S_impl_FleetResult))
def pcf_spec_l15Bad_E (fu : Nat) (f : Nat) (xs : List (D RT den)) : Option (Out RT den) := none
def pcx_spec_l15Bad_E (fu : Nat) (f : Nat) (xs : List (D RT den)) (ins : List (Ob RT den)) : Option (OutX RT den) := none
def pc_spec_l15Bad_E (fu : Nat) : Pc RT den := ⟨pcf_spec_l15Bad_E fu, fun _ => false, fun _ => false, pcx_spec_l15Bad_E fu⟩
def msk_spec_l15Bad_E (b : Nat) : List Nat := []
def lp_spec_l15Bad_E (fu : Nat) : Lp RT den (S_impl_FleetResult) := fun b s k => none
theorem ev_spec_l15Bad_E (fu : Nat) (c_0 : Int) : evFunX E true (pc_spec_l15Bad_E fu) msk_spec_l15Bad_E (lp_spec_l15Bad_E fu) out_impl_FleetResult_E 25 [(.int .i64 c_0)] [] = F_spec_l15Bad_E fu c_0 := by kernel_rfl
noncomputable def body_spec_l15Bad_E : Code := Try.f25.body.getD .skip
theorem lpok_spec_l15Bad_E (fu : Nat) : LpOk E (pc_spec_l15Bad_E fu) msk_spec_l15Bad_E (lp_spec_l15Bad_E fu) (loops 0 body_spec_l15Bad_E) := by
  have h : loops 0 body_spec_l15Bad_E = [] := by kernel_rfl
  rw [h]; intro p hp; cases hp
def S_spec_l15Bad_E (fu : Nat) (xs : List (D RT den)) (ins : List (Ob RT den)) : Option (OutX RT den) := match xs, ins with | [.int .i64 a0_0], [] => some ⟨S_impl_FleetResult, F_spec_l15Bad_E fu a0_0, enc_impl_FleetResult_E⟩ | _, _ => none
theorem hpc_spec_l15Bad_E (fu : Nat) : ∀ f xs o, pcf_spec_l15Bad_E fu f xs = some o → ∀ y, o.x = some y → Good E Try.prog f xs (o.g y) := by
  intro f xs o h
  cases h
theorem hpx_spec_l15Bad_E (fu : Nat) : ∀ f xs ins o, pcx_spec_l15Bad_E fu f xs ins = some o → ∀ y, o.x = some y → GoodX E Try.prog f xs ins (o.g y).1 (o.g y).2 := by
  intro f xs ins o h
  cases h
theorem goodv_spec_l15Bad_E (fu : Nat) (c_0 : Int) (y : S_impl_FleetResult) (hy : F_spec_l15Bad_E fu c_0 = some y) : GoodX E Try.prog 25 [(.int .i64 c_0)] [] (enc_impl_FleetResult_E y).1 (enc_impl_FleetResult_E y).2 :=
  funX_good (ke := true) E_ok (pc_good (pc := pc_spec_l15Bad_E fu) (hpc_spec_l15Bad_E fu) (hpx_spec_l15Bad_E fu)) (fn := Try.f25) (c := body_spec_l15Bad_E) (out := out_impl_FleetResult_E) (y := y) (by kernel_rfl) (by kernel_rfl) (by kernel_rfl) (lpok_spec_l15Bad_E fu) (by kernel_rfl) (Nat.zero_le _) (fun d os hd => out_impl_FleetResult_E_enc d os _ hd) ((ev_spec_l15Bad_E fu c_0).trans hy)
theorem good_spec_l15Bad_E (fu : Nat) : ∀ xs ins o, S_spec_l15Bad_E fu xs ins = some o → ∀ y, o.x = some y → GoodX E Try.prog 25 xs ins (o.g y).1 (o.g y).2 := by
  intro xs ins o h y hy
  unfold S_spec_l15Bad_E at h
  split at h
  · rename_i a0_0
    cases h
    exact goodv_spec_l15Bad_E fu a0_0 y hy
  · cases h

/-! spec.l1In -/
def F_spec_l1In (fu : Nat) (v_0 : Int) (low_1 : Int) (high_2 : Int) : Option (Bool) :=
  (((bif (decide (v_0 ≥ low_1)) then (some (decide (v_0 ≤ high_2))) else (some false)) : Option Bool).bind fun m15 => (some m15))
def pcf_spec_l1In (fu : Nat) (f : Nat) (xs : List (D RT den)) : Option (Out RT den) := none
def pcx_spec_l1In (fu : Nat) (f : Nat) (xs : List (D RT den)) (ins : List (Ob RT den)) : Option (OutX RT den) := none
def pc_spec_l1In (fu : Nat) : Pc RT den := ⟨pcf_spec_l1In fu, fun _ => false, fun _ => false, pcx_spec_l1In fu⟩
def msk_spec_l1In (b : Nat) : List Nat := match b with | 200001 => [6] | _ => []
def lp_spec_l1In (fu : Nat) : Lp RT den (Bool) := fun b s k => none
theorem ev_spec_l1In (fu : Nat) (v_0 : Int) (low_1 : Int) (high_2 : Int) : evFun E (pc_spec_l1In fu) msk_spec_l1In (lp_spec_l1In fu) out_bo 24 [(.int .i64 v_0), (.int .i64 low_1), (.int .i64 high_2)] = F_spec_l1In fu v_0 low_1 high_2 := by kernel_rfl
noncomputable def body_spec_l1In : Code := Try.f24.body.getD .skip
theorem lpok_spec_l1In (fu : Nat) : LpOk E (pc_spec_l1In fu) msk_spec_l1In (lp_spec_l1In fu) (loops 0 body_spec_l1In) := by
  have h : loops 0 body_spec_l1In = [] := by kernel_rfl
  rw [h]; intro p hp; cases hp
def S_spec_l1In (fu : Nat) (xs : List (D RT den)) : Option (Out RT den) := match xs with | [.int .i64 a0_0, .int .i64 a1_0, .int .i64 a2_0] => some ⟨Bool, F_spec_l1In fu a0_0 a1_0 a2_0, enc_bo, fun _ => true⟩ | _ => none
theorem hpc_spec_l1In (fu : Nat) : ∀ f xs o, pcf_spec_l1In fu f xs = some o → ∀ y, o.x = some y → Good E Try.prog f xs (o.g y) := by
  intro f xs o h
  cases h
theorem hpx_spec_l1In (fu : Nat) : ∀ f xs ins o, pcx_spec_l1In fu f xs ins = some o → ∀ y, o.x = some y → GoodX E Try.prog f xs ins (o.g y).1 (o.g y).2 := by
  intro f xs ins o h
  cases h
theorem goodv_spec_l1In (fu : Nat) (v_0 : Int) (low_1 : Int) (high_2 : Int) (y : Bool) (hy : F_spec_l1In fu v_0 low_1 high_2 = some y) : Good E Try.prog 24 [(.int .i64 v_0), (.int .i64 low_1), (.int .i64 high_2)] (enc_bo y) :=
  fun_good E_ok (pc_good (pc := pc_spec_l1In fu) (hpc_spec_l1In fu) (hpx_spec_l1In fu)) (fn := Try.f24) (c := body_spec_l1In) (out := out_bo) (y := y) (by kernel_rfl) (by kernel_rfl) (by kernel_rfl) (lpok_spec_l1In fu) (fun d hd => out_bo_enc d _ hd) ((ev_spec_l1In fu v_0 low_1 high_2).trans hy)
theorem good_spec_l1In (fu : Nat) : ∀ xs o, S_spec_l1In fu xs = some o → ∀ y, o.x = some y → Good E Try.prog 24 xs (o.g y) := by
  intro xs o h y hy
  unfold S_spec_l1In at h
  split at h
  · rename_i a0_0 a1_0 a2_0
    cases h
    exact goodv_spec_l1In fu a0_0 a1_0 a2_0 y hy
  · cases h

/-! spec.NewFleet -/
def F_spec_NewFleet_H_B0 {ρ : Type} (fu : Nat) (muxes0_0 : Int) (o0_2 : Int) (o0_3 : Int) (o0_4 : Int) (o1_5 : Int) (o1_6 : Int) (o1_7 : Int) (k0 : Nat → Nat → (Nat → S_impl_Mux_0) → Option ρ) (k4_1 : Int) (o1_8 : Nat) (on2_9 : Nat) (of2_10 : (Nat → S_impl_Mux_0)) (go : Int → Nat → Nat → (Nat → S_impl_Mux_0) → Option ρ) : Option ρ :=
  (bif (decide (k4_1 < muxes0_0)) then (bif (decide ((o1_8 + 1) ≤ 9223372036854775807) && decide ((o1_8 + 1) * 128 ≤ 140737488355328)) then (go (IntKind.wrap .i64 (k4_1 + 1)) (o1_8 + 1) (o1_8 + 1) (fun i =>
    if i < o1_8 then (of2_10 i) else ((fun i => [(⟨(IntKind.wrap .i64 (600 + k4_1)), 0, false, 0⟩ : S_impl_Mux_0)].getD i (dflt .impl_Mux)) (i - o1_8)))) else none) else (k0 o1_8 on2_9 of2_10))
def F_spec_NewFleet_H (fu : Nat) (muxes_0 : Int) : Option (S_impl_FleetResult) :=
  ((F_spec_l1In fu muxes_0 1 3).bind fun y10 => (bif (!y10) then ((F_spec_l15Bad_E fu 2).bind fun y11 => (some (⟨y11.Code, y11.Why, y11.Name, (⟨(some true), 0, (fun _ => dflt .u8)⟩ : (Sl Int)),
    (⟨(⟨(some true), 0, (fun _ => dflt .impl_Entry)⟩ : (Sl S_impl_Entry)), (⟨(some true), 0, (fun _ => dflt .impl_Mux)⟩ : (Sl S_impl_Mux_0))⟩ : S_impl_Fleet)⟩ : S_impl_FleetResult))) else
    (L (fun w0 go0 => F_spec_NewFleet_H_B0 fu muxes_0 0 0 0 0 0 0 (fun z12 z13 z14 => (some (⟨0, 0, 0, (⟨(some true), 0, (fun _ => dflt .u8)⟩ : (Sl Int)), (⟨(⟨(some true), 0, (fun _ =>
    dflt .impl_Entry)⟩ : (Sl S_impl_Entry)), (⟨none, z12, z14⟩ : (Sl S_impl_Mux_0))⟩ : S_impl_Fleet)⟩ : S_impl_FleetResult))) w0.1 w0.2.1 w0.2.2.1 w0.2.2.2 (fun q0 q1 q2 q3 => go0 (q0,
    q1, q2, q3))) fu ((0, 0, 0, (fun _ => dflt .impl_Mux)) : Int × Nat × Nat × (Nat → S_impl_Mux_0)))))
def pcf_spec_NewFleet_H (fu : Nat) (f : Nat) (xs : List (D RT den)) : Option (Out RT den) := match f with | 24 => S_spec_l1In fu xs | _ => none
def pcx_spec_NewFleet_H (fu : Nat) (f : Nat) (xs : List (D RT den)) (ins : List (Ob RT den)) : Option (OutX RT den) := match f with | 25 => S_spec_l15Bad_E fu xs ins | _ => none
def pc_spec_NewFleet_H (fu : Nat) : Pc RT den := ⟨pcf_spec_NewFleet_H fu, fun f => match f with | 25 => true | _ => false, fun _ => false, pcx_spec_NewFleet_H fu⟩
def msk_spec_NewFleet_H (b : Nat) : List Nat := match b with | 0 => [1, 5, 6, 7, 8, 9, 10, 11, 12, 13, 14, 15, 16, 17, 18, 19, 20, 21, 22, 23, 24, 25] | 100000 => [0, 1, 4, 5, 6, 7, 8, 9, 10, 11, 12, 13, 14, 15, 16, 17, 18, 19, 20, 21, 22, 23, 24, 25] | 300000 => [1001005] | _ => []
def ps_spec_NewFleet_H_0 : List (Pat RT) := [.flat (.int .i64), .flat .dead, .flat (.ref 0 0), .flat (.ref 1 0), .flat (.int .i64), .flat .dead, .flat .dead, .flat .dead, .flat .dead, .flat .dead, .flat .dead, .flat .dead, .flat .dead, .flat .dead, .flat .dead, .flat .dead, .flat .dead, .flat .dead, .flat .dead, .flat .dead, .flat .dead, .flat .dead, .flat .dead, .flat .dead, .flat .dead, .flat .dead]
def os_spec_NewFleet_H_0 : List (OP RT) := [.box [(.int .i64), (.int .i64), (.int .i64), (.emp true .u8), (.emp true .impl_Entry), (.emp true .impl_Mux)], .box [(.int .i64), (.int .i64), (.int .i64), (.emp true .u8), (.emp true .impl_Entry), (.os 2)], .row false .impl_Mux]
def conv_spec_NewFleet_H_0 (r : Raw den ps_spec_NewFleet_H_0 os_spec_NewFleet_H_0) : (Int × Int × Int × Int × Int × Int × Int) × (Int × Nat × Nat × (Nat → S_impl_Mux_0)) := ((r.1.1, r.2.1.1, r.2.1.2.1, r.2.1.2.2.1, r.2.2.1.1, r.2.2.1.2.1, r.2.2.1.2.2.1), (r.1.2.2.2.2.1, r.2.2.1.2.2.2.2.2.1, r.2.2.2.1.1, r.2.2.2.1.2))
def back_spec_NewFleet_H_0 (c : Int × Int × Int × Int × Int × Int × Int) (w : Int × Nat × Nat × (Nat → S_impl_Mux_0)) : St RT den := ⟨[(.int .i64 c.1), .dead, (.ref 0 0), (.ref 1 0), (.int .i64 w.1), .dead, .dead, .dead, .dead, .dead, .dead, .dead, .dead, .dead, .dead, .dead, .dead, .dead, .dead, .dead, .dead, .dead, .dead, .dead, .dead, .dead], [(.box [(.int .i64 c.2.1), (.int .i64 c.2.2.1), (.int .i64 c.2.2.2.1), (.emp true .u8), (.emp true .impl_Entry), (.emp true .impl_Mux)]), (.box [(.int .i64 c.2.2.2.2.1), (.int .i64 c.2.2.2.2.2.1), (.int .i64 c.2.2.2.2.2.2), (.emp true .u8), (.emp true .impl_Entry), (.os 2 w.2.1)]), (.row false .impl_Mux w.2.2.1 w.2.2.2)]⟩
def Bk_spec_NewFleet_H_0 {ρ : Type} (fu : Nat) (c : Int × Int × Int × Int × Int × Int × Int) (k : Ex → St RT den → Option ρ) (w : Int × Nat × Nat × (Nat → S_impl_Mux_0)) (go : (Int × Nat × Nat × (Nat → S_impl_Mux_0)) → Option ρ) : Option ρ := F_spec_NewFleet_H_B0 fu c.1 c.2.1 c.2.2.1 c.2.2.2.1 c.2.2.2.2.1 c.2.2.2.2.2.1 c.2.2.2.2.2.2 (fun a0 a1 a2 => k (.exit 0) ⟨[.dead, .dead, (.ref 0 0), (.ref 1 0), .dead, .dead, .dead, .dead, .dead, .dead, .dead, .dead, .dead, .dead, .dead, .dead, .dead, .dead, .dead, .dead, .dead, .dead, .dead, .dead, .dead, .dead], [(.box [(.int .i64 c.2.1), (.int .i64 c.2.2.1), (.int .i64 c.2.2.2.1), (.emp true .u8), (.emp true .impl_Entry), (.emp true .impl_Mux)]), (.box [(.int .i64 c.2.2.2.2.1), (.int .i64 c.2.2.2.2.2.1), (.int .i64 c.2.2.2.2.2.2), (.emp true .u8), (.emp true .impl_Entry), (.os 2 a0)]), (.row false .impl_Mux a1 a2)]⟩) w.1 w.2.1 w.2.2.1 w.2.2.2 (fun q0 q1 q2 q3 => go (q0, q1, q2, q3))
def lp_spec_NewFleet_H (fu : Nat) : Lp RT den (S_impl_FleetResult) := fun b s k => match b with | 0 => handle ps_spec_NewFleet_H_0 os_spec_NewFleet_H_0 conv_spec_NewFleet_H_0 (Bk_spec_NewFleet_H_0 fu) fu s k | _ => none
theorem ev_spec_NewFleet_H (fu : Nat) (muxes_0 : Int) : evFunX E false (pc_spec_NewFleet_H fu) msk_spec_NewFleet_H (lp_spec_NewFleet_H fu) out_impl_FleetResult_H 10 [(.int .i64 muxes_0)] [] = F_spec_NewFleet_H fu muxes_0 := by kernel_rfl
noncomputable def body_spec_NewFleet_H : Code := Try.f10.body.getD .skip
noncomputable def lc_spec_NewFleet_H_0 : Code := ((loops 0 body_spec_NewFleet_H).getD 0 (0, .skip)).2
theorem round_spec_NewFleet_H_0 (fu : Nat) (it : St RT den → Option (S_impl_FleetResult)) (k : Ex → St RT den → Option (S_impl_FleetResult)) c w : evCode E (pc_spec_NewFleet_H fu) msk_spec_NewFleet_H (lp_spec_NewFleet_H fu) 0 lc_spec_NewFleet_H_0 (back_spec_NewFleet_H_0 c w) (after (msk_spec_NewFleet_H 0) (msk_spec_NewFleet_H 100000) 3 it k) = Bk_spec_NewFleet_H_0 fu c k w (fun w => it (back_spec_NewFleet_H_0 c w)) := by kernel_rfl
theorem lpok_spec_NewFleet_H_0 (fu : Nat) : ∀ s k r, lp_spec_NewFleet_H fu 0 s k = some r → ∃ fuel, iter (msk_spec_NewFleet_H 0) (msk_spec_NewFleet_H 100000) s.objs.length (evCode E (pc_spec_NewFleet_H fu) msk_spec_NewFleet_H (lp_spec_NewFleet_H fu) 0 lc_spec_NewFleet_H_0) fuel s k = some r :=
  handle_ok (ps := ps_spec_NewFleet_H_0) (os := os_spec_NewFleet_H_0) (conv := conv_spec_NewFleet_H_0) (B := Bk_spec_NewFleet_H_0 fu) (fu := fu) back_spec_NewFleet_H_0 (fun raw => by kernel_rfl) 3 (fun c w => by kernel_rfl) (round_spec_NewFleet_H_0 fu)
theorem lpok_spec_NewFleet_H (fu : Nat) : LpOk E (pc_spec_NewFleet_H fu) msk_spec_NewFleet_H (lp_spec_NewFleet_H fu) (loops 0 body_spec_NewFleet_H) := loop_all 1 (by kernel_rfl) fun i hi => match i, hi with
  | 0, _ => by
    have h : (loops 0 body_spec_NewFleet_H).getD 0 (0, .skip) = (0, lc_spec_NewFleet_H_0) := by kernel_rfl
    rw [h]; exact lpok_spec_NewFleet_H_0 fu
  | i + 1, hi => absurd hi (by omega)
def S_spec_NewFleet_H (fu : Nat) (xs : List (D RT den)) (ins : List (Ob RT den)) : Option (OutX RT den) := match xs, ins with | [.int .i64 a0_0], [] => some ⟨S_impl_FleetResult, F_spec_NewFleet_H fu a0_0, enc_impl_FleetResult_H⟩ | _, _ => none
theorem hpc_spec_NewFleet_H (fu : Nat) : ∀ f xs o, pcf_spec_NewFleet_H fu f xs = some o → ∀ y, o.x = some y → Good E Try.prog f xs (o.g y) := by
  intro f xs o h
  unfold pcf_spec_NewFleet_H at h
  split at h
  · exact good_spec_l1In fu xs o h
  · cases h
theorem hpx_spec_NewFleet_H (fu : Nat) : ∀ f xs ins o, pcx_spec_NewFleet_H fu f xs ins = some o → ∀ y, o.x = some y → GoodX E Try.prog f xs ins (o.g y).1 (o.g y).2 := by
  intro f xs ins o h
  unfold pcx_spec_NewFleet_H at h
  split at h
  · exact good_spec_l15Bad_E fu xs ins o h
  · cases h
theorem goodv_spec_NewFleet_H (fu : Nat) (muxes_0 : Int) (y : S_impl_FleetResult) (hy : F_spec_NewFleet_H fu muxes_0 = some y) : GoodX E Try.prog 10 [(.int .i64 muxes_0)] [] (enc_impl_FleetResult_H y).1 (enc_impl_FleetResult_H y).2 :=
  funX_good (ke := false) E_ok (pc_good (pc := pc_spec_NewFleet_H fu) (hpc_spec_NewFleet_H fu) (hpx_spec_NewFleet_H fu)) (fn := Try.f10) (c := body_spec_NewFleet_H) (out := out_impl_FleetResult_H) (y := y) (by kernel_rfl) (by kernel_rfl) (by kernel_rfl) (lpok_spec_NewFleet_H fu) (by kernel_rfl) (Nat.zero_le _) (fun d os hd => out_impl_FleetResult_H_enc d os _ hd) ((ev_spec_NewFleet_H fu muxes_0).trans hy)
theorem good_spec_NewFleet_H (fu : Nat) : ∀ xs ins o, S_spec_NewFleet_H fu xs ins = some o → ∀ y, o.x = some y → GoodX E Try.prog 10 xs ins (o.g y).1 (o.g y).2 := by
  intro xs ins o h y hy
  unfold S_spec_NewFleet_H at h
  split at h
  · rename_i a0_0
    cases h
    exact goodv_spec_NewFleet_H fu a0_0 y hy
  · cases h

/-! impl.freshMux -/
def F_impl_freshMux_E (fu : Nat) (mux_0 : Int) : Option (S_impl_Mux) :=
  (some (⟨(IntKind.wrap .i64 (600 + mux_0)), 0, (⟨false, (⟨0, (⟨(some true), 0, (fun _ => dflt .impl_Backend)⟩ : (Sl S_impl_Backend)), (⟨(some true), 0, (fun _ => dflt .impl_Vip)⟩ : (Sl S_impl_Vip))⟩ : S_impl_Config)⟩ : S_impl_Watch),
    (⟨(some true), 0, (fun _ => dflt .sl_i64)⟩ : (Sl (Sl Int))), (⟨(some true), 0, (fun _ => dflt .impl_Held)⟩ : (Sl S_impl_Held))⟩ : S_impl_Mux))
def pcf_impl_freshMux_E (fu : Nat) (f : Nat) (xs : List (D RT den)) : Option (Out RT den) := none
def pcx_impl_freshMux_E (fu : Nat) (f : Nat) (xs : List (D RT den)) (ins : List (Ob RT den)) : Option (OutX RT den) := none
def pc_impl_freshMux_E (fu : Nat) : Pc RT den := ⟨pcf_impl_freshMux_E fu, fun _ => false, fun _ => false, pcx_impl_freshMux_E fu⟩
def msk_impl_freshMux_E (b : Nat) : List Nat := []
def lp_impl_freshMux_E (fu : Nat) : Lp RT den (S_impl_Mux) := fun b s k => none
theorem ev_impl_freshMux_E (fu : Nat) (mux_0 : Int) : evFunX E true (pc_impl_freshMux_E fu) msk_impl_freshMux_E (lp_impl_freshMux_E fu) out_impl_Mux_E 27 [(.int .i64 mux_0)] [] = F_impl_freshMux_E fu mux_0 := by kernel_rfl
noncomputable def body_impl_freshMux_E : Code := Try.f27.body.getD .skip
theorem lpok_impl_freshMux_E (fu : Nat) : LpOk E (pc_impl_freshMux_E fu) msk_impl_freshMux_E (lp_impl_freshMux_E fu) (loops 0 body_impl_freshMux_E) := by
  have h : loops 0 body_impl_freshMux_E = [] := by kernel_rfl
  rw [h]; intro p hp; cases hp
def S_impl_freshMux_E (fu : Nat) (xs : List (D RT den)) (ins : List (Ob RT den)) : Option (OutX RT den) := match xs, ins with | [.int .i64 a0_0], [] => some ⟨S_impl_Mux, F_impl_freshMux_E fu a0_0, enc_impl_Mux_E⟩ | _, _ => none
theorem hpc_impl_freshMux_E (fu : Nat) : ∀ f xs o, pcf_impl_freshMux_E fu f xs = some o → ∀ y, o.x = some y → Good E Try.prog f xs (o.g y) := by
  intro f xs o h
  cases h
theorem hpx_impl_freshMux_E (fu : Nat) : ∀ f xs ins o, pcx_impl_freshMux_E fu f xs ins = some o → ∀ y, o.x = some y → GoodX E Try.prog f xs ins (o.g y).1 (o.g y).2 := by
  intro f xs ins o h
  cases h
theorem goodv_impl_freshMux_E (fu : Nat) (mux_0 : Int) (y : S_impl_Mux) (hy : F_impl_freshMux_E fu mux_0 = some y) : GoodX E Try.prog 27 [(.int .i64 mux_0)] [] (enc_impl_Mux_E y).1 (enc_impl_Mux_E y).2 :=
  funX_good (ke := true) E_ok (pc_good (pc := pc_impl_freshMux_E fu) (hpc_impl_freshMux_E fu) (hpx_impl_freshMux_E fu)) (fn := Try.f27) (c := body_impl_freshMux_E) (out := out_impl_Mux_E) (y := y) (by kernel_rfl) (by kernel_rfl) (by kernel_rfl) (lpok_impl_freshMux_E fu) (by kernel_rfl) (Nat.zero_le _) (fun d os hd => out_impl_Mux_E_enc d os _ hd) ((ev_impl_freshMux_E fu mux_0).trans hy)
theorem good_impl_freshMux_E (fu : Nat) : ∀ xs ins o, S_impl_freshMux_E fu xs ins = some o → ∀ y, o.x = some y → GoodX E Try.prog 27 xs ins (o.g y).1 (o.g y).2 := by
  intro xs ins o h y hy
  unfold S_impl_freshMux_E at h
  split at h
  · rename_i a0_0
    cases h
    exact goodv_impl_freshMux_E fu a0_0 y hy
  · cases h

/-! impl.in -/
def F_impl_in (fu : Nat) (n_0 : Int) (low_1 : Int) (high_2 : Int) : Option (Bool) :=
  (((bif (decide (n_0 ≥ low_1)) then (some (decide (n_0 ≤ high_2))) else (some false)) : Option Bool).bind fun m31 => (some m31))
def pcf_impl_in (fu : Nat) (f : Nat) (xs : List (D RT den)) : Option (Out RT den) := none
def pcx_impl_in (fu : Nat) (f : Nat) (xs : List (D RT den)) (ins : List (Ob RT den)) : Option (OutX RT den) := none
def pc_impl_in (fu : Nat) : Pc RT den := ⟨pcf_impl_in fu, fun _ => false, fun _ => false, pcx_impl_in fu⟩
def msk_impl_in (b : Nat) : List Nat := match b with | 200001 => [6] | _ => []
def lp_impl_in (fu : Nat) : Lp RT den (Bool) := fun b s k => none
theorem ev_impl_in (fu : Nat) (n_0 : Int) (low_1 : Int) (high_2 : Int) : evFun E (pc_impl_in fu) msk_impl_in (lp_impl_in fu) out_bo 26 [(.int .i64 n_0), (.int .i64 low_1), (.int .i64 high_2)] = F_impl_in fu n_0 low_1 high_2 := by kernel_rfl
noncomputable def body_impl_in : Code := Try.f26.body.getD .skip
theorem lpok_impl_in (fu : Nat) : LpOk E (pc_impl_in fu) msk_impl_in (lp_impl_in fu) (loops 0 body_impl_in) := by
  have h : loops 0 body_impl_in = [] := by kernel_rfl
  rw [h]; intro p hp; cases hp
def S_impl_in (fu : Nat) (xs : List (D RT den)) : Option (Out RT den) := match xs with | [.int .i64 a0_0, .int .i64 a1_0, .int .i64 a2_0] => some ⟨Bool, F_impl_in fu a0_0 a1_0 a2_0, enc_bo, fun _ => true⟩ | _ => none
theorem hpc_impl_in (fu : Nat) : ∀ f xs o, pcf_impl_in fu f xs = some o → ∀ y, o.x = some y → Good E Try.prog f xs (o.g y) := by
  intro f xs o h
  cases h
theorem hpx_impl_in (fu : Nat) : ∀ f xs ins o, pcx_impl_in fu f xs ins = some o → ∀ y, o.x = some y → GoodX E Try.prog f xs ins (o.g y).1 (o.g y).2 := by
  intro f xs ins o h
  cases h
theorem goodv_impl_in (fu : Nat) (n_0 : Int) (low_1 : Int) (high_2 : Int) (y : Bool) (hy : F_impl_in fu n_0 low_1 high_2 = some y) : Good E Try.prog 26 [(.int .i64 n_0), (.int .i64 low_1), (.int .i64 high_2)] (enc_bo y) :=
  fun_good E_ok (pc_good (pc := pc_impl_in fu) (hpc_impl_in fu) (hpx_impl_in fu)) (fn := Try.f26) (c := body_impl_in) (out := out_bo) (y := y) (by kernel_rfl) (by kernel_rfl) (by kernel_rfl) (lpok_impl_in fu) (fun d hd => out_bo_enc d _ hd) ((ev_impl_in fu n_0 low_1 high_2).trans hy)
theorem good_impl_in (fu : Nat) : ∀ xs o, S_impl_in fu xs = some o → ∀ y, o.x = some y → Good E Try.prog 26 xs (o.g y) := by
  intro xs o h y hy
  unfold S_impl_in at h
  split at h
  · rename_i a0_0 a1_0 a2_0
    cases h
    exact goodv_impl_in fu a0_0 a1_0 a2_0 y hy
  · cases h

/-! impl.NewFleet -/
def F_impl_NewFleet_H_B0 {ρ : Type} (fu : Nat) (t10_0 : Int) (o0_2 : Int) (o0_3 : Int) (o0_4 : Int) (k0 : Nat → Nat → (Nat → S_impl_Mux_0) → Option ρ) (t11_1 : Int) (o1_5 : Nat) (on2_6 : Nat) (of2_7 : (Nat → S_impl_Mux_0)) (go : Int → Nat → Nat → (Nat → S_impl_Mux_0) → Option ρ) : Option ρ :=
  (bif (decide (t11_1 < t10_0)) then ((F_impl_freshMux_E fu t11_1).bind fun y27 => (bif (decide ((o1_5 + 1) ≤ 9223372036854775807) && decide ((o1_5 + 1) * 128 ≤ 140737488355328)) then
    (go (IntKind.wrap .i64 (t11_1 + 1)) (o1_5 + 1) (o1_5 + 1) (fun i => if i < o1_5 then (of2_7 i) else ((fun i => [(⟨y27.Address, y27.Now, y27.Watch.Ready,
    y27.Watch.Config.Version⟩ : S_impl_Mux_0)].getD i (dflt .impl_Mux)) (i - o1_5)))) else none)) else (k0 o1_5 on2_6 of2_7))
def F_impl_NewFleet_H (fu : Nat) (muxes_0 : Int) : Option (S_impl_FleetResult) :=
  ((F_impl_in fu muxes_0 1 3).bind fun y26 => (bif (!y26) then (some (⟨2, 0, 0, (⟨(some true), 0, (fun _ => dflt .u8)⟩ : (Sl Int)), (⟨(⟨(some true), 0, (fun _ => dflt .impl_Entry)⟩ : (Sl S_impl_Entry)),
    (⟨(some true), 0, (fun _ => dflt .impl_Mux)⟩ : (Sl S_impl_Mux_0))⟩ : S_impl_Fleet)⟩ : S_impl_FleetResult)) else (L (fun w0 go0 => F_impl_NewFleet_H_B0 fu muxes_0 0 0 0 (fun z28 z29 z30 =>
    (some (⟨0, 0, 0, (⟨(some true), 0, (fun _ => dflt .u8)⟩ : (Sl Int)), (⟨(⟨(some true), 0, (fun _ => dflt .impl_Entry)⟩ : (Sl S_impl_Entry)), (⟨none, z28, z30⟩ : (Sl S_impl_Mux_0))⟩ : S_impl_Fleet)⟩ : S_impl_FleetResult))) w0.1 w0.2.1 w0.2.2.1 w0.2.2.2 (fun q0 q1 q2 q3 =>
    go0 (q0, q1, q2, q3))) fu ((0, 0, 0, (fun _ => dflt .impl_Mux)) : Int × Nat × Nat × (Nat → S_impl_Mux_0)))))
def pcf_impl_NewFleet_H (fu : Nat) (f : Nat) (xs : List (D RT den)) : Option (Out RT den) := match f with | 26 => S_impl_in fu xs | _ => none
def pcx_impl_NewFleet_H (fu : Nat) (f : Nat) (xs : List (D RT den)) (ins : List (Ob RT den)) : Option (OutX RT den) := match f with | 27 => S_impl_freshMux_E fu xs ins | _ => none
def pc_impl_NewFleet_H (fu : Nat) : Pc RT den := ⟨pcf_impl_NewFleet_H fu, fun f => match f with | 27 => true | _ => false, fun _ => false, pcx_impl_NewFleet_H fu⟩
def msk_impl_NewFleet_H (b : Nat) : List Nat := match b with | 0 => [0, 1, 4, 5, 6, 7, 8, 9, 12, 13, 14, 15, 16, 17, 18, 19, 20, 21, 22, 23] | 100000 => [0, 1, 4, 5, 6, 7, 8, 9, 10, 11, 12, 13, 14, 15, 16, 17, 18, 19, 20, 21, 22, 23] | 300000 => [1001001] | _ => []
def ps_impl_NewFleet_H_0 : List (Pat RT) := [.flat .dead, .flat .dead, .flat (.ref 0 0), .flat (.ref 1 0), .flat .dead, .flat .dead, .flat .dead, .flat .dead, .flat .dead, .flat .dead, .flat (.int .i64), .flat (.int .i64), .flat .dead, .flat .dead, .flat .dead, .flat .dead, .flat .dead, .flat .dead, .flat .dead, .flat .dead, .flat .dead, .flat .dead, .flat .dead, .flat .dead]
def os_impl_NewFleet_H_0 : List (OP RT) := [.box [(.int .i64), (.int .i64), (.int .i64), (.emp true .u8), (.emp true .impl_Entry), (.emp true .impl_Mux)], .box [(.emp true .impl_Entry), (.os 2)], .row false .impl_Mux]
def conv_impl_NewFleet_H_0 (r : Raw den ps_impl_NewFleet_H_0 os_impl_NewFleet_H_0) : (Int × Int × Int × Int) × (Int × Nat × Nat × (Nat → S_impl_Mux_0)) := ((r.1.2.2.2.2.2.2.2.2.2.2.1, r.2.1.1, r.2.1.2.1, r.2.1.2.2.1), (r.1.2.2.2.2.2.2.2.2.2.2.2.1, r.2.2.1.2.1, r.2.2.2.1.1, r.2.2.2.1.2))
def back_impl_NewFleet_H_0 (c : Int × Int × Int × Int) (w : Int × Nat × Nat × (Nat → S_impl_Mux_0)) : St RT den := ⟨[.dead, .dead, (.ref 0 0), (.ref 1 0), .dead, .dead, .dead, .dead, .dead, .dead, (.int .i64 c.1), (.int .i64 w.1), .dead, .dead, .dead, .dead, .dead, .dead, .dead, .dead, .dead, .dead, .dead, .dead], [(.box [(.int .i64 c.2.1), (.int .i64 c.2.2.1), (.int .i64 c.2.2.2), (.emp true .u8), (.emp true .impl_Entry), (.emp true .impl_Mux)]), (.box [(.emp true .impl_Entry), (.os 2 w.2.1)]), (.row false .impl_Mux w.2.2.1 w.2.2.2)]⟩
def Bk_impl_NewFleet_H_0 {ρ : Type} (fu : Nat) (c : Int × Int × Int × Int) (k : Ex → St RT den → Option ρ) (w : Int × Nat × Nat × (Nat → S_impl_Mux_0)) (go : (Int × Nat × Nat × (Nat → S_impl_Mux_0)) → Option ρ) : Option ρ := F_impl_NewFleet_H_B0 fu c.1 c.2.1 c.2.2.1 c.2.2.2 (fun a0 a1 a2 => k (.exit 0) ⟨[.dead, .dead, (.ref 0 0), (.ref 1 0), .dead, .dead, .dead, .dead, .dead, .dead, .dead, .dead, .dead, .dead, .dead, .dead, .dead, .dead, .dead, .dead, .dead, .dead, .dead, .dead], [(.box [(.int .i64 c.2.1), (.int .i64 c.2.2.1), (.int .i64 c.2.2.2), (.emp true .u8), (.emp true .impl_Entry), (.emp true .impl_Mux)]), (.box [(.emp true .impl_Entry), (.os 2 a0)]), (.row false .impl_Mux a1 a2)]⟩) w.1 w.2.1 w.2.2.1 w.2.2.2 (fun q0 q1 q2 q3 => go (q0, q1, q2, q3))
def lp_impl_NewFleet_H (fu : Nat) : Lp RT den (S_impl_FleetResult) := fun b s k => match b with | 0 => handle ps_impl_NewFleet_H_0 os_impl_NewFleet_H_0 conv_impl_NewFleet_H_0 (Bk_impl_NewFleet_H_0 fu) fu s k | _ => none
theorem ev_impl_NewFleet_H (fu : Nat) (muxes_0 : Int) : evFunX E false (pc_impl_NewFleet_H fu) msk_impl_NewFleet_H (lp_impl_NewFleet_H fu) out_impl_FleetResult_H 11 [(.int .i64 muxes_0)] [] = F_impl_NewFleet_H fu muxes_0 := by kernel_rfl
noncomputable def body_impl_NewFleet_H : Code := Try.f11.body.getD .skip
noncomputable def lc_impl_NewFleet_H_0 : Code := ((loops 0 body_impl_NewFleet_H).getD 0 (0, .skip)).2
theorem round_impl_NewFleet_H_0 (fu : Nat) (it : St RT den → Option (S_impl_FleetResult)) (k : Ex → St RT den → Option (S_impl_FleetResult)) c w : evCode E (pc_impl_NewFleet_H fu) msk_impl_NewFleet_H (lp_impl_NewFleet_H fu) 0 lc_impl_NewFleet_H_0 (back_impl_NewFleet_H_0 c w) (after (msk_impl_NewFleet_H 0) (msk_impl_NewFleet_H 100000) 3 it k) = Bk_impl_NewFleet_H_0 fu c k w (fun w => it (back_impl_NewFleet_H_0 c w)) := by kernel_rfl
theorem lpok_impl_NewFleet_H_0 (fu : Nat) : ∀ s k r, lp_impl_NewFleet_H fu 0 s k = some r → ∃ fuel, iter (msk_impl_NewFleet_H 0) (msk_impl_NewFleet_H 100000) s.objs.length (evCode E (pc_impl_NewFleet_H fu) msk_impl_NewFleet_H (lp_impl_NewFleet_H fu) 0 lc_impl_NewFleet_H_0) fuel s k = some r :=
  handle_ok (ps := ps_impl_NewFleet_H_0) (os := os_impl_NewFleet_H_0) (conv := conv_impl_NewFleet_H_0) (B := Bk_impl_NewFleet_H_0 fu) (fu := fu) back_impl_NewFleet_H_0 (fun raw => by kernel_rfl) 3 (fun c w => by kernel_rfl) (round_impl_NewFleet_H_0 fu)
theorem lpok_impl_NewFleet_H (fu : Nat) : LpOk E (pc_impl_NewFleet_H fu) msk_impl_NewFleet_H (lp_impl_NewFleet_H fu) (loops 0 body_impl_NewFleet_H) := loop_all 1 (by kernel_rfl) fun i hi => match i, hi with
  | 0, _ => by
    have h : (loops 0 body_impl_NewFleet_H).getD 0 (0, .skip) = (0, lc_impl_NewFleet_H_0) := by kernel_rfl
    rw [h]; exact lpok_impl_NewFleet_H_0 fu
  | i + 1, hi => absurd hi (by omega)
def S_impl_NewFleet_H (fu : Nat) (xs : List (D RT den)) (ins : List (Ob RT den)) : Option (OutX RT den) := match xs, ins with | [.int .i64 a0_0], [] => some ⟨S_impl_FleetResult, F_impl_NewFleet_H fu a0_0, enc_impl_FleetResult_H⟩ | _, _ => none
theorem hpc_impl_NewFleet_H (fu : Nat) : ∀ f xs o, pcf_impl_NewFleet_H fu f xs = some o → ∀ y, o.x = some y → Good E Try.prog f xs (o.g y) := by
  intro f xs o h
  unfold pcf_impl_NewFleet_H at h
  split at h
  · exact good_impl_in fu xs o h
  · cases h
theorem hpx_impl_NewFleet_H (fu : Nat) : ∀ f xs ins o, pcx_impl_NewFleet_H fu f xs ins = some o → ∀ y, o.x = some y → GoodX E Try.prog f xs ins (o.g y).1 (o.g y).2 := by
  intro f xs ins o h
  unfold pcx_impl_NewFleet_H at h
  split at h
  · exact good_impl_freshMux_E fu xs ins o h
  · cases h
theorem goodv_impl_NewFleet_H (fu : Nat) (muxes_0 : Int) (y : S_impl_FleetResult) (hy : F_impl_NewFleet_H fu muxes_0 = some y) : GoodX E Try.prog 11 [(.int .i64 muxes_0)] [] (enc_impl_FleetResult_H y).1 (enc_impl_FleetResult_H y).2 :=
  funX_good (ke := false) E_ok (pc_good (pc := pc_impl_NewFleet_H fu) (hpc_impl_NewFleet_H fu) (hpx_impl_NewFleet_H fu)) (fn := Try.f11) (c := body_impl_NewFleet_H) (out := out_impl_FleetResult_H) (y := y) (by kernel_rfl) (by kernel_rfl) (by kernel_rfl) (lpok_impl_NewFleet_H fu) (by kernel_rfl) (Nat.zero_le _) (fun d os hd => out_impl_FleetResult_H_enc d os _ hd) ((ev_impl_NewFleet_H fu muxes_0).trans hy)
theorem good_impl_NewFleet_H (fu : Nat) : ∀ xs ins o, S_impl_NewFleet_H fu xs ins = some o → ∀ y, o.x = some y → GoodX E Try.prog 11 xs ins (o.g y).1 (o.g y).2 := by
  intro xs ins o h y hy
  unfold S_impl_NewFleet_H at h
  split at h
  · rename_i a0_0
    cases h
    exact goodv_impl_NewFleet_H fu a0_0 y hy
  · cases h

/-! laws.markByteS -/
def F_laws_markByteS_L_B0 {ρ : Type} (fu : Nat) (a0_0 : Nat) (on0_3 : Nat) (k0 : Int → (Nat → Int) → Option ρ) (k1_1 : Int) (i5_2 : Int) (of0_4 : (Nat → Int)) (go : Int → Int → (Nat → Int) → Option ρ) : Option ρ :=
  (bif (decide (i5_2 < ((a0_0 : Nat) : Int))) then ((bif (decide (0 ≤ i5_2) && decide ((Int.toNat i5_2) < a0_0)) then some () else none : Option Unit).bind fun _ => (go (IntKind.wrap .i64 (k1_1 + 1)) (IntKind.wrap .i64 (i5_2 + 1)) (fun j =>
    if j = (Int.toNat i5_2) then (IntKind.wrap .u8 k1_1) else of0_4 j))) else (k0 k1_1 of0_4))
def F_laws_markByteS_L (fu : Nat) (a_0_0 : Nat) (k_1_1 : Int) (rn0 : Nat) (rf0 : (Nat → Int)) : Option (Int × (Nat × (Nat → Int))) :=
  (L (fun w0 go0 => F_laws_markByteS_L_B0 fu a_0_0 rn0 (fun z34 z35 => (some (z34, (rn0, z35)))) w0.1 w0.2.1 w0.2.2 (fun q0 q1 q2 => go0 (q0, q1, q2))) fu ((k_1_1, 0, rf0) : Int × Int × (Nat → Int)))
def pcf_laws_markByteS_L (fu : Nat) (f : Nat) (xs : List (D RT den)) : Option (Out RT den) := none
def pcx_laws_markByteS_L (fu : Nat) (f : Nat) (xs : List (D RT den)) (ins : List (Ob RT den)) : Option (OutX RT den) := none
def pc_laws_markByteS_L (fu : Nat) : Pc RT den := ⟨pcf_laws_markByteS_L fu, fun _ => false, fun _ => false, pcx_laws_markByteS_L fu⟩
def msk_laws_markByteS_L (b : Nat) : List Nat := match b with | 0 => [2, 3, 4, 6, 7, 8, 9, 10, 11, 12, 13, 14, 15, 16, 17, 18, 19] | 100000 => [0, 2, 3, 5, 6, 7, 8, 9, 10, 11, 12, 13, 14, 15, 16, 17, 18, 19] | _ => []
def ps_laws_markByteS_L_0 : List (Pat RT) := [.flat (.os 0), .flat (.int .i64), .flat .dead, .flat .dead, .flat .dead, .flat (.int .i64), .flat .dead, .flat .dead, .flat .dead, .flat .dead, .flat .dead, .flat .dead, .flat .dead, .flat .dead, .flat .dead, .flat .dead, .flat .dead, .flat .dead, .flat .dead, .flat .dead]
def os_laws_markByteS_L_0 : List (OP RT) := [.row true .u8]
def conv_laws_markByteS_L_0 (r : Raw den ps_laws_markByteS_L_0 os_laws_markByteS_L_0) : (Nat × Nat) × (Int × Int × (Nat → Int)) := ((r.1.1, r.2.1.1), (r.1.2.1, r.1.2.2.2.2.2.1, r.2.1.2))
def back_laws_markByteS_L_0 (c : Nat × Nat) (w : Int × Int × (Nat → Int)) : St RT den := ⟨[(.os 0 c.1), (.int .i64 w.1), .dead, .dead, .dead, (.int .i64 w.2.1), .dead, .dead, .dead, .dead, .dead, .dead, .dead, .dead, .dead, .dead, .dead, .dead, .dead, .dead], [(.row true .u8 c.2 w.2.2)]⟩
def Bk_laws_markByteS_L_0 {ρ : Type} (fu : Nat) (c : Nat × Nat) (k : Ex → St RT den → Option ρ) (w : Int × Int × (Nat → Int)) (go : (Int × Int × (Nat → Int)) → Option ρ) : Option ρ := F_laws_markByteS_L_B0 fu c.1 c.2 (fun a0 a1 => k (.exit 0) ⟨[.dead, (.int .i64 a0), .dead, .dead, .dead, .dead, .dead, .dead, .dead, .dead, .dead, .dead, .dead, .dead, .dead, .dead, .dead, .dead, .dead, .dead], [(.row true .u8 c.2 a1)]⟩) w.1 w.2.1 w.2.2 (fun q0 q1 q2 => go (q0, q1, q2))
def lp_laws_markByteS_L (fu : Nat) : Lp RT den (Int × (Nat × (Nat → Int))) := fun b s k => match b with | 0 => handle ps_laws_markByteS_L_0 os_laws_markByteS_L_0 conv_laws_markByteS_L_0 (Bk_laws_markByteS_L_0 fu) fu s k | _ => none
def out_laws_markByteS_L (d : D RT den) (os : List (Ob RT den)) : Option (Int × (Nat × (Nat → Int))) := match d, os with | .int .i64 a0_0, [.row true .u8 n0 f0] => some (a0_0, (n0, f0)) | _, _ => none
def enc_laws_markByteS_L (y : Int × (Nat × (Nat → Int))) : D RT den × List (Ob RT den) := ((.int .i64 y.1), [(.row true .u8 y.2.1 y.2.2)])
theorem out_laws_markByteS_L_enc (d : D RT den) (os : List (Ob RT den)) (y : Int × (Nat × (Nat → Int))) (h : out_laws_markByteS_L d os = some y) : (unh 1 d).1 = (enc_laws_markByteS_L y).1 ∧ os ++ (unh 1 d).2 = (enc_laws_markByteS_L y).2 := by
  unfold out_laws_markByteS_L at h
  split at h
  · cases h; exact ⟨rfl, rfl⟩
  · cases h
theorem ev_laws_markByteS_L (fu : Nat) (a_0_0 : Nat) (k_1_1 : Int) (rn0 : Nat) (rf0 : (Nat → Int)) : evFunX E false (pc_laws_markByteS_L fu) msk_laws_markByteS_L (lp_laws_markByteS_L fu) out_laws_markByteS_L 20 [(.os 0 a_0_0), (.int .i64 k_1_1)] [(.row true .u8 rn0 rf0)] = F_laws_markByteS_L fu a_0_0 k_1_1 rn0 rf0 := by kernel_rfl
noncomputable def body_laws_markByteS_L : Code := Try.f20.body.getD .skip
noncomputable def lc_laws_markByteS_L_0 : Code := ((loops 0 body_laws_markByteS_L).getD 0 (0, .skip)).2
theorem round_laws_markByteS_L_0 (fu : Nat) (it : St RT den → Option (Int × (Nat × (Nat → Int)))) (k : Ex → St RT den → Option (Int × (Nat × (Nat → Int)))) c w : evCode E (pc_laws_markByteS_L fu) msk_laws_markByteS_L (lp_laws_markByteS_L fu) 0 lc_laws_markByteS_L_0 (back_laws_markByteS_L_0 c w) (after (msk_laws_markByteS_L 0) (msk_laws_markByteS_L 100000) 1 it k) = Bk_laws_markByteS_L_0 fu c k w (fun w => it (back_laws_markByteS_L_0 c w)) := by kernel_rfl
theorem lpok_laws_markByteS_L_0 (fu : Nat) : ∀ s k r, lp_laws_markByteS_L fu 0 s k = some r → ∃ fuel, iter (msk_laws_markByteS_L 0) (msk_laws_markByteS_L 100000) s.objs.length (evCode E (pc_laws_markByteS_L fu) msk_laws_markByteS_L (lp_laws_markByteS_L fu) 0 lc_laws_markByteS_L_0) fuel s k = some r :=
  handle_ok (ps := ps_laws_markByteS_L_0) (os := os_laws_markByteS_L_0) (conv := conv_laws_markByteS_L_0) (B := Bk_laws_markByteS_L_0 fu) (fu := fu) back_laws_markByteS_L_0 (fun raw => by kernel_rfl) 1 (fun c w => by kernel_rfl) (round_laws_markByteS_L_0 fu)
theorem lpok_laws_markByteS_L (fu : Nat) : LpOk E (pc_laws_markByteS_L fu) msk_laws_markByteS_L (lp_laws_markByteS_L fu) (loops 0 body_laws_markByteS_L) := loop_all 1 (by kernel_rfl) fun i hi => match i, hi with
  | 0, _ => by
    have h : (loops 0 body_laws_markByteS_L).getD 0 (0, .skip) = (0, lc_laws_markByteS_L_0) := by kernel_rfl
    rw [h]; exact lpok_laws_markByteS_L_0 fu
  | i + 1, hi => absurd hi (by omega)
def S_laws_markByteS_L (fu : Nat) (xs : List (D RT den)) (ins : List (Ob RT den)) : Option (OutX RT den) := match xs, ins with | [.os 0 a0_0, .int .i64 a1_0], [.row true .u8 rn0 rf0] => some ⟨Int × (Nat × (Nat → Int)), F_laws_markByteS_L fu a0_0 a1_0 rn0 rf0, enc_laws_markByteS_L⟩ | _, _ => none
theorem hpc_laws_markByteS_L (fu : Nat) : ∀ f xs o, pcf_laws_markByteS_L fu f xs = some o → ∀ y, o.x = some y → Good E Try.prog f xs (o.g y) := by
  intro f xs o h
  cases h
theorem hpx_laws_markByteS_L (fu : Nat) : ∀ f xs ins o, pcx_laws_markByteS_L fu f xs ins = some o → ∀ y, o.x = some y → GoodX E Try.prog f xs ins (o.g y).1 (o.g y).2 := by
  intro f xs ins o h
  cases h
theorem goodv_laws_markByteS_L (fu : Nat) (a_0_0 : Nat) (k_1_1 : Int) (rn0 : Nat) (rf0 : (Nat → Int)) (y : Int × (Nat × (Nat → Int))) (hy : F_laws_markByteS_L fu a_0_0 k_1_1 rn0 rf0 = some y) : GoodX E Try.prog 20 [(.os 0 a_0_0), (.int .i64 k_1_1)] [(.row true .u8 rn0 rf0)] (enc_laws_markByteS_L y).1 (enc_laws_markByteS_L y).2 :=
  funX_good (ke := false) E_ok (pc_good (pc := pc_laws_markByteS_L fu) (hpc_laws_markByteS_L fu) (hpx_laws_markByteS_L fu)) (fn := Try.f20) (c := body_laws_markByteS_L) (out := out_laws_markByteS_L) (y := y) (by kernel_rfl) (by kernel_rfl) (by kernel_rfl) (lpok_laws_markByteS_L fu) (by kernel_rfl) (Nat.le_refl _) (fun d os hd => out_laws_markByteS_L_enc d os _ hd) ((ev_laws_markByteS_L fu a_0_0 k_1_1 rn0 rf0).trans hy)
theorem good_laws_markByteS_L (fu : Nat) : ∀ xs ins o, S_laws_markByteS_L fu xs ins = some o → ∀ y, o.x = some y → GoodX E Try.prog 20 xs ins (o.g y).1 (o.g y).2 := by
  intro xs ins o h y hy
  unfold S_laws_markByteS_L at h
  split at h
  · rename_i a0_0 a1_0 rn0 rf0
    cases h
    exact goodv_laws_markByteS_L fu a0_0 a1_0 rn0 rf0 y hy
  · cases h

/-! laws.markEntryS -/
def F_laws_markEntryS_L_B0 {ρ : Type} (fu : Nat) (a0_0 : Nat) (on0_3 : Nat) (k0 : Int → (Nat → S_impl_Entry) → Option ρ) (k1_1 : Int) (i5_2 : Int) (of0_4 : (Nat → S_impl_Entry)) (go : Int → Int → (Nat → S_impl_Entry) → Option ρ) : Option ρ :=
  (bif (decide (i5_2 < ((a0_0 : Nat) : Int))) then ((bif (decide (0 ≤ i5_2) && decide ((Int.toNat i5_2) < a0_0)) then some () else none : Option Unit).bind fun _ => ((bif (decide (0 ≤ i5_2) &&
    decide ((Int.toNat i5_2) < a0_0)) then some () else none : Option Unit).bind fun _ => ((bif (decide (0 ≤ i5_2) && decide ((Int.toNat i5_2) < a0_0)) then some () else none : Option Unit).bind fun _ =>
    ((bif (decide (0 ≤ i5_2) && decide ((Int.toNat i5_2) < a0_0)) then some () else none : Option Unit).bind fun _ => ((bif (decide (0 ≤ i5_2) && decide ((Int.toNat i5_2) < a0_0)) then
    some () else none : Option Unit).bind fun _ => ((bif (decide (0 ≤ i5_2) && decide ((Int.toNat i5_2) < a0_0)) then some () else none : Option Unit).bind fun _ => ((bif (decide (0 ≤ i5_2) &&
    decide ((Int.toNat i5_2) < a0_0)) then some () else none : Option Unit).bind fun _ => ((bif (decide (0 ≤ i5_2) && decide ((Int.toNat i5_2) < a0_0)) then some () else none : Option Unit).bind fun _ =>
    ((bif (decide (0 ≤ i5_2) && decide ((Int.toNat i5_2) < a0_0)) then some () else none : Option Unit).bind fun _ => (go (IntKind.wrap .i64 ((IntKind.wrap .i64 ((IntKind.wrap .i64 ((IntKind.wrap .i64 ((IntKind.wrap .i64 ((IntKind.wrap .i64 ((IntKind.wrap .i64 ((IntKind.wrap .i64 ((IntKind.wrap .i64 (k1_1 + 1)) + 1)) + 1)) + 1)) + 1)) + 1)) + 1)) + 1)) + 1)) (IntKind.wrap .i64 (i5_2 + 1)) (upd_impl_Entry_8_1 (upd_impl_Entry_7_1 (upd_impl_Entry_6_1 (upd_impl_Entry_5_1 (upd_impl_Entry_4_1 (upd_impl_Entry_3_1 (upd_impl_Entry_2_1 (upd_impl_Entry_1_1 (upd_impl_Entry_0_1 of0_4 (Int.toNat i5_2) k1_1) (Int.toNat i5_2) (IntKind.wrap .i64 (k1_1 + 1))) (Int.toNat i5_2) (IntKind.wrap .i64 ((IntKind.wrap .i64 (k1_1 + 1)) + 1))) (Int.toNat i5_2) (IntKind.wrap .i64 ((IntKind.wrap .i64 ((IntKind.wrap .i64 (k1_1 + 1)) + 1)) + 1))) (Int.toNat i5_2) (IntKind.wrap .i64 ((IntKind.wrap .i64 ((IntKind.wrap .i64 ((IntKind.wrap .i64 (k1_1 + 1)) + 1)) + 1)) + 1))) (Int.toNat i5_2) (IntKind.wrap .i64 ((IntKind.wrap .i64 ((IntKind.wrap .i64 ((IntKind.wrap .i64 ((IntKind.wrap .i64 (k1_1 + 1)) + 1)) + 1)) + 1)) + 1))) (Int.toNat i5_2) (IntKind.wrap .i64 ((IntKind.wrap .i64 ((IntKind.wrap .i64 ((IntKind.wrap .i64 ((IntKind.wrap .i64 ((IntKind.wrap .i64 (k1_1 + 1)) + 1)) + 1)) + 1)) + 1)) + 1))) (Int.toNat i5_2) (IntKind.wrap .i64 ((IntKind.wrap .i64 ((IntKind.wrap .i64 ((IntKind.wrap .i64 ((IntKind.wrap .i64 ((IntKind.wrap .i64 ((IntKind.wrap .i64 (k1_1 + 1)) + 1)) + 1)) + 1)) + 1)) + 1)) + 1))) (Int.toNat i5_2) (IntKind.wrap .i64 ((IntKind.wrap .i64 ((IntKind.wrap .i64 ((IntKind.wrap .i64 ((IntKind.wrap .i64 ((IntKind.wrap .i64 ((IntKind.wrap .i64 ((IntKind.wrap .i64 (k1_1 + 1)) + 1)) + 1)) + 1)) + 1)) + 1)) + 1)) + 1))))))))))))) else
    (k0 k1_1 of0_4))
def F_laws_markEntryS_L (fu : Nat) (a_0_0 : Nat) (k_1_1 : Int) (rn0 : Nat) (rf0 : (Nat → S_impl_Entry)) : Option (Int × (Nat × (Nat → S_impl_Entry))) :=
  (L (fun w0 go0 => F_laws_markEntryS_L_B0 fu a_0_0 rn0 (fun z37 z38 => (some (z37, (rn0, z38)))) w0.1 w0.2.1 w0.2.2 (fun q0 q1 q2 => go0 (q0, q1, q2))) fu ((k_1_1, 0, rf0) : Int × Int × (Nat → S_impl_Entry)))
def pcf_laws_markEntryS_L (fu : Nat) (f : Nat) (xs : List (D RT den)) : Option (Out RT den) := none
def pcx_laws_markEntryS_L (fu : Nat) (f : Nat) (xs : List (D RT den)) (ins : List (Ob RT den)) : Option (OutX RT den) := none
def pc_laws_markEntryS_L (fu : Nat) : Pc RT den := ⟨pcf_laws_markEntryS_L fu, fun _ => false, fun _ => false, pcx_laws_markEntryS_L fu⟩
def msk_laws_markEntryS_L (b : Nat) : List Nat := match b with | 0 => [2, 3, 4, 6, 7, 8, 9, 10, 11, 12, 13, 14, 15, 16, 17, 18, 19, 20, 21, 22, 23, 24, 25, 26, 27, 28, 29, 30, 31, 32, 33, 34, 35, 36, 37, 38, 39, 40, 41, 42, 43, 44, 45, 46, 47, 48, 49, 50, 51, 52, 53, 54, 55, 56, 57, 58, 59, 60, 61, 62, 63, 64, 65, 66, 67, 68, 69, 70, 71, 72, 73, 74, 75, 76, 77, 78, 79, 80, 81] | 100000 => [0, 2, 3, 5, 6, 7, 8, 9, 10, 11, 12, 13, 14, 15, 16, 17, 18, 19, 20, 21, 22, 23, 24, 25, 26, 27, 28, 29, 30, 31, 32, 33, 34, 35, 36, 37, 38, 39, 40, 41, 42, 43, 44, 45, 46, 47, 48, 49, 50, 51, 52, 53, 54, 55, 56, 57, 58, 59, 60, 61, 62, 63, 64, 65, 66, 67, 68, 69, 70, 71, 72, 73, 74, 75, 76, 77, 78, 79, 80, 81] | _ => []
def ps_laws_markEntryS_L_0 : List (Pat RT) := [.flat (.os 0), .flat (.int .i64), .flat .dead, .flat .dead, .flat .dead, .flat (.int .i64), .flat .dead, .flat .dead, .flat .dead, .flat .dead, .flat .dead, .flat .dead, .flat .dead, .flat .dead, .flat .dead, .flat .dead, .flat .dead, .flat .dead, .flat .dead, .flat .dead, .flat .dead, .flat .dead, .flat .dead, .flat .dead, .flat .dead, .flat .dead, .flat .dead, .flat .dead, .flat .dead, .flat .dead, .flat .dead, .flat .dead, .flat .dead, .flat .dead, .flat .dead, .flat .dead, .flat .dead, .flat .dead, .flat .dead, .flat .dead, .flat .dead, .flat .dead, .flat .dead, .flat .dead, .flat .dead, .flat .dead, .flat .dead, .flat .dead, .flat .dead, .flat .dead, .flat .dead, .flat .dead, .flat .dead, .flat .dead, .flat .dead, .flat .dead, .flat .dead, .flat .dead, .flat .dead, .flat .dead, .flat .dead, .flat .dead, .flat .dead, .flat .dead, .flat .dead, .flat .dead, .flat .dead, .flat .dead, .flat .dead, .flat .dead, .flat .dead, .flat .dead, .flat .dead, .flat .dead, .flat .dead, .flat .dead, .flat .dead, .flat .dead, .flat .dead, .flat .dead, .flat .dead, .flat .dead]
def os_laws_markEntryS_L_0 : List (OP RT) := [.row true .impl_Entry]
def conv_laws_markEntryS_L_0 (r : Raw den ps_laws_markEntryS_L_0 os_laws_markEntryS_L_0) : (Nat × Nat) × (Int × Int × (Nat → S_impl_Entry)) := ((r.1.1, r.2.1.1), (r.1.2.1, r.1.2.2.2.2.2.1, r.2.1.2))
def back_laws_markEntryS_L_0 (c : Nat × Nat) (w : Int × Int × (Nat → S_impl_Entry)) : St RT den := ⟨[(.os 0 c.1), (.int .i64 w.1), .dead, .dead, .dead, (.int .i64 w.2.1), .dead, .dead, .dead, .dead, .dead, .dead, .dead, .dead, .dead, .dead, .dead, .dead, .dead, .dead, .dead, .dead, .dead, .dead, .dead, .dead, .dead, .dead, .dead, .dead, .dead, .dead, .dead, .dead, .dead, .dead, .dead, .dead, .dead, .dead, .dead, .dead, .dead, .dead, .dead, .dead, .dead, .dead, .dead, .dead, .dead, .dead, .dead, .dead, .dead, .dead, .dead, .dead, .dead, .dead, .dead, .dead, .dead, .dead, .dead, .dead, .dead, .dead, .dead, .dead, .dead, .dead, .dead, .dead, .dead, .dead, .dead, .dead, .dead, .dead, .dead, .dead], [(.row true .impl_Entry c.2 w.2.2)]⟩
def Bk_laws_markEntryS_L_0 {ρ : Type} (fu : Nat) (c : Nat × Nat) (k : Ex → St RT den → Option ρ) (w : Int × Int × (Nat → S_impl_Entry)) (go : (Int × Int × (Nat → S_impl_Entry)) → Option ρ) : Option ρ := F_laws_markEntryS_L_B0 fu c.1 c.2 (fun a0 a1 => k (.exit 0) ⟨[.dead, (.int .i64 a0), .dead, .dead, .dead, .dead, .dead, .dead, .dead, .dead, .dead, .dead, .dead, .dead, .dead, .dead, .dead, .dead, .dead, .dead, .dead, .dead, .dead, .dead, .dead, .dead, .dead, .dead, .dead, .dead, .dead, .dead, .dead, .dead, .dead, .dead, .dead, .dead, .dead, .dead, .dead, .dead, .dead, .dead, .dead, .dead, .dead, .dead, .dead, .dead, .dead, .dead, .dead, .dead, .dead, .dead, .dead, .dead, .dead, .dead, .dead, .dead, .dead, .dead, .dead, .dead, .dead, .dead, .dead, .dead, .dead, .dead, .dead, .dead, .dead, .dead, .dead, .dead, .dead, .dead, .dead, .dead], [(.row true .impl_Entry c.2 a1)]⟩) w.1 w.2.1 w.2.2 (fun q0 q1 q2 => go (q0, q1, q2))
def lp_laws_markEntryS_L (fu : Nat) : Lp RT den (Int × (Nat × (Nat → S_impl_Entry))) := fun b s k => match b with | 0 => handle ps_laws_markEntryS_L_0 os_laws_markEntryS_L_0 conv_laws_markEntryS_L_0 (Bk_laws_markEntryS_L_0 fu) fu s k | _ => none
def out_laws_markEntryS_L (d : D RT den) (os : List (Ob RT den)) : Option (Int × (Nat × (Nat → S_impl_Entry))) := match d, os with | .int .i64 a0_0, [.row true .impl_Entry n0 f0] => some (a0_0, (n0, f0)) | _, _ => none
def enc_laws_markEntryS_L (y : Int × (Nat × (Nat → S_impl_Entry))) : D RT den × List (Ob RT den) := ((.int .i64 y.1), [(.row true .impl_Entry y.2.1 y.2.2)])
theorem out_laws_markEntryS_L_enc (d : D RT den) (os : List (Ob RT den)) (y : Int × (Nat × (Nat → S_impl_Entry))) (h : out_laws_markEntryS_L d os = some y) : (unh 1 d).1 = (enc_laws_markEntryS_L y).1 ∧ os ++ (unh 1 d).2 = (enc_laws_markEntryS_L y).2 := by
  unfold out_laws_markEntryS_L at h
  split at h
  · cases h; exact ⟨rfl, rfl⟩
  · cases h
theorem ev_laws_markEntryS_L (fu : Nat) (a_0_0 : Nat) (k_1_1 : Int) (rn0 : Nat) (rf0 : (Nat → S_impl_Entry)) : evFunX E false (pc_laws_markEntryS_L fu) msk_laws_markEntryS_L (lp_laws_markEntryS_L fu) out_laws_markEntryS_L 42 [(.os 0 a_0_0), (.int .i64 k_1_1)] [(.row true .impl_Entry rn0 rf0)] = F_laws_markEntryS_L fu a_0_0 k_1_1 rn0 rf0 := by kernel_rfl
noncomputable def body_laws_markEntryS_L : Code := Try.f42.body.getD .skip
noncomputable def lc_laws_markEntryS_L_0 : Code := ((loops 0 body_laws_markEntryS_L).getD 0 (0, .skip)).2
theorem round_laws_markEntryS_L_0 (fu : Nat) (it : St RT den → Option (Int × (Nat × (Nat → S_impl_Entry)))) (k : Ex → St RT den → Option (Int × (Nat × (Nat → S_impl_Entry)))) c w : evCode E (pc_laws_markEntryS_L fu) msk_laws_markEntryS_L (lp_laws_markEntryS_L fu) 0 lc_laws_markEntryS_L_0 (back_laws_markEntryS_L_0 c w) (after (msk_laws_markEntryS_L 0) (msk_laws_markEntryS_L 100000) 1 it k) = Bk_laws_markEntryS_L_0 fu c k w (fun w => it (back_laws_markEntryS_L_0 c w)) := by kernel_rfl
theorem lpok_laws_markEntryS_L_0 (fu : Nat) : ∀ s k r, lp_laws_markEntryS_L fu 0 s k = some r → ∃ fuel, iter (msk_laws_markEntryS_L 0) (msk_laws_markEntryS_L 100000) s.objs.length (evCode E (pc_laws_markEntryS_L fu) msk_laws_markEntryS_L (lp_laws_markEntryS_L fu) 0 lc_laws_markEntryS_L_0) fuel s k = some r :=
  handle_ok (ps := ps_laws_markEntryS_L_0) (os := os_laws_markEntryS_L_0) (conv := conv_laws_markEntryS_L_0) (B := Bk_laws_markEntryS_L_0 fu) (fu := fu) back_laws_markEntryS_L_0 (fun raw => by kernel_rfl) 1 (fun c w => by kernel_rfl) (round_laws_markEntryS_L_0 fu)
theorem lpok_laws_markEntryS_L (fu : Nat) : LpOk E (pc_laws_markEntryS_L fu) msk_laws_markEntryS_L (lp_laws_markEntryS_L fu) (loops 0 body_laws_markEntryS_L) := loop_all 1 (by kernel_rfl) fun i hi => match i, hi with
  | 0, _ => by
    have h : (loops 0 body_laws_markEntryS_L).getD 0 (0, .skip) = (0, lc_laws_markEntryS_L_0) := by kernel_rfl
    rw [h]; exact lpok_laws_markEntryS_L_0 fu
  | i + 1, hi => absurd hi (by omega)
def S_laws_markEntryS_L (fu : Nat) (xs : List (D RT den)) (ins : List (Ob RT den)) : Option (OutX RT den) := match xs, ins with | [.os 0 a0_0, .int .i64 a1_0], [.row true .impl_Entry rn0 rf0] => some ⟨Int × (Nat × (Nat → S_impl_Entry)), F_laws_markEntryS_L fu a0_0 a1_0 rn0 rf0, enc_laws_markEntryS_L⟩ | _, _ => none
theorem hpc_laws_markEntryS_L (fu : Nat) : ∀ f xs o, pcf_laws_markEntryS_L fu f xs = some o → ∀ y, o.x = some y → Good E Try.prog f xs (o.g y) := by
  intro f xs o h
  cases h
theorem hpx_laws_markEntryS_L (fu : Nat) : ∀ f xs ins o, pcx_laws_markEntryS_L fu f xs ins = some o → ∀ y, o.x = some y → GoodX E Try.prog f xs ins (o.g y).1 (o.g y).2 := by
  intro f xs ins o h
  cases h
theorem goodv_laws_markEntryS_L (fu : Nat) (a_0_0 : Nat) (k_1_1 : Int) (rn0 : Nat) (rf0 : (Nat → S_impl_Entry)) (y : Int × (Nat × (Nat → S_impl_Entry))) (hy : F_laws_markEntryS_L fu a_0_0 k_1_1 rn0 rf0 = some y) : GoodX E Try.prog 42 [(.os 0 a_0_0), (.int .i64 k_1_1)] [(.row true .impl_Entry rn0 rf0)] (enc_laws_markEntryS_L y).1 (enc_laws_markEntryS_L y).2 :=
  funX_good (ke := false) E_ok (pc_good (pc := pc_laws_markEntryS_L fu) (hpc_laws_markEntryS_L fu) (hpx_laws_markEntryS_L fu)) (fn := Try.f42) (c := body_laws_markEntryS_L) (out := out_laws_markEntryS_L) (y := y) (by kernel_rfl) (by kernel_rfl) (by kernel_rfl) (lpok_laws_markEntryS_L fu) (by kernel_rfl) (Nat.le_refl _) (fun d os hd => out_laws_markEntryS_L_enc d os _ hd) ((ev_laws_markEntryS_L fu a_0_0 k_1_1 rn0 rf0).trans hy)
theorem good_laws_markEntryS_L (fu : Nat) : ∀ xs ins o, S_laws_markEntryS_L fu xs ins = some o → ∀ y, o.x = some y → GoodX E Try.prog 42 xs ins (o.g y).1 (o.g y).2 := by
  intro xs ins o h y hy
  unfold S_laws_markEntryS_L at h
  split at h
  · rename_i a0_0 a1_0 rn0 rf0
    cases h
    exact goodv_laws_markEntryS_L fu a0_0 a1_0 rn0 rf0 y hy
  · cases h

/-! laws.markBackendS -/
def F_laws_markBackendS_L_B0 {ρ : Type} (fu : Nat) (k1_0 : Int) (i5_1 : Int) (k0 : Option ρ) (go : Unit → Option ρ) : Option ρ :=
  (bif (decide (i5_1 < 0)) then none else k0)
def F_laws_markBackendS_L (fu : Nat) (k_1_0 : Int) : Option (Int) :=
  (L (fun w0 go0 => F_laws_markBackendS_L_B0 fu k_1_0 0 (some (k_1_0))  go0) fu (() : Unit))
def pcf_laws_markBackendS_L (fu : Nat) (f : Nat) (xs : List (D RT den)) : Option (Out RT den) := none
def pcx_laws_markBackendS_L (fu : Nat) (f : Nat) (xs : List (D RT den)) (ins : List (Ob RT den)) : Option (OutX RT den) := none
def pc_laws_markBackendS_L (fu : Nat) : Pc RT den := ⟨pcf_laws_markBackendS_L fu, fun _ => false, fun _ => false, pcx_laws_markBackendS_L fu⟩
def msk_laws_markBackendS_L (b : Nat) : List Nat := match b with | 0 => [2, 3, 4, 6, 7, 8, 9, 10, 11, 12, 13, 14, 15, 16, 17, 18, 19, 20, 21, 22, 23, 24, 25, 26, 27, 28, 29, 30, 31, 32, 33, 34, 35, 36, 37, 38, 39, 40, 41, 42, 43, 44, 45, 46, 47, 48, 49] | 100000 => [0, 2, 3, 5, 6, 7, 8, 9, 10, 11, 12, 13, 14, 15, 16, 17, 18, 19, 20, 21, 22, 23, 24, 25, 26, 27, 28, 29, 30, 31, 32, 33, 34, 35, 36, 37, 38, 39, 40, 41, 42, 43, 44, 45, 46, 47, 48, 49] | _ => []
def ps_laws_markBackendS_L_0 : List (Pat RT) := [.flat (.emp true .impl_Backend), .flat (.int .i64), .flat .dead, .flat .dead, .flat .dead, .flat (.int .i64), .flat .dead, .flat .dead, .flat .dead, .flat .dead, .flat .dead, .flat .dead, .flat .dead, .flat .dead, .flat .dead, .flat .dead, .flat .dead, .flat .dead, .flat .dead, .flat .dead, .flat .dead, .flat .dead, .flat .dead, .flat .dead, .flat .dead, .flat .dead, .flat .dead, .flat .dead, .flat .dead, .flat .dead, .flat .dead, .flat .dead, .flat .dead, .flat .dead, .flat .dead, .flat .dead, .flat .dead, .flat .dead, .flat .dead, .flat .dead, .flat .dead, .flat .dead, .flat .dead, .flat .dead, .flat .dead, .flat .dead, .flat .dead, .flat .dead, .flat .dead, .flat .dead]
def os_laws_markBackendS_L_0 : List (OP RT) := []
def conv_laws_markBackendS_L_0 (r : Raw den ps_laws_markBackendS_L_0 os_laws_markBackendS_L_0) : (Int × Int) × (Unit) := ((r.1.2.1, r.1.2.2.2.2.2.1), ())
def back_laws_markBackendS_L_0 (c : Int × Int) (w : Unit) : St RT den := ⟨[(.emp true .impl_Backend), (.int .i64 c.1), .dead, .dead, .dead, (.int .i64 c.2), .dead, .dead, .dead, .dead, .dead, .dead, .dead, .dead, .dead, .dead, .dead, .dead, .dead, .dead, .dead, .dead, .dead, .dead, .dead, .dead, .dead, .dead, .dead, .dead, .dead, .dead, .dead, .dead, .dead, .dead, .dead, .dead, .dead, .dead, .dead, .dead, .dead, .dead, .dead, .dead, .dead, .dead, .dead, .dead], []⟩
def Bk_laws_markBackendS_L_0 {ρ : Type} (fu : Nat) (c : Int × Int) (k : Ex → St RT den → Option ρ) (w : Unit) (go : (Unit) → Option ρ) : Option ρ := F_laws_markBackendS_L_B0 fu c.1 c.2 (k (.exit 0) ⟨[.dead, (.int .i64 c.1), .dead, .dead, .dead, .dead, .dead, .dead, .dead, .dead, .dead, .dead, .dead, .dead, .dead, .dead, .dead, .dead, .dead, .dead, .dead, .dead, .dead, .dead, .dead, .dead, .dead, .dead, .dead, .dead, .dead, .dead, .dead, .dead, .dead, .dead, .dead, .dead, .dead, .dead, .dead, .dead, .dead, .dead, .dead, .dead, .dead, .dead, .dead, .dead], []⟩)  go
def lp_laws_markBackendS_L (fu : Nat) : Lp RT den (Int) := fun b s k => match b with | 0 => handle ps_laws_markBackendS_L_0 os_laws_markBackendS_L_0 conv_laws_markBackendS_L_0 (Bk_laws_markBackendS_L_0 fu) fu s k | _ => none
def out_laws_markBackendS_L (d : D RT den) (os : List (Ob RT den)) : Option (Int) := match d, os with | .int .i64 a0_0, [] => some (a0_0) | _, _ => none
def enc_laws_markBackendS_L (y : Int) : D RT den × List (Ob RT den) := ((.int .i64 y), [])
theorem out_laws_markBackendS_L_enc (d : D RT den) (os : List (Ob RT den)) (y : Int) (h : out_laws_markBackendS_L d os = some y) : (unh 0 d).1 = (enc_laws_markBackendS_L y).1 ∧ os ++ (unh 0 d).2 = (enc_laws_markBackendS_L y).2 := by
  unfold out_laws_markBackendS_L at h
  split at h
  · cases h; exact ⟨rfl, rfl⟩
  · cases h
theorem ev_laws_markBackendS_L (fu : Nat) (k_1_0 : Int) : evFunX E false (pc_laws_markBackendS_L fu) msk_laws_markBackendS_L (lp_laws_markBackendS_L fu) out_laws_markBackendS_L 54 [(.emp true .impl_Backend), (.int .i64 k_1_0)] [] = F_laws_markBackendS_L fu k_1_0 := by kernel_rfl
noncomputable def body_laws_markBackendS_L : Code := Try.f54.body.getD .skip
noncomputable def lc_laws_markBackendS_L_0 : Code := ((loops 0 body_laws_markBackendS_L).getD 0 (0, .skip)).2
theorem round_laws_markBackendS_L_0 (fu : Nat) (it : St RT den → Option (Int)) (k : Ex → St RT den → Option (Int)) c w : evCode E (pc_laws_markBackendS_L fu) msk_laws_markBackendS_L (lp_laws_markBackendS_L fu) 0 lc_laws_markBackendS_L_0 (back_laws_markBackendS_L_0 c w) (after (msk_laws_markBackendS_L 0) (msk_laws_markBackendS_L 100000) 0 it k) = Bk_laws_markBackendS_L_0 fu c k w (fun w => it (back_laws_markBackendS_L_0 c w)) := by kernel_rfl
theorem lpok_laws_markBackendS_L_0 (fu : Nat) : ∀ s k r, lp_laws_markBackendS_L fu 0 s k = some r → ∃ fuel, iter (msk_laws_markBackendS_L 0) (msk_laws_markBackendS_L 100000) s.objs.length (evCode E (pc_laws_markBackendS_L fu) msk_laws_markBackendS_L (lp_laws_markBackendS_L fu) 0 lc_laws_markBackendS_L_0) fuel s k = some r :=
  handle_ok (ps := ps_laws_markBackendS_L_0) (os := os_laws_markBackendS_L_0) (conv := conv_laws_markBackendS_L_0) (B := Bk_laws_markBackendS_L_0 fu) (fu := fu) back_laws_markBackendS_L_0 (fun raw => by kernel_rfl) 0 (fun c w => by kernel_rfl) (round_laws_markBackendS_L_0 fu)
theorem lpok_laws_markBackendS_L (fu : Nat) : LpOk E (pc_laws_markBackendS_L fu) msk_laws_markBackendS_L (lp_laws_markBackendS_L fu) (loops 0 body_laws_markBackendS_L) := loop_all 1 (by kernel_rfl) fun i hi => match i, hi with
  | 0, _ => by
    have h : (loops 0 body_laws_markBackendS_L).getD 0 (0, .skip) = (0, lc_laws_markBackendS_L_0) := by kernel_rfl
    rw [h]; exact lpok_laws_markBackendS_L_0 fu
  | i + 1, hi => absurd hi (by omega)
def S_laws_markBackendS_L (fu : Nat) (xs : List (D RT den)) (ins : List (Ob RT den)) : Option (OutX RT den) := match xs, ins with | [.emp true .impl_Backend, .int .i64 a1_0], [] => some ⟨Int, F_laws_markBackendS_L fu a1_0, enc_laws_markBackendS_L⟩ | _, _ => none
theorem hpc_laws_markBackendS_L (fu : Nat) : ∀ f xs o, pcf_laws_markBackendS_L fu f xs = some o → ∀ y, o.x = some y → Good E Try.prog f xs (o.g y) := by
  intro f xs o h
  cases h
theorem hpx_laws_markBackendS_L (fu : Nat) : ∀ f xs ins o, pcx_laws_markBackendS_L fu f xs ins = some o → ∀ y, o.x = some y → GoodX E Try.prog f xs ins (o.g y).1 (o.g y).2 := by
  intro f xs ins o h
  cases h
theorem goodv_laws_markBackendS_L (fu : Nat) (k_1_0 : Int) (y : Int) (hy : F_laws_markBackendS_L fu k_1_0 = some y) : GoodX E Try.prog 54 [(.emp true .impl_Backend), (.int .i64 k_1_0)] [] (enc_laws_markBackendS_L y).1 (enc_laws_markBackendS_L y).2 :=
  funX_good (ke := false) E_ok (pc_good (pc := pc_laws_markBackendS_L fu) (hpc_laws_markBackendS_L fu) (hpx_laws_markBackendS_L fu)) (fn := Try.f54) (c := body_laws_markBackendS_L) (out := out_laws_markBackendS_L) (y := y) (by kernel_rfl) (by kernel_rfl) (by kernel_rfl) (lpok_laws_markBackendS_L fu) (by kernel_rfl) (Nat.le_refl _) (fun d os hd => out_laws_markBackendS_L_enc d os _ hd) ((ev_laws_markBackendS_L fu k_1_0).trans hy)
theorem good_laws_markBackendS_L (fu : Nat) : ∀ xs ins o, S_laws_markBackendS_L fu xs ins = some o → ∀ y, o.x = some y → GoodX E Try.prog 54 xs ins (o.g y).1 (o.g y).2 := by
  intro xs ins o h y hy
  unfold S_laws_markBackendS_L at h
  split at h
  · rename_i a1_0
    cases h
    exact goodv_laws_markBackendS_L fu a1_0 y hy
  · cases h

/-! laws.markVipS -/
def F_laws_markVipS_L_B0 {ρ : Type} (fu : Nat) (k1_0 : Int) (i5_1 : Int) (k0 : Option ρ) (go : Unit → Option ρ) : Option ρ :=
  (bif (decide (i5_1 < 0)) then none else k0)
def F_laws_markVipS_L (fu : Nat) (k_1_0 : Int) : Option (Int) :=
  (L (fun w0 go0 => F_laws_markVipS_L_B0 fu k_1_0 0 (some (k_1_0))  go0) fu (() : Unit))
def pcf_laws_markVipS_L (fu : Nat) (f : Nat) (xs : List (D RT den)) : Option (Out RT den) := none
def pcx_laws_markVipS_L (fu : Nat) (f : Nat) (xs : List (D RT den)) (ins : List (Ob RT den)) : Option (OutX RT den) := none
def pc_laws_markVipS_L (fu : Nat) : Pc RT den := ⟨pcf_laws_markVipS_L fu, fun _ => false, fun _ => false, pcx_laws_markVipS_L fu⟩
def msk_laws_markVipS_L (b : Nat) : List Nat := match b with | 0 => [2, 3, 4, 6, 7, 8, 9, 10, 11, 12, 13, 14, 15, 16, 17, 18, 19, 20, 21, 22, 23, 24, 25, 26, 27, 28, 29, 30, 31, 32, 33, 34, 35, 36, 37, 38, 39, 40] | 100000 => [0, 2, 3, 5, 6, 7, 8, 9, 10, 11, 12, 13, 14, 15, 16, 17, 18, 19, 20, 21, 22, 23, 24, 25, 26, 27, 28, 29, 30, 31, 32, 33, 34, 35, 36, 37, 38, 39, 40] | _ => []
def ps_laws_markVipS_L_0 : List (Pat RT) := [.flat (.emp true .impl_Vip), .flat (.int .i64), .flat .dead, .flat .dead, .flat .dead, .flat (.int .i64), .flat .dead, .flat .dead, .flat .dead, .flat .dead, .flat .dead, .flat .dead, .flat .dead, .flat .dead, .flat .dead, .flat .dead, .flat .dead, .flat .dead, .flat .dead, .flat .dead, .flat .dead, .flat .dead, .flat .dead, .flat .dead, .flat .dead, .flat .dead, .flat .dead, .flat .dead, .flat .dead, .flat .dead, .flat .dead, .flat .dead, .flat .dead, .flat .dead, .flat .dead, .flat .dead, .flat .dead, .flat .dead, .flat .dead, .flat .dead, .flat .dead]
def os_laws_markVipS_L_0 : List (OP RT) := []
def conv_laws_markVipS_L_0 (r : Raw den ps_laws_markVipS_L_0 os_laws_markVipS_L_0) : (Int × Int) × (Unit) := ((r.1.2.1, r.1.2.2.2.2.2.1), ())
def back_laws_markVipS_L_0 (c : Int × Int) (w : Unit) : St RT den := ⟨[(.emp true .impl_Vip), (.int .i64 c.1), .dead, .dead, .dead, (.int .i64 c.2), .dead, .dead, .dead, .dead, .dead, .dead, .dead, .dead, .dead, .dead, .dead, .dead, .dead, .dead, .dead, .dead, .dead, .dead, .dead, .dead, .dead, .dead, .dead, .dead, .dead, .dead, .dead, .dead, .dead, .dead, .dead, .dead, .dead, .dead, .dead], []⟩
def Bk_laws_markVipS_L_0 {ρ : Type} (fu : Nat) (c : Int × Int) (k : Ex → St RT den → Option ρ) (w : Unit) (go : (Unit) → Option ρ) : Option ρ := F_laws_markVipS_L_B0 fu c.1 c.2 (k (.exit 0) ⟨[.dead, (.int .i64 c.1), .dead, .dead, .dead, .dead, .dead, .dead, .dead, .dead, .dead, .dead, .dead, .dead, .dead, .dead, .dead, .dead, .dead, .dead, .dead, .dead, .dead, .dead, .dead, .dead, .dead, .dead, .dead, .dead, .dead, .dead, .dead, .dead, .dead, .dead, .dead, .dead, .dead, .dead, .dead], []⟩)  go
def lp_laws_markVipS_L (fu : Nat) : Lp RT den (Int) := fun b s k => match b with | 0 => handle ps_laws_markVipS_L_0 os_laws_markVipS_L_0 conv_laws_markVipS_L_0 (Bk_laws_markVipS_L_0 fu) fu s k | _ => none
def out_laws_markVipS_L (d : D RT den) (os : List (Ob RT den)) : Option (Int) := match d, os with | .int .i64 a0_0, [] => some (a0_0) | _, _ => none
def enc_laws_markVipS_L (y : Int) : D RT den × List (Ob RT den) := ((.int .i64 y), [])
theorem out_laws_markVipS_L_enc (d : D RT den) (os : List (Ob RT den)) (y : Int) (h : out_laws_markVipS_L d os = some y) : (unh 0 d).1 = (enc_laws_markVipS_L y).1 ∧ os ++ (unh 0 d).2 = (enc_laws_markVipS_L y).2 := by
  unfold out_laws_markVipS_L at h
  split at h
  · cases h; exact ⟨rfl, rfl⟩
  · cases h
theorem ev_laws_markVipS_L (fu : Nat) (k_1_0 : Int) : evFunX E false (pc_laws_markVipS_L fu) msk_laws_markVipS_L (lp_laws_markVipS_L fu) out_laws_markVipS_L 55 [(.emp true .impl_Vip), (.int .i64 k_1_0)] [] = F_laws_markVipS_L fu k_1_0 := by kernel_rfl
noncomputable def body_laws_markVipS_L : Code := Try.f55.body.getD .skip
noncomputable def lc_laws_markVipS_L_0 : Code := ((loops 0 body_laws_markVipS_L).getD 0 (0, .skip)).2
theorem round_laws_markVipS_L_0 (fu : Nat) (it : St RT den → Option (Int)) (k : Ex → St RT den → Option (Int)) c w : evCode E (pc_laws_markVipS_L fu) msk_laws_markVipS_L (lp_laws_markVipS_L fu) 0 lc_laws_markVipS_L_0 (back_laws_markVipS_L_0 c w) (after (msk_laws_markVipS_L 0) (msk_laws_markVipS_L 100000) 0 it k) = Bk_laws_markVipS_L_0 fu c k w (fun w => it (back_laws_markVipS_L_0 c w)) := by kernel_rfl
theorem lpok_laws_markVipS_L_0 (fu : Nat) : ∀ s k r, lp_laws_markVipS_L fu 0 s k = some r → ∃ fuel, iter (msk_laws_markVipS_L 0) (msk_laws_markVipS_L 100000) s.objs.length (evCode E (pc_laws_markVipS_L fu) msk_laws_markVipS_L (lp_laws_markVipS_L fu) 0 lc_laws_markVipS_L_0) fuel s k = some r :=
  handle_ok (ps := ps_laws_markVipS_L_0) (os := os_laws_markVipS_L_0) (conv := conv_laws_markVipS_L_0) (B := Bk_laws_markVipS_L_0 fu) (fu := fu) back_laws_markVipS_L_0 (fun raw => by kernel_rfl) 0 (fun c w => by kernel_rfl) (round_laws_markVipS_L_0 fu)
theorem lpok_laws_markVipS_L (fu : Nat) : LpOk E (pc_laws_markVipS_L fu) msk_laws_markVipS_L (lp_laws_markVipS_L fu) (loops 0 body_laws_markVipS_L) := loop_all 1 (by kernel_rfl) fun i hi => match i, hi with
  | 0, _ => by
    have h : (loops 0 body_laws_markVipS_L).getD 0 (0, .skip) = (0, lc_laws_markVipS_L_0) := by kernel_rfl
    rw [h]; exact lpok_laws_markVipS_L_0 fu
  | i + 1, hi => absurd hi (by omega)
def S_laws_markVipS_L (fu : Nat) (xs : List (D RT den)) (ins : List (Ob RT den)) : Option (OutX RT den) := match xs, ins with | [.emp true .impl_Vip, .int .i64 a1_0], [] => some ⟨Int, F_laws_markVipS_L fu a1_0, enc_laws_markVipS_L⟩ | _, _ => none
theorem hpc_laws_markVipS_L (fu : Nat) : ∀ f xs o, pcf_laws_markVipS_L fu f xs = some o → ∀ y, o.x = some y → Good E Try.prog f xs (o.g y) := by
  intro f xs o h
  cases h
theorem hpx_laws_markVipS_L (fu : Nat) : ∀ f xs ins o, pcx_laws_markVipS_L fu f xs ins = some o → ∀ y, o.x = some y → GoodX E Try.prog f xs ins (o.g y).1 (o.g y).2 := by
  intro f xs ins o h
  cases h
theorem goodv_laws_markVipS_L (fu : Nat) (k_1_0 : Int) (y : Int) (hy : F_laws_markVipS_L fu k_1_0 = some y) : GoodX E Try.prog 55 [(.emp true .impl_Vip), (.int .i64 k_1_0)] [] (enc_laws_markVipS_L y).1 (enc_laws_markVipS_L y).2 :=
  funX_good (ke := false) E_ok (pc_good (pc := pc_laws_markVipS_L fu) (hpc_laws_markVipS_L fu) (hpx_laws_markVipS_L fu)) (fn := Try.f55) (c := body_laws_markVipS_L) (out := out_laws_markVipS_L) (y := y) (by kernel_rfl) (by kernel_rfl) (by kernel_rfl) (lpok_laws_markVipS_L fu) (by kernel_rfl) (Nat.le_refl _) (fun d os hd => out_laws_markVipS_L_enc d os _ hd) ((ev_laws_markVipS_L fu k_1_0).trans hy)
theorem good_laws_markVipS_L (fu : Nat) : ∀ xs ins o, S_laws_markVipS_L fu xs ins = some o → ∀ y, o.x = some y → GoodX E Try.prog 55 xs ins (o.g y).1 (o.g y).2 := by
  intro xs ins o h y hy
  unfold S_laws_markVipS_L at h
  split at h
  · rename_i a1_0
    cases h
    exact goodv_laws_markVipS_L fu a1_0 y hy
  · cases h

/-! laws.markInt64SS -/
def F_laws_markInt64SS_L_B0 {ρ : Type} (fu : Nat) (k1_0 : Int) (i5_1 : Int) (k0 : Option ρ) (go : Unit → Option ρ) : Option ρ :=
  (bif (decide (i5_1 < 0)) then none else k0)
def F_laws_markInt64SS_L (fu : Nat) (k_1_0 : Int) : Option (Int) :=
  (L (fun w0 go0 => F_laws_markInt64SS_L_B0 fu k_1_0 0 (some (k_1_0))  go0) fu (() : Unit))
def pcf_laws_markInt64SS_L (fu : Nat) (f : Nat) (xs : List (D RT den)) : Option (Out RT den) := none
def pcx_laws_markInt64SS_L (fu : Nat) (f : Nat) (xs : List (D RT den)) (ins : List (Ob RT den)) : Option (OutX RT den) := none
def pc_laws_markInt64SS_L (fu : Nat) : Pc RT den := ⟨pcf_laws_markInt64SS_L fu, fun _ => false, fun _ => false, pcx_laws_markInt64SS_L fu⟩
def msk_laws_markInt64SS_L (b : Nat) : List Nat := match b with | 0 => [2, 3, 4, 6, 7, 8, 9, 10, 11, 12, 13, 14, 15, 16, 17, 18] | 100000 => [0, 2, 3, 5, 6, 7, 8, 9, 10, 11, 12, 13, 14, 15, 16, 17, 18] | _ => []
def ps_laws_markInt64SS_L_0 : List (Pat RT) := [.flat (.emp true .sl_i64), .flat (.int .i64), .flat .dead, .flat .dead, .flat .dead, .flat (.int .i64), .flat .dead, .flat .dead, .flat .dead, .flat .dead, .flat .dead, .flat .dead, .flat .dead, .flat .dead, .flat .dead, .flat .dead, .flat .dead, .flat .dead, .flat .dead]
def os_laws_markInt64SS_L_0 : List (OP RT) := []
def conv_laws_markInt64SS_L_0 (r : Raw den ps_laws_markInt64SS_L_0 os_laws_markInt64SS_L_0) : (Int × Int) × (Unit) := ((r.1.2.1, r.1.2.2.2.2.2.1), ())
def back_laws_markInt64SS_L_0 (c : Int × Int) (w : Unit) : St RT den := ⟨[(.emp true .sl_i64), (.int .i64 c.1), .dead, .dead, .dead, (.int .i64 c.2), .dead, .dead, .dead, .dead, .dead, .dead, .dead, .dead, .dead, .dead, .dead, .dead, .dead], []⟩
def Bk_laws_markInt64SS_L_0 {ρ : Type} (fu : Nat) (c : Int × Int) (k : Ex → St RT den → Option ρ) (w : Unit) (go : (Unit) → Option ρ) : Option ρ := F_laws_markInt64SS_L_B0 fu c.1 c.2 (k (.exit 0) ⟨[.dead, (.int .i64 c.1), .dead, .dead, .dead, .dead, .dead, .dead, .dead, .dead, .dead, .dead, .dead, .dead, .dead, .dead, .dead, .dead, .dead], []⟩)  go
def lp_laws_markInt64SS_L (fu : Nat) : Lp RT den (Int) := fun b s k => match b with | 0 => handle ps_laws_markInt64SS_L_0 os_laws_markInt64SS_L_0 conv_laws_markInt64SS_L_0 (Bk_laws_markInt64SS_L_0 fu) fu s k | _ => none
def out_laws_markInt64SS_L (d : D RT den) (os : List (Ob RT den)) : Option (Int) := match d, os with | .int .i64 a0_0, [] => some (a0_0) | _, _ => none
def enc_laws_markInt64SS_L (y : Int) : D RT den × List (Ob RT den) := ((.int .i64 y), [])
theorem out_laws_markInt64SS_L_enc (d : D RT den) (os : List (Ob RT den)) (y : Int) (h : out_laws_markInt64SS_L d os = some y) : (unh 0 d).1 = (enc_laws_markInt64SS_L y).1 ∧ os ++ (unh 0 d).2 = (enc_laws_markInt64SS_L y).2 := by
  unfold out_laws_markInt64SS_L at h
  split at h
  · cases h; exact ⟨rfl, rfl⟩
  · cases h
theorem ev_laws_markInt64SS_L (fu : Nat) (k_1_0 : Int) : evFunX E false (pc_laws_markInt64SS_L fu) msk_laws_markInt64SS_L (lp_laws_markInt64SS_L fu) out_laws_markInt64SS_L 35 [(.emp true .sl_i64), (.int .i64 k_1_0)] [] = F_laws_markInt64SS_L fu k_1_0 := by kernel_rfl
noncomputable def body_laws_markInt64SS_L : Code := Try.f35.body.getD .skip
noncomputable def lc_laws_markInt64SS_L_0 : Code := ((loops 0 body_laws_markInt64SS_L).getD 0 (0, .skip)).2
theorem round_laws_markInt64SS_L_0 (fu : Nat) (it : St RT den → Option (Int)) (k : Ex → St RT den → Option (Int)) c w : evCode E (pc_laws_markInt64SS_L fu) msk_laws_markInt64SS_L (lp_laws_markInt64SS_L fu) 0 lc_laws_markInt64SS_L_0 (back_laws_markInt64SS_L_0 c w) (after (msk_laws_markInt64SS_L 0) (msk_laws_markInt64SS_L 100000) 0 it k) = Bk_laws_markInt64SS_L_0 fu c k w (fun w => it (back_laws_markInt64SS_L_0 c w)) := by kernel_rfl
theorem lpok_laws_markInt64SS_L_0 (fu : Nat) : ∀ s k r, lp_laws_markInt64SS_L fu 0 s k = some r → ∃ fuel, iter (msk_laws_markInt64SS_L 0) (msk_laws_markInt64SS_L 100000) s.objs.length (evCode E (pc_laws_markInt64SS_L fu) msk_laws_markInt64SS_L (lp_laws_markInt64SS_L fu) 0 lc_laws_markInt64SS_L_0) fuel s k = some r :=
  handle_ok (ps := ps_laws_markInt64SS_L_0) (os := os_laws_markInt64SS_L_0) (conv := conv_laws_markInt64SS_L_0) (B := Bk_laws_markInt64SS_L_0 fu) (fu := fu) back_laws_markInt64SS_L_0 (fun raw => by kernel_rfl) 0 (fun c w => by kernel_rfl) (round_laws_markInt64SS_L_0 fu)
theorem lpok_laws_markInt64SS_L (fu : Nat) : LpOk E (pc_laws_markInt64SS_L fu) msk_laws_markInt64SS_L (lp_laws_markInt64SS_L fu) (loops 0 body_laws_markInt64SS_L) := loop_all 1 (by kernel_rfl) fun i hi => match i, hi with
  | 0, _ => by
    have h : (loops 0 body_laws_markInt64SS_L).getD 0 (0, .skip) = (0, lc_laws_markInt64SS_L_0) := by kernel_rfl
    rw [h]; exact lpok_laws_markInt64SS_L_0 fu
  | i + 1, hi => absurd hi (by omega)
def S_laws_markInt64SS_L (fu : Nat) (xs : List (D RT den)) (ins : List (Ob RT den)) : Option (OutX RT den) := match xs, ins with | [.emp true .sl_i64, .int .i64 a1_0], [] => some ⟨Int, F_laws_markInt64SS_L fu a1_0, enc_laws_markInt64SS_L⟩ | _, _ => none
theorem hpc_laws_markInt64SS_L (fu : Nat) : ∀ f xs o, pcf_laws_markInt64SS_L fu f xs = some o → ∀ y, o.x = some y → Good E Try.prog f xs (o.g y) := by
  intro f xs o h
  cases h
theorem hpx_laws_markInt64SS_L (fu : Nat) : ∀ f xs ins o, pcx_laws_markInt64SS_L fu f xs ins = some o → ∀ y, o.x = some y → GoodX E Try.prog f xs ins (o.g y).1 (o.g y).2 := by
  intro f xs ins o h
  cases h
theorem goodv_laws_markInt64SS_L (fu : Nat) (k_1_0 : Int) (y : Int) (hy : F_laws_markInt64SS_L fu k_1_0 = some y) : GoodX E Try.prog 35 [(.emp true .sl_i64), (.int .i64 k_1_0)] [] (enc_laws_markInt64SS_L y).1 (enc_laws_markInt64SS_L y).2 :=
  funX_good (ke := false) E_ok (pc_good (pc := pc_laws_markInt64SS_L fu) (hpc_laws_markInt64SS_L fu) (hpx_laws_markInt64SS_L fu)) (fn := Try.f35) (c := body_laws_markInt64SS_L) (out := out_laws_markInt64SS_L) (y := y) (by kernel_rfl) (by kernel_rfl) (by kernel_rfl) (lpok_laws_markInt64SS_L fu) (by kernel_rfl) (Nat.le_refl _) (fun d os hd => out_laws_markInt64SS_L_enc d os _ hd) ((ev_laws_markInt64SS_L fu k_1_0).trans hy)
theorem good_laws_markInt64SS_L (fu : Nat) : ∀ xs ins o, S_laws_markInt64SS_L fu xs ins = some o → ∀ y, o.x = some y → GoodX E Try.prog 35 xs ins (o.g y).1 (o.g y).2 := by
  intro xs ins o h y hy
  unfold S_laws_markInt64SS_L at h
  split at h
  · rename_i a1_0
    cases h
    exact goodv_laws_markInt64SS_L fu a1_0 y hy
  · cases h

/-! laws.markHeldS -/
def F_laws_markHeldS_L_B0 {ρ : Type} (fu : Nat) (k1_0 : Int) (i5_1 : Int) (k0 : Option ρ) (go : Unit → Option ρ) : Option ρ :=
  (bif (decide (i5_1 < 0)) then none else k0)
def F_laws_markHeldS_L (fu : Nat) (k_1_0 : Int) : Option (Int) :=
  (L (fun w0 go0 => F_laws_markHeldS_L_B0 fu k_1_0 0 (some (k_1_0))  go0) fu (() : Unit))
def pcf_laws_markHeldS_L (fu : Nat) (f : Nat) (xs : List (D RT den)) : Option (Out RT den) := none
def pcx_laws_markHeldS_L (fu : Nat) (f : Nat) (xs : List (D RT den)) (ins : List (Ob RT den)) : Option (OutX RT den) := none
def pc_laws_markHeldS_L (fu : Nat) : Pc RT den := ⟨pcf_laws_markHeldS_L fu, fun _ => false, fun _ => false, pcx_laws_markHeldS_L fu⟩
def msk_laws_markHeldS_L (b : Nat) : List Nat := match b with | 0 => [2, 3, 4, 6, 7, 8, 9, 10, 11, 12, 13, 14, 15, 16, 17, 18, 19, 20, 21, 22, 23, 24, 25, 26, 27, 28, 29, 30, 31, 32, 33, 34, 35, 36, 37, 38, 39, 40, 41, 42, 43, 44, 45, 46, 47, 48, 49, 50, 51, 52, 53, 54, 55, 56, 57, 58, 59, 60, 61, 62, 63, 64, 65, 66] | 100000 => [0, 2, 3, 5, 6, 7, 8, 9, 10, 11, 12, 13, 14, 15, 16, 17, 18, 19, 20, 21, 22, 23, 24, 25, 26, 27, 28, 29, 30, 31, 32, 33, 34, 35, 36, 37, 38, 39, 40, 41, 42, 43, 44, 45, 46, 47, 48, 49, 50, 51, 52, 53, 54, 55, 56, 57, 58, 59, 60, 61, 62, 63, 64, 65, 66] | _ => []
def ps_laws_markHeldS_L_0 : List (Pat RT) := [.flat (.emp true .impl_Held), .flat (.int .i64), .flat .dead, .flat .dead, .flat .dead, .flat (.int .i64), .flat .dead, .flat .dead, .flat .dead, .flat .dead, .flat .dead, .flat .dead, .flat .dead, .flat .dead, .flat .dead, .flat .dead, .flat .dead, .flat .dead, .flat .dead, .flat .dead, .flat .dead, .flat .dead, .flat .dead, .flat .dead, .flat .dead, .flat .dead, .flat .dead, .flat .dead, .flat .dead, .flat .dead, .flat .dead, .flat .dead, .flat .dead, .flat .dead, .flat .dead, .flat .dead, .flat .dead, .flat .dead, .flat .dead, .flat .dead, .flat .dead, .flat .dead, .flat .dead, .flat .dead, .flat .dead, .flat .dead, .flat .dead, .flat .dead, .flat .dead, .flat .dead, .flat .dead, .flat .dead, .flat .dead, .flat .dead, .flat .dead, .flat .dead, .flat .dead, .flat .dead, .flat .dead, .flat .dead, .flat .dead, .flat .dead, .flat .dead, .flat .dead, .flat .dead, .flat .dead, .flat .dead]
def os_laws_markHeldS_L_0 : List (OP RT) := []
def conv_laws_markHeldS_L_0 (r : Raw den ps_laws_markHeldS_L_0 os_laws_markHeldS_L_0) : (Int × Int) × (Unit) := ((r.1.2.1, r.1.2.2.2.2.2.1), ())
def back_laws_markHeldS_L_0 (c : Int × Int) (w : Unit) : St RT den := ⟨[(.emp true .impl_Held), (.int .i64 c.1), .dead, .dead, .dead, (.int .i64 c.2), .dead, .dead, .dead, .dead, .dead, .dead, .dead, .dead, .dead, .dead, .dead, .dead, .dead, .dead, .dead, .dead, .dead, .dead, .dead, .dead, .dead, .dead, .dead, .dead, .dead, .dead, .dead, .dead, .dead, .dead, .dead, .dead, .dead, .dead, .dead, .dead, .dead, .dead, .dead, .dead, .dead, .dead, .dead, .dead, .dead, .dead, .dead, .dead, .dead, .dead, .dead, .dead, .dead, .dead, .dead, .dead, .dead, .dead, .dead, .dead, .dead], []⟩
def Bk_laws_markHeldS_L_0 {ρ : Type} (fu : Nat) (c : Int × Int) (k : Ex → St RT den → Option ρ) (w : Unit) (go : (Unit) → Option ρ) : Option ρ := F_laws_markHeldS_L_B0 fu c.1 c.2 (k (.exit 0) ⟨[.dead, (.int .i64 c.1), .dead, .dead, .dead, .dead, .dead, .dead, .dead, .dead, .dead, .dead, .dead, .dead, .dead, .dead, .dead, .dead, .dead, .dead, .dead, .dead, .dead, .dead, .dead, .dead, .dead, .dead, .dead, .dead, .dead, .dead, .dead, .dead, .dead, .dead, .dead, .dead, .dead, .dead, .dead, .dead, .dead, .dead, .dead, .dead, .dead, .dead, .dead, .dead, .dead, .dead, .dead, .dead, .dead, .dead, .dead, .dead, .dead, .dead, .dead, .dead, .dead, .dead, .dead, .dead, .dead], []⟩)  go
def lp_laws_markHeldS_L (fu : Nat) : Lp RT den (Int) := fun b s k => match b with | 0 => handle ps_laws_markHeldS_L_0 os_laws_markHeldS_L_0 conv_laws_markHeldS_L_0 (Bk_laws_markHeldS_L_0 fu) fu s k | _ => none
def out_laws_markHeldS_L (d : D RT den) (os : List (Ob RT den)) : Option (Int) := match d, os with | .int .i64 a0_0, [] => some (a0_0) | _, _ => none
def enc_laws_markHeldS_L (y : Int) : D RT den × List (Ob RT den) := ((.int .i64 y), [])
theorem out_laws_markHeldS_L_enc (d : D RT den) (os : List (Ob RT den)) (y : Int) (h : out_laws_markHeldS_L d os = some y) : (unh 0 d).1 = (enc_laws_markHeldS_L y).1 ∧ os ++ (unh 0 d).2 = (enc_laws_markHeldS_L y).2 := by
  unfold out_laws_markHeldS_L at h
  split at h
  · cases h; exact ⟨rfl, rfl⟩
  · cases h
theorem ev_laws_markHeldS_L (fu : Nat) (k_1_0 : Int) : evFunX E false (pc_laws_markHeldS_L fu) msk_laws_markHeldS_L (lp_laws_markHeldS_L fu) out_laws_markHeldS_L 36 [(.emp true .impl_Held), (.int .i64 k_1_0)] [] = F_laws_markHeldS_L fu k_1_0 := by kernel_rfl
noncomputable def body_laws_markHeldS_L : Code := Try.f36.body.getD .skip
noncomputable def lc_laws_markHeldS_L_0 : Code := ((loops 0 body_laws_markHeldS_L).getD 0 (0, .skip)).2
theorem round_laws_markHeldS_L_0 (fu : Nat) (it : St RT den → Option (Int)) (k : Ex → St RT den → Option (Int)) c w : evCode E (pc_laws_markHeldS_L fu) msk_laws_markHeldS_L (lp_laws_markHeldS_L fu) 0 lc_laws_markHeldS_L_0 (back_laws_markHeldS_L_0 c w) (after (msk_laws_markHeldS_L 0) (msk_laws_markHeldS_L 100000) 0 it k) = Bk_laws_markHeldS_L_0 fu c k w (fun w => it (back_laws_markHeldS_L_0 c w)) := by kernel_rfl
theorem lpok_laws_markHeldS_L_0 (fu : Nat) : ∀ s k r, lp_laws_markHeldS_L fu 0 s k = some r → ∃ fuel, iter (msk_laws_markHeldS_L 0) (msk_laws_markHeldS_L 100000) s.objs.length (evCode E (pc_laws_markHeldS_L fu) msk_laws_markHeldS_L (lp_laws_markHeldS_L fu) 0 lc_laws_markHeldS_L_0) fuel s k = some r :=
  handle_ok (ps := ps_laws_markHeldS_L_0) (os := os_laws_markHeldS_L_0) (conv := conv_laws_markHeldS_L_0) (B := Bk_laws_markHeldS_L_0 fu) (fu := fu) back_laws_markHeldS_L_0 (fun raw => by kernel_rfl) 0 (fun c w => by kernel_rfl) (round_laws_markHeldS_L_0 fu)
theorem lpok_laws_markHeldS_L (fu : Nat) : LpOk E (pc_laws_markHeldS_L fu) msk_laws_markHeldS_L (lp_laws_markHeldS_L fu) (loops 0 body_laws_markHeldS_L) := loop_all 1 (by kernel_rfl) fun i hi => match i, hi with
  | 0, _ => by
    have h : (loops 0 body_laws_markHeldS_L).getD 0 (0, .skip) = (0, lc_laws_markHeldS_L_0) := by kernel_rfl
    rw [h]; exact lpok_laws_markHeldS_L_0 fu
  | i + 1, hi => absurd hi (by omega)
def S_laws_markHeldS_L (fu : Nat) (xs : List (D RT den)) (ins : List (Ob RT den)) : Option (OutX RT den) := match xs, ins with | [.emp true .impl_Held, .int .i64 a1_0], [] => some ⟨Int, F_laws_markHeldS_L fu a1_0, enc_laws_markHeldS_L⟩ | _, _ => none
theorem hpc_laws_markHeldS_L (fu : Nat) : ∀ f xs o, pcf_laws_markHeldS_L fu f xs = some o → ∀ y, o.x = some y → Good E Try.prog f xs (o.g y) := by
  intro f xs o h
  cases h
theorem hpx_laws_markHeldS_L (fu : Nat) : ∀ f xs ins o, pcx_laws_markHeldS_L fu f xs ins = some o → ∀ y, o.x = some y → GoodX E Try.prog f xs ins (o.g y).1 (o.g y).2 := by
  intro f xs ins o h
  cases h
theorem goodv_laws_markHeldS_L (fu : Nat) (k_1_0 : Int) (y : Int) (hy : F_laws_markHeldS_L fu k_1_0 = some y) : GoodX E Try.prog 36 [(.emp true .impl_Held), (.int .i64 k_1_0)] [] (enc_laws_markHeldS_L y).1 (enc_laws_markHeldS_L y).2 :=
  funX_good (ke := false) E_ok (pc_good (pc := pc_laws_markHeldS_L fu) (hpc_laws_markHeldS_L fu) (hpx_laws_markHeldS_L fu)) (fn := Try.f36) (c := body_laws_markHeldS_L) (out := out_laws_markHeldS_L) (y := y) (by kernel_rfl) (by kernel_rfl) (by kernel_rfl) (lpok_laws_markHeldS_L fu) (by kernel_rfl) (Nat.le_refl _) (fun d os hd => out_laws_markHeldS_L_enc d os _ hd) ((ev_laws_markHeldS_L fu k_1_0).trans hy)
theorem good_laws_markHeldS_L (fu : Nat) : ∀ xs ins o, S_laws_markHeldS_L fu xs ins = some o → ∀ y, o.x = some y → GoodX E Try.prog 36 xs ins (o.g y).1 (o.g y).2 := by
  intro xs ins o h y hy
  unfold S_laws_markHeldS_L at h
  split at h
  · rename_i a1_0
    cases h
    exact goodv_laws_markHeldS_L fu a1_0 y hy
  · cases h

/-! laws.markMuxS -/
def F_laws_markMuxS_L_B0 {ρ : Type} (fu : Nat) (a0_0 : Nat) (on0_3 : Nat) (k0 : Int → (Nat → S_impl_Mux_0) → Option ρ) (k1_1 : Int) (i5_2 : Int) (of0_4 : (Nat → S_impl_Mux_0)) (go : Int → Int → (Nat → S_impl_Mux_0) → Option ρ) : Option ρ :=
  (bif (decide (i5_2 < ((a0_0 : Nat) : Int))) then ((bif (decide (0 ≤ i5_2) && decide ((Int.toNat i5_2) < a0_0)) then some () else none : Option Unit).bind fun _ => ((bif (decide (0 ≤ i5_2) &&
    decide ((Int.toNat i5_2) < a0_0)) then some () else none : Option Unit).bind fun _ => ((bif (decide (0 ≤ i5_2) && decide ((Int.toNat i5_2) < a0_0)) then some () else none : Option Unit).bind fun _ =>
    ((bif (decide (0 ≤ i5_2) && decide ((Int.toNat i5_2) < a0_0)) then some () else none : Option Unit).bind fun _ => ((bif (decide (0 ≤ i5_2) && decide ((Int.toNat i5_2) < a0_0)) then
    some () else none : Option Unit).bind fun _ => ((F_laws_markBackendS_L fu (IntKind.wrap .i64 ((IntKind.wrap .i64 ((IntKind.wrap .i64 ((IntKind.wrap .i64 (k1_1 + 1)) + 1)) + 1)) + 1))).bind fun y40 =>
    ((bif (decide (0 ≤ i5_2) && decide ((Int.toNat i5_2) < a0_0)) then some () else none : Option Unit).bind fun _ => ((F_laws_markVipS_L fu y40).bind fun y41 => ((bif (decide (0 ≤ i5_2) &&
    decide ((Int.toNat i5_2) < a0_0)) then some () else none : Option Unit).bind fun _ => ((F_laws_markInt64SS_L fu y41).bind fun y42 => ((bif (decide (0 ≤ i5_2) && decide ((Int.toNat i5_2) < a0_0)) then
    some () else none : Option Unit).bind fun _ => ((F_laws_markHeldS_L fu y42).bind fun y43 => (go y43 (IntKind.wrap .i64 (i5_2 + 1)) (upd_impl_Mux_3_1 (upd_impl_Mux_2_1 (upd_impl_Mux_1_1 (upd_impl_Mux_0_1 of0_4 (Int.toNat i5_2) k1_1) (Int.toNat i5_2) (IntKind.wrap .i64 (k1_1 + 1))) (Int.toNat i5_2) ((Int.tmod (IntKind.wrap .i64 ((IntKind.wrap .i64 (k1_1 + 1)) + 1)) 3) == 0)) (Int.toNat i5_2) (IntKind.wrap .i64 ((IntKind.wrap .i64 ((IntKind.wrap .i64 (k1_1 + 1)) + 1)) + 1)))))))))))))))) else
    (k0 k1_1 of0_4))
def F_laws_markMuxS_L (fu : Nat) (a_0_0 : Nat) (k_1_1 : Int) (rn0 : Nat) (rf0 : (Nat → S_impl_Mux_0)) : Option (Int × (Nat × (Nat → S_impl_Mux_0))) :=
  (L (fun w0 go0 => F_laws_markMuxS_L_B0 fu a_0_0 rn0 (fun z44 z45 => (some (z44, (rn0, z45)))) w0.1 w0.2.1 w0.2.2 (fun q0 q1 q2 => go0 (q0, q1, q2))) fu ((k_1_1, 0, rf0) : Int × Int × (Nat → S_impl_Mux_0)))
def pcf_laws_markMuxS_L (fu : Nat) (f : Nat) (xs : List (D RT den)) : Option (Out RT den) := none
def pcx_laws_markMuxS_L (fu : Nat) (f : Nat) (xs : List (D RT den)) (ins : List (Ob RT den)) : Option (OutX RT den) := match f with | 35 => S_laws_markInt64SS_L fu xs ins | 36 => S_laws_markHeldS_L fu xs ins | 54 => S_laws_markBackendS_L fu xs ins | 55 => S_laws_markVipS_L fu xs ins | _ => none
def pc_laws_markMuxS_L (fu : Nat) : Pc RT den := ⟨pcf_laws_markMuxS_L fu, fun f => match f with | 35 => true | 36 => true | 54 => true | 55 => true | _ => false, fun f => match f with | 35 => true | 36 => true | 54 => true | 55 => true | _ => false, pcx_laws_markMuxS_L fu⟩
def msk_laws_markMuxS_L (b : Nat) : List Nat := match b with | 0 => [2, 3, 4, 6, 7, 8, 9, 10, 11, 12, 13, 14, 15, 16, 17, 18, 19, 20, 21, 22, 23, 24, 25, 26, 27, 28, 29, 30, 31, 32, 33, 34, 35, 36, 37, 38, 39, 40, 41, 42, 43, 44, 45, 46, 47, 48, 49, 50, 51, 52, 53, 54, 55, 56, 57, 58, 59, 60, 61, 62, 63, 64, 65, 66, 67, 68, 69, 70, 71, 72, 73, 74, 75, 76, 77] | 100000 => [0, 2, 3, 5, 6, 7, 8, 9, 10, 11, 12, 13, 14, 15, 16, 17, 18, 19, 20, 21, 22, 23, 24, 25, 26, 27, 28, 29, 30, 31, 32, 33, 34, 35, 36, 37, 38, 39, 40, 41, 42, 43, 44, 45, 46, 47, 48, 49, 50, 51, 52, 53, 54, 55, 56, 57, 58, 59, 60, 61, 62, 63, 64, 65, 66, 67, 68, 69, 70, 71, 72, 73, 74, 75, 76, 77] | _ => []
def ps_laws_markMuxS_L_0 : List (Pat RT) := [.flat (.os 0), .flat (.int .i64), .flat .dead, .flat .dead, .flat .dead, .flat (.int .i64), .flat .dead, .flat .dead, .flat .dead, .flat .dead, .flat .dead, .flat .dead, .flat .dead, .flat .dead, .flat .dead, .flat .dead, .flat .dead, .flat .dead, .flat .dead, .flat .dead, .flat .dead, .flat .dead, .flat .dead, .flat .dead, .flat .dead, .flat .dead, .flat .dead, .flat .dead, .flat .dead, .flat .dead, .flat .dead, .flat .dead, .flat .dead, .flat .dead, .flat .dead, .flat .dead, .flat .dead, .flat .dead, .flat .dead, .flat .dead, .flat .dead, .flat .dead, .flat .dead, .flat .dead, .flat .dead, .flat .dead, .flat .dead, .flat .dead, .flat .dead, .flat .dead, .flat .dead, .flat .dead, .flat .dead, .flat .dead, .flat .dead, .flat .dead, .flat .dead, .flat .dead, .flat .dead, .flat .dead, .flat .dead, .flat .dead, .flat .dead, .flat .dead, .flat .dead, .flat .dead, .flat .dead, .flat .dead, .flat .dead, .flat .dead, .flat .dead, .flat .dead, .flat .dead, .flat .dead, .flat .dead, .flat .dead, .flat .dead, .flat .dead]
def os_laws_markMuxS_L_0 : List (OP RT) := [.row true .impl_Mux]
def conv_laws_markMuxS_L_0 (r : Raw den ps_laws_markMuxS_L_0 os_laws_markMuxS_L_0) : (Nat × Nat) × (Int × Int × (Nat → S_impl_Mux_0)) := ((r.1.1, r.2.1.1), (r.1.2.1, r.1.2.2.2.2.2.1, r.2.1.2))
def back_laws_markMuxS_L_0 (c : Nat × Nat) (w : Int × Int × (Nat → S_impl_Mux_0)) : St RT den := ⟨[(.os 0 c.1), (.int .i64 w.1), .dead, .dead, .dead, (.int .i64 w.2.1), .dead, .dead, .dead, .dead, .dead, .dead, .dead, .dead, .dead, .dead, .dead, .dead, .dead, .dead, .dead, .dead, .dead, .dead, .dead, .dead, .dead, .dead, .dead, .dead, .dead, .dead, .dead, .dead, .dead, .dead, .dead, .dead, .dead, .dead, .dead, .dead, .dead, .dead, .dead, .dead, .dead, .dead, .dead, .dead, .dead, .dead, .dead, .dead, .dead, .dead, .dead, .dead, .dead, .dead, .dead, .dead, .dead, .dead, .dead, .dead, .dead, .dead, .dead, .dead, .dead, .dead, .dead, .dead, .dead, .dead, .dead, .dead], [(.row true .impl_Mux c.2 w.2.2)]⟩
def Bk_laws_markMuxS_L_0 {ρ : Type} (fu : Nat) (c : Nat × Nat) (k : Ex → St RT den → Option ρ) (w : Int × Int × (Nat → S_impl_Mux_0)) (go : (Int × Int × (Nat → S_impl_Mux_0)) → Option ρ) : Option ρ := F_laws_markMuxS_L_B0 fu c.1 c.2 (fun a0 a1 => k (.exit 0) ⟨[.dead, (.int .i64 a0), .dead, .dead, .dead, .dead, .dead, .dead, .dead, .dead, .dead, .dead, .dead, .dead, .dead, .dead, .dead, .dead, .dead, .dead, .dead, .dead, .dead, .dead, .dead, .dead, .dead, .dead, .dead, .dead, .dead, .dead, .dead, .dead, .dead, .dead, .dead, .dead, .dead, .dead, .dead, .dead, .dead, .dead, .dead, .dead, .dead, .dead, .dead, .dead, .dead, .dead, .dead, .dead, .dead, .dead, .dead, .dead, .dead, .dead, .dead, .dead, .dead, .dead, .dead, .dead, .dead, .dead, .dead, .dead, .dead, .dead, .dead, .dead, .dead, .dead, .dead, .dead], [(.row true .impl_Mux c.2 a1)]⟩) w.1 w.2.1 w.2.2 (fun q0 q1 q2 => go (q0, q1, q2))
def lp_laws_markMuxS_L (fu : Nat) : Lp RT den (Int × (Nat × (Nat → S_impl_Mux_0))) := fun b s k => match b with | 0 => handle ps_laws_markMuxS_L_0 os_laws_markMuxS_L_0 conv_laws_markMuxS_L_0 (Bk_laws_markMuxS_L_0 fu) fu s k | _ => none
def out_laws_markMuxS_L (d : D RT den) (os : List (Ob RT den)) : Option (Int × (Nat × (Nat → S_impl_Mux_0))) := match d, os with | .int .i64 a0_0, [.row true .impl_Mux n0 f0] => some (a0_0, (n0, f0)) | _, _ => none
def enc_laws_markMuxS_L (y : Int × (Nat × (Nat → S_impl_Mux_0))) : D RT den × List (Ob RT den) := ((.int .i64 y.1), [(.row true .impl_Mux y.2.1 y.2.2)])
theorem out_laws_markMuxS_L_enc (d : D RT den) (os : List (Ob RT den)) (y : Int × (Nat × (Nat → S_impl_Mux_0))) (h : out_laws_markMuxS_L d os = some y) : (unh 1 d).1 = (enc_laws_markMuxS_L y).1 ∧ os ++ (unh 1 d).2 = (enc_laws_markMuxS_L y).2 := by
  unfold out_laws_markMuxS_L at h
  split at h
  · cases h; exact ⟨rfl, rfl⟩
  · cases h
theorem ev_laws_markMuxS_L (fu : Nat) (a_0_0 : Nat) (k_1_1 : Int) (rn0 : Nat) (rf0 : (Nat → S_impl_Mux_0)) : evFunX E false (pc_laws_markMuxS_L fu) msk_laws_markMuxS_L (lp_laws_markMuxS_L fu) out_laws_markMuxS_L 43 [(.os 0 a_0_0), (.int .i64 k_1_1)] [(.row true .impl_Mux rn0 rf0)] = F_laws_markMuxS_L fu a_0_0 k_1_1 rn0 rf0 := by kernel_rfl
noncomputable def body_laws_markMuxS_L : Code := Try.f43.body.getD .skip
noncomputable def lc_laws_markMuxS_L_0 : Code := ((loops 0 body_laws_markMuxS_L).getD 0 (0, .skip)).2
theorem round_laws_markMuxS_L_0 (fu : Nat) (it : St RT den → Option (Int × (Nat × (Nat → S_impl_Mux_0)))) (k : Ex → St RT den → Option (Int × (Nat × (Nat → S_impl_Mux_0)))) c w : evCode E (pc_laws_markMuxS_L fu) msk_laws_markMuxS_L (lp_laws_markMuxS_L fu) 0 lc_laws_markMuxS_L_0 (back_laws_markMuxS_L_0 c w) (after (msk_laws_markMuxS_L 0) (msk_laws_markMuxS_L 100000) 1 it k) = Bk_laws_markMuxS_L_0 fu c k w (fun w => it (back_laws_markMuxS_L_0 c w)) := by kernel_rfl
theorem lpok_laws_markMuxS_L_0 (fu : Nat) : ∀ s k r, lp_laws_markMuxS_L fu 0 s k = some r → ∃ fuel, iter (msk_laws_markMuxS_L 0) (msk_laws_markMuxS_L 100000) s.objs.length (evCode E (pc_laws_markMuxS_L fu) msk_laws_markMuxS_L (lp_laws_markMuxS_L fu) 0 lc_laws_markMuxS_L_0) fuel s k = some r :=
  handle_ok (ps := ps_laws_markMuxS_L_0) (os := os_laws_markMuxS_L_0) (conv := conv_laws_markMuxS_L_0) (B := Bk_laws_markMuxS_L_0 fu) (fu := fu) back_laws_markMuxS_L_0 (fun raw => by kernel_rfl) 1 (fun c w => by kernel_rfl) (round_laws_markMuxS_L_0 fu)
theorem lpok_laws_markMuxS_L (fu : Nat) : LpOk E (pc_laws_markMuxS_L fu) msk_laws_markMuxS_L (lp_laws_markMuxS_L fu) (loops 0 body_laws_markMuxS_L) := loop_all 1 (by kernel_rfl) fun i hi => match i, hi with
  | 0, _ => by
    have h : (loops 0 body_laws_markMuxS_L).getD 0 (0, .skip) = (0, lc_laws_markMuxS_L_0) := by kernel_rfl
    rw [h]; exact lpok_laws_markMuxS_L_0 fu
  | i + 1, hi => absurd hi (by omega)
def S_laws_markMuxS_L (fu : Nat) (xs : List (D RT den)) (ins : List (Ob RT den)) : Option (OutX RT den) := match xs, ins with | [.os 0 a0_0, .int .i64 a1_0], [.row true .impl_Mux rn0 rf0] => some ⟨Int × (Nat × (Nat → S_impl_Mux_0)), F_laws_markMuxS_L fu a0_0 a1_0 rn0 rf0, enc_laws_markMuxS_L⟩ | _, _ => none
theorem hpc_laws_markMuxS_L (fu : Nat) : ∀ f xs o, pcf_laws_markMuxS_L fu f xs = some o → ∀ y, o.x = some y → Good E Try.prog f xs (o.g y) := by
  intro f xs o h
  cases h
theorem hpx_laws_markMuxS_L (fu : Nat) : ∀ f xs ins o, pcx_laws_markMuxS_L fu f xs ins = some o → ∀ y, o.x = some y → GoodX E Try.prog f xs ins (o.g y).1 (o.g y).2 := by
  intro f xs ins o h
  unfold pcx_laws_markMuxS_L at h
  split at h
  · exact good_laws_markInt64SS_L fu xs ins o h
  · exact good_laws_markHeldS_L fu xs ins o h
  · exact good_laws_markBackendS_L fu xs ins o h
  · exact good_laws_markVipS_L fu xs ins o h
  · cases h
theorem goodv_laws_markMuxS_L (fu : Nat) (a_0_0 : Nat) (k_1_1 : Int) (rn0 : Nat) (rf0 : (Nat → S_impl_Mux_0)) (y : Int × (Nat × (Nat → S_impl_Mux_0))) (hy : F_laws_markMuxS_L fu a_0_0 k_1_1 rn0 rf0 = some y) : GoodX E Try.prog 43 [(.os 0 a_0_0), (.int .i64 k_1_1)] [(.row true .impl_Mux rn0 rf0)] (enc_laws_markMuxS_L y).1 (enc_laws_markMuxS_L y).2 :=
  funX_good (ke := false) E_ok (pc_good (pc := pc_laws_markMuxS_L fu) (hpc_laws_markMuxS_L fu) (hpx_laws_markMuxS_L fu)) (fn := Try.f43) (c := body_laws_markMuxS_L) (out := out_laws_markMuxS_L) (y := y) (by kernel_rfl) (by kernel_rfl) (by kernel_rfl) (lpok_laws_markMuxS_L fu) (by kernel_rfl) (Nat.le_refl _) (fun d os hd => out_laws_markMuxS_L_enc d os _ hd) ((ev_laws_markMuxS_L fu a_0_0 k_1_1 rn0 rf0).trans hy)
theorem good_laws_markMuxS_L (fu : Nat) : ∀ xs ins o, S_laws_markMuxS_L fu xs ins = some o → ∀ y, o.x = some y → GoodX E Try.prog 43 xs ins (o.g y).1 (o.g y).2 := by
  intro xs ins o h y hy
  unfold S_laws_markMuxS_L at h
  split at h
  · rename_i a0_0 a1_0 rn0 rf0
    cases h
    exact goodv_laws_markMuxS_L fu a0_0 a1_0 rn0 rf0 y hy
  · cases h
end Go.Proofs.Ytaghkcpgpjbdnaa.Pn
