/- The functions' evaluated forms, each a proved summary. Conditions: none. -/
import Derived.Test.YtmdjkdgjmbfegaaPnT
namespace Go.Proofs.Ytmdjkdgjmbfegaa.Pn
open Go Go.RowKit Go.Proofs Vm
set_option linter.unusedVariables false
set_option linter.unusedSimpArgs false
set_option maxRecDepth 100000
/-! spec.l9Bad -/
def F_spec_l9Bad_E (fu : Nat) (c_0 : Int) : Option (S_impl_ClusterResult) :=
  (some (⟨c_0, (⟨(⟨(some true), 0, (fun _ => dflt .impl_Node)⟩ : (Sl S_impl_Node_0)), (⟨(some true), 0, (fun _ => dflt .impl_Mail)⟩ : (Sl S_impl_Mail)), (⟨(some true), 0, (fun _ =>
    dflt .impl_Won)⟩ : (Sl S_impl_Won)), (⟨(some true), 0, (fun _ => dflt .impl_Seal)⟩ : (Sl S_impl_Seal))⟩ : S_impl_Cluster)⟩ : S_impl_ClusterResult))
def pcf_spec_l9Bad_E (fu : Nat) (f : Nat) (xs : List (D RT den)) : Option (Out RT den) := none
def pcx_spec_l9Bad_E (fu : Nat) (f : Nat) (xs : List (D RT den)) (ins : List (Ob RT den)) : Option (OutX RT den) := none
def pc_spec_l9Bad_E (fu : Nat) : Pc RT den := ⟨pcf_spec_l9Bad_E fu, fun _ => false, fun _ => false, pcx_spec_l9Bad_E fu⟩
def msk_spec_l9Bad_E (b : Nat) : List Nat := []
def lp_spec_l9Bad_E (fu : Nat) : Lp RT den (S_impl_ClusterResult) := fun b s k => none
theorem ev_spec_l9Bad_E (fu : Nat) (c_0 : Int) : evFunX E true (pc_spec_l9Bad_E fu) msk_spec_l9Bad_E (lp_spec_l9Bad_E fu) out_impl_ClusterResult_E 74 [(.int .i64 c_0)] [] = F_spec_l9Bad_E fu c_0 := by kernel_rfl
noncomputable def body_spec_l9Bad_E : Code := Try.f74.body.getD .skip
theorem lpok_spec_l9Bad_E (fu : Nat) : LpOk E (pc_spec_l9Bad_E fu) msk_spec_l9Bad_E (lp_spec_l9Bad_E fu) (loops 0 body_spec_l9Bad_E) := by
  have h : loops 0 body_spec_l9Bad_E = [] := by kernel_rfl
  rw [h]; intro p hp; cases hp
def S_spec_l9Bad_E (fu : Nat) (xs : List (D RT den)) (ins : List (Ob RT den)) : Option (OutX RT den) := match xs, ins with | [.int .i64 a0_0], [] => some ⟨S_impl_ClusterResult, F_spec_l9Bad_E fu a0_0, enc_impl_ClusterResult_E⟩ | _, _ => none
theorem hpc_spec_l9Bad_E (fu : Nat) : ∀ f xs o, pcf_spec_l9Bad_E fu f xs = some o → ∀ y, o.x = some y → Good E Try.prog f xs (o.g y) := by
  intro f xs o h
  cases h
theorem hpx_spec_l9Bad_E (fu : Nat) : ∀ f xs ins o, pcx_spec_l9Bad_E fu f xs ins = some o → ∀ y, o.x = some y → GoodX E Try.prog f xs ins (o.g y).1 (o.g y).2 := by
  intro f xs ins o h
  cases h
theorem goodv_spec_l9Bad_E (fu : Nat) (c_0 : Int) (y : S_impl_ClusterResult) (hy : F_spec_l9Bad_E fu c_0 = some y) : GoodX E Try.prog 74 [(.int .i64 c_0)] [] (enc_impl_ClusterResult_E y).1 (enc_impl_ClusterResult_E y).2 :=
  funX_good (ke := true) E_ok (pc_good (pc := pc_spec_l9Bad_E fu) (hpc_spec_l9Bad_E fu) (hpx_spec_l9Bad_E fu)) (fn := Try.f74) (c := body_spec_l9Bad_E) (out := out_impl_ClusterResult_E) (y := y) (by kernel_rfl) (by kernel_rfl) (by kernel_rfl) (lpok_spec_l9Bad_E fu) (by kernel_rfl) (Nat.zero_le _) (fun d os hd => out_impl_ClusterResult_E_enc d os _ hd) ((ev_spec_l9Bad_E fu c_0).trans hy)
theorem good_spec_l9Bad_E (fu : Nat) : ∀ xs ins o, S_spec_l9Bad_E fu xs ins = some o → ∀ y, o.x = some y → GoodX E Try.prog 74 xs ins (o.g y).1 (o.g y).2 := by
  intro xs ins o h y hy
  unfold S_spec_l9Bad_E at h
  split at h
  · rename_i a0_0
    cases h
    exact goodv_spec_l9Bad_E fu a0_0 y hy
  · cases h

/-! spec.l1In -/
def F_spec_l1In (fu : Nat) (v_0 : Int) (low_1 : Int) (high_2 : Int) : Option (Bool) :=
  (((bif (decide (v_0 ≥ low_1)) then (some (decide (v_0 ≤ high_2))) else (some false)) : Option Bool).bind fun m15 => (some m15))
def pcf_spec_l1In (fu : Nat) (f : Nat) (xs : List (D RT den)) : Option (Out RT den) := none
def pcx_spec_l1In (fu : Nat) (f : Nat) (xs : List (D RT den)) (ins : List (Ob RT den)) : Option (OutX RT den) := none
def pc_spec_l1In (fu : Nat) : Pc RT den := ⟨pcf_spec_l1In fu, fun _ => false, fun _ => false, pcx_spec_l1In fu⟩
def msk_spec_l1In (b : Nat) : List Nat := match b with | 200001 => [6] | _ => []
def lp_spec_l1In (fu : Nat) : Lp RT den (Bool) := fun b s k => none
theorem ev_spec_l1In (fu : Nat) (v_0 : Int) (low_1 : Int) (high_2 : Int) : evFun E (pc_spec_l1In fu) msk_spec_l1In (lp_spec_l1In fu) out_bo 53 [(.int .i64 v_0), (.int .i64 low_1), (.int .i64 high_2)] = F_spec_l1In fu v_0 low_1 high_2 := by kernel_rfl
noncomputable def body_spec_l1In : Code := Try.f53.body.getD .skip
theorem lpok_spec_l1In (fu : Nat) : LpOk E (pc_spec_l1In fu) msk_spec_l1In (lp_spec_l1In fu) (loops 0 body_spec_l1In) := by
  have h : loops 0 body_spec_l1In = [] := by kernel_rfl
  rw [h]; intro p hp; cases hp
def S_spec_l1In (fu : Nat) (xs : List (D RT den)) : Option (Out RT den) := match xs with | [.int .i64 a0_0, .int .i64 a1_0, .int .i64 a2_0] => some ⟨Bool, F_spec_l1In fu a0_0 a1_0 a2_0, enc_bo, fun _ => true⟩ | _ => none
theorem hpc_spec_l1In (fu : Nat) : ∀ f xs o, pcf_spec_l1In fu f xs = some o → ∀ y, o.x = some y → Good E Try.prog f xs (o.g y) := by
  intro f xs o h
  cases h
theorem hpx_spec_l1In (fu : Nat) : ∀ f xs ins o, pcx_spec_l1In fu f xs ins = some o → ∀ y, o.x = some y → GoodX E Try.prog f xs ins (o.g y).1 (o.g y).2 := by
  intro f xs ins o h
  cases h
theorem goodv_spec_l1In (fu : Nat) (v_0 : Int) (low_1 : Int) (high_2 : Int) (y : Bool) (hy : F_spec_l1In fu v_0 low_1 high_2 = some y) : Good E Try.prog 53 [(.int .i64 v_0), (.int .i64 low_1), (.int .i64 high_2)] (enc_bo y) :=
  fun_good E_ok (pc_good (pc := pc_spec_l1In fu) (hpc_spec_l1In fu) (hpx_spec_l1In fu)) (fn := Try.f53) (c := body_spec_l1In) (out := out_bo) (y := y) (by kernel_rfl) (by kernel_rfl) (by kernel_rfl) (lpok_spec_l1In fu) (fun d hd => out_bo_enc d _ hd) ((ev_spec_l1In fu v_0 low_1 high_2).trans hy)
theorem good_spec_l1In (fu : Nat) : ∀ xs o, S_spec_l1In fu xs = some o → ∀ y, o.x = some y → Good E Try.prog 53 xs (o.g y) := by
  intro xs o h y hy
  unfold S_spec_l1In at h
  split at h
  · rename_i a0_0 a1_0 a2_0
    cases h
    exact goodv_spec_l1In fu a0_0 a1_0 a2_0 y hy
  · cases h

/-! spec.NewCluster -/
def F_spec_NewCluster_H_B0 {ρ : Type} (fu : Nat) (peers0_0 : Int) (o0_2 : Int) (o1_3 : Int) (k0 : Nat → Nat → (Nat → S_impl_Node_0) → Option ρ) (k4_1 : Int) (o1_4 : Nat) (on2_5 : Nat) (of2_6 : (Nat → S_impl_Node_0)) (go : Int → Nat → Nat → (Nat → S_impl_Node_0) → Option ρ) : Option ρ :=
  (bif (decide (k4_1 < peers0_0)) then (bif (decide ((o1_4 + 1) ≤ 9223372036854775807) && decide ((o1_4 + 1) * 144 ≤ 140737488355328)) then (go (IntKind.wrap .i64 (k4_1 + 1)) (o1_4 + 1) (o1_4 + 1) (fun i =>
    if i < o1_4 then (of2_6 i) else ((fun i => [(⟨k4_1, peers0_0, 0, (-1), 0, 0⟩ : S_impl_Node_0)].getD i (dflt .impl_Node)) (i - o1_4)))) else none) else (k0 o1_4 on2_5 of2_6))
def F_spec_NewCluster_H (fu : Nat) (peers_0 : Int) : Option (S_impl_ClusterResult) :=
  ((F_spec_l1In fu peers_0 1 5).bind fun y10 => (bif (!y10) then ((F_spec_l9Bad_E fu 3).bind fun y11 => (some (⟨y11.Code, (⟨(⟨(some true), 0, (fun _ => dflt .impl_Node)⟩ : (Sl S_impl_Node_0)),
    (⟨(some true), 0, (fun _ => dflt .impl_Mail)⟩ : (Sl S_impl_Mail)), (⟨(some true), 0, (fun _ => dflt .impl_Won)⟩ : (Sl S_impl_Won)), (⟨(some true), 0, (fun _ => dflt .impl_Seal)⟩ : (Sl S_impl_Seal))⟩ : S_impl_Cluster)⟩ : S_impl_ClusterResult))) else
    (L (fun w0 go0 => F_spec_NewCluster_H_B0 fu peers_0 0 0 (fun z12 z13 z14 => (some (⟨0, (⟨(⟨none, z12, z14⟩ : (Sl S_impl_Node_0)), (⟨(some true), 0, (fun _ => dflt .impl_Mail)⟩ : (Sl S_impl_Mail)),
    (⟨(some true), 0, (fun _ => dflt .impl_Won)⟩ : (Sl S_impl_Won)), (⟨(some true), 0, (fun _ => dflt .impl_Seal)⟩ : (Sl S_impl_Seal))⟩ : S_impl_Cluster)⟩ : S_impl_ClusterResult))) w0.1 w0.2.1 w0.2.2.1 w0.2.2.2 (fun q0 q1 q2 q3 =>
    go0 (q0, q1, q2, q3))) fu ((0, 0, 0, (fun _ => dflt .impl_Node)) : Int × Nat × Nat × (Nat → S_impl_Node_0)))))
def pcf_spec_NewCluster_H (fu : Nat) (f : Nat) (xs : List (D RT den)) : Option (Out RT den) := match f with | 53 => S_spec_l1In fu xs | _ => none
def pcx_spec_NewCluster_H (fu : Nat) (f : Nat) (xs : List (D RT den)) (ins : List (Ob RT den)) : Option (OutX RT den) := match f with | 74 => S_spec_l9Bad_E fu xs ins | _ => none
def pc_spec_NewCluster_H (fu : Nat) : Pc RT den := ⟨pcf_spec_NewCluster_H fu, fun f => match f with | 74 => true | _ => false, fun _ => false, pcx_spec_NewCluster_H fu⟩
def msk_spec_NewCluster_H (b : Nat) : List Nat := match b with | 0 => [1, 5, 6, 7, 8, 9, 10, 11, 12, 13, 14, 15, 16, 17, 18, 19, 20, 21, 22, 23, 24, 25] | 100000 => [0, 1, 4, 5, 6, 7, 8, 9, 10, 11, 12, 13, 14, 15, 16, 17, 18, 19, 20, 21, 22, 23, 24, 25] | 300000 => [1001001] | _ => []
def ps_spec_NewCluster_H_0 : List (Pat RT) := [.flat (.int .i64), .flat .dead, .flat (.ref 0 0), .flat (.ref 1 0), .flat (.int .i64), .flat .dead, .flat .dead, .flat .dead, .flat .dead, .flat .dead, .flat .dead, .flat .dead, .flat .dead, .flat .dead, .flat .dead, .flat .dead, .flat .dead, .flat .dead, .flat .dead, .flat .dead, .flat .dead, .flat .dead, .flat .dead, .flat .dead, .flat .dead, .flat .dead]
def os_spec_NewCluster_H_0 : List (OP RT) := [.box [(.int .i64), (.emp true .impl_Node), (.emp true .impl_Mail), (.emp true .impl_Won), (.emp true .impl_Seal)], .box [(.int .i64), (.os 2), (.emp true .impl_Mail), (.emp true .impl_Won), (.emp true .impl_Seal)], .row false .impl_Node]
def conv_spec_NewCluster_H_0 (r : Raw den ps_spec_NewCluster_H_0 os_spec_NewCluster_H_0) : (Int × Int × Int) × (Int × Nat × Nat × (Nat → S_impl_Node_0)) := ((r.1.1, r.2.1.1, r.2.2.1.1), (r.1.2.2.2.2.1, r.2.2.1.2.1, r.2.2.2.1.1, r.2.2.2.1.2))
def back_spec_NewCluster_H_0 (c : Int × Int × Int) (w : Int × Nat × Nat × (Nat → S_impl_Node_0)) : St RT den := ⟨[(.int .i64 c.1), .dead, (.ref 0 0), (.ref 1 0), (.int .i64 w.1), .dead, .dead, .dead, .dead, .dead, .dead, .dead, .dead, .dead, .dead, .dead, .dead, .dead, .dead, .dead, .dead, .dead, .dead, .dead, .dead, .dead], [(.box [(.int .i64 c.2.1), (.emp true .impl_Node), (.emp true .impl_Mail), (.emp true .impl_Won), (.emp true .impl_Seal)]), (.box [(.int .i64 c.2.2), (.os 2 w.2.1), (.emp true .impl_Mail), (.emp true .impl_Won), (.emp true .impl_Seal)]), (.row false .impl_Node w.2.2.1 w.2.2.2)]⟩
def Bk_spec_NewCluster_H_0 {ρ : Type} (fu : Nat) (c : Int × Int × Int) (k : Ex → St RT den → Option ρ) (w : Int × Nat × Nat × (Nat → S_impl_Node_0)) (go : (Int × Nat × Nat × (Nat → S_impl_Node_0)) → Option ρ) : Option ρ := F_spec_NewCluster_H_B0 fu c.1 c.2.1 c.2.2 (fun a0 a1 a2 => k (.exit 0) ⟨[.dead, .dead, (.ref 0 0), (.ref 1 0), .dead, .dead, .dead, .dead, .dead, .dead, .dead, .dead, .dead, .dead, .dead, .dead, .dead, .dead, .dead, .dead, .dead, .dead, .dead, .dead, .dead, .dead], [(.box [(.int .i64 c.2.1), (.emp true .impl_Node), (.emp true .impl_Mail), (.emp true .impl_Won), (.emp true .impl_Seal)]), (.box [(.int .i64 c.2.2), (.os 2 a0), (.emp true .impl_Mail), (.emp true .impl_Won), (.emp true .impl_Seal)]), (.row false .impl_Node a1 a2)]⟩) w.1 w.2.1 w.2.2.1 w.2.2.2 (fun q0 q1 q2 q3 => go (q0, q1, q2, q3))
def lp_spec_NewCluster_H (fu : Nat) : Lp RT den (S_impl_ClusterResult) := fun b s k => match b with | 0 => handle ps_spec_NewCluster_H_0 os_spec_NewCluster_H_0 conv_spec_NewCluster_H_0 (Bk_spec_NewCluster_H_0 fu) fu s k | _ => none
theorem ev_spec_NewCluster_H (fu : Nat) (peers_0 : Int) : evFunX E false (pc_spec_NewCluster_H fu) msk_spec_NewCluster_H (lp_spec_NewCluster_H fu) out_impl_ClusterResult_H 36 [(.int .i64 peers_0)] [] = F_spec_NewCluster_H fu peers_0 := by kernel_rfl
noncomputable def body_spec_NewCluster_H : Code := Try.f36.body.getD .skip
noncomputable def lc_spec_NewCluster_H_0 : Code := ((loops 0 body_spec_NewCluster_H).getD 0 (0, .skip)).2
theorem round_spec_NewCluster_H_0 (fu : Nat) (it : St RT den → Option (S_impl_ClusterResult)) (k : Ex → St RT den → Option (S_impl_ClusterResult)) c w : evCode E (pc_spec_NewCluster_H fu) msk_spec_NewCluster_H (lp_spec_NewCluster_H fu) 0 lc_spec_NewCluster_H_0 (back_spec_NewCluster_H_0 c w) (after (msk_spec_NewCluster_H 0) (msk_spec_NewCluster_H 100000) 3 it k) = Bk_spec_NewCluster_H_0 fu c k w (fun w => it (back_spec_NewCluster_H_0 c w)) := by kernel_rfl
theorem lpok_spec_NewCluster_H_0 (fu : Nat) : ∀ s k r, lp_spec_NewCluster_H fu 0 s k = some r → ∃ fuel, iter (msk_spec_NewCluster_H 0) (msk_spec_NewCluster_H 100000) s.objs.length (evCode E (pc_spec_NewCluster_H fu) msk_spec_NewCluster_H (lp_spec_NewCluster_H fu) 0 lc_spec_NewCluster_H_0) fuel s k = some r :=
  handle_ok (ps := ps_spec_NewCluster_H_0) (os := os_spec_NewCluster_H_0) (conv := conv_spec_NewCluster_H_0) (B := Bk_spec_NewCluster_H_0 fu) (fu := fu) back_spec_NewCluster_H_0 (fun raw => by kernel_rfl) 3 (fun c w => by kernel_rfl) (round_spec_NewCluster_H_0 fu)
theorem lpok_spec_NewCluster_H (fu : Nat) : LpOk E (pc_spec_NewCluster_H fu) msk_spec_NewCluster_H (lp_spec_NewCluster_H fu) (loops 0 body_spec_NewCluster_H) := loop_all 1 (by kernel_rfl) fun i hi => match i, hi with
  | 0, _ => by
    have h : (loops 0 body_spec_NewCluster_H).getD 0 (0, .skip) = (0, lc_spec_NewCluster_H_0) := by kernel_rfl
    rw [h]; exact lpok_spec_NewCluster_H_0 fu
  | i + 1, hi => absurd hi (by omega)
def S_spec_NewCluster_H (fu : Nat) (xs : List (D RT den)) (ins : List (Ob RT den)) : Option (OutX RT den) := match xs, ins with | [.int .i64 a0_0], [] => some ⟨S_impl_ClusterResult, F_spec_NewCluster_H fu a0_0, enc_impl_ClusterResult_H⟩ | _, _ => none
theorem hpc_spec_NewCluster_H (fu : Nat) : ∀ f xs o, pcf_spec_NewCluster_H fu f xs = some o → ∀ y, o.x = some y → Good E Try.prog f xs (o.g y) := by
  intro f xs o h
  unfold pcf_spec_NewCluster_H at h
  split at h
  · exact good_spec_l1In fu xs o h
  · cases h
theorem hpx_spec_NewCluster_H (fu : Nat) : ∀ f xs ins o, pcx_spec_NewCluster_H fu f xs ins = some o → ∀ y, o.x = some y → GoodX E Try.prog f xs ins (o.g y).1 (o.g y).2 := by
  intro f xs ins o h
  unfold pcx_spec_NewCluster_H at h
  split at h
  · exact good_spec_l9Bad_E fu xs ins o h
  · cases h
theorem goodv_spec_NewCluster_H (fu : Nat) (peers_0 : Int) (y : S_impl_ClusterResult) (hy : F_spec_NewCluster_H fu peers_0 = some y) : GoodX E Try.prog 36 [(.int .i64 peers_0)] [] (enc_impl_ClusterResult_H y).1 (enc_impl_ClusterResult_H y).2 :=
  funX_good (ke := false) E_ok (pc_good (pc := pc_spec_NewCluster_H fu) (hpc_spec_NewCluster_H fu) (hpx_spec_NewCluster_H fu)) (fn := Try.f36) (c := body_spec_NewCluster_H) (out := out_impl_ClusterResult_H) (y := y) (by kernel_rfl) (by kernel_rfl) (by kernel_rfl) (lpok_spec_NewCluster_H fu) (by kernel_rfl) (Nat.zero_le _) (fun d os hd => out_impl_ClusterResult_H_enc d os _ hd) ((ev_spec_NewCluster_H fu peers_0).trans hy)
theorem good_spec_NewCluster_H (fu : Nat) : ∀ xs ins o, S_spec_NewCluster_H fu xs ins = some o → ∀ y, o.x = some y → GoodX E Try.prog 36 xs ins (o.g y).1 (o.g y).2 := by
  intro xs ins o h y hy
  unfold S_spec_NewCluster_H at h
  split at h
  · rename_i a0_0
    cases h
    exact goodv_spec_NewCluster_H fu a0_0 y hy
  · cases h

/-! impl.in -/
def F_impl_in (fu : Nat) (n_0 : Int) (low_1 : Int) (high_2 : Int) : Option (Bool) :=
  (((bif (decide (n_0 ≥ low_1)) then (some (decide (n_0 ≤ high_2))) else (some false)) : Option Bool).bind fun m21 => (some m21))
def pcf_impl_in (fu : Nat) (f : Nat) (xs : List (D RT den)) : Option (Out RT den) := none
def pcx_impl_in (fu : Nat) (f : Nat) (xs : List (D RT den)) (ins : List (Ob RT den)) : Option (OutX RT den) := none
def pc_impl_in (fu : Nat) : Pc RT den := ⟨pcf_impl_in fu, fun _ => false, fun _ => false, pcx_impl_in fu⟩
def msk_impl_in (b : Nat) : List Nat := match b with | 200001 => [6] | _ => []
def lp_impl_in (fu : Nat) : Lp RT den (Bool) := fun b s k => none
theorem ev_impl_in (fu : Nat) (n_0 : Int) (low_1 : Int) (high_2 : Int) : evFun E (pc_impl_in fu) msk_impl_in (lp_impl_in fu) out_bo 62 [(.int .i64 n_0), (.int .i64 low_1), (.int .i64 high_2)] = F_impl_in fu n_0 low_1 high_2 := by kernel_rfl
noncomputable def body_impl_in : Code := Try.f62.body.getD .skip
theorem lpok_impl_in (fu : Nat) : LpOk E (pc_impl_in fu) msk_impl_in (lp_impl_in fu) (loops 0 body_impl_in) := by
  have h : loops 0 body_impl_in = [] := by kernel_rfl
  rw [h]; intro p hp; cases hp
def S_impl_in (fu : Nat) (xs : List (D RT den)) : Option (Out RT den) := match xs with | [.int .i64 a0_0, .int .i64 a1_0, .int .i64 a2_0] => some ⟨Bool, F_impl_in fu a0_0 a1_0 a2_0, enc_bo, fun _ => true⟩ | _ => none
theorem hpc_impl_in (fu : Nat) : ∀ f xs o, pcf_impl_in fu f xs = some o → ∀ y, o.x = some y → Good E Try.prog f xs (o.g y) := by
  intro f xs o h
  cases h
theorem hpx_impl_in (fu : Nat) : ∀ f xs ins o, pcx_impl_in fu f xs ins = some o → ∀ y, o.x = some y → GoodX E Try.prog f xs ins (o.g y).1 (o.g y).2 := by
  intro f xs ins o h
  cases h
theorem goodv_impl_in (fu : Nat) (n_0 : Int) (low_1 : Int) (high_2 : Int) (y : Bool) (hy : F_impl_in fu n_0 low_1 high_2 = some y) : Good E Try.prog 62 [(.int .i64 n_0), (.int .i64 low_1), (.int .i64 high_2)] (enc_bo y) :=
  fun_good E_ok (pc_good (pc := pc_impl_in fu) (hpc_impl_in fu) (hpx_impl_in fu)) (fn := Try.f62) (c := body_impl_in) (out := out_bo) (y := y) (by kernel_rfl) (by kernel_rfl) (by kernel_rfl) (lpok_impl_in fu) (fun d hd => out_bo_enc d _ hd) ((ev_impl_in fu n_0 low_1 high_2).trans hy)
theorem good_impl_in (fu : Nat) : ∀ xs o, S_impl_in fu xs = some o → ∀ y, o.x = some y → Good E Try.prog 62 xs (o.g y) := by
  intro xs o h y hy
  unfold S_impl_in at h
  split at h
  · rename_i a0_0 a1_0 a2_0
    cases h
    exact goodv_impl_in fu a0_0 a1_0 a2_0 y hy
  · cases h

/-! impl.NewNode -/
def F_impl_NewNode_E (fu : Nat) (id_0 : Int) (peers_1 : Int) : Option (S_impl_NodeResult) :=
  ((((F_impl_in fu peers_1 1 5).bind fun y18 => (bif (!y18) then (some true) else ((F_impl_in fu id_0 0 (IntKind.wrap .i64 (peers_1 - 1))).bind fun y19 => (some (!y19))))) : Option Bool).bind fun m20 =>
    (bif m20 then (some (⟨3, (⟨0, 0, 0, 0, (⟨(some true), 0, (fun _ => dflt .impl_Entry)⟩ : (Sl S_impl_Entry)), 0, 0, (⟨(some true), 0, (fun _ => dflt .i64)⟩ : (Sl Int)), (⟨(some true),
    0, (fun _ => dflt .i64)⟩ : (Sl Int)), (⟨(some true), 0, (fun _ => dflt .i64)⟩ : (Sl Int))⟩ : S_impl_Node), (⟨(some true), 0, (fun _ => dflt .impl_Mail)⟩ : (Sl S_impl_Mail))⟩ : S_impl_NodeResult)) else
    (some (⟨0, (⟨id_0, peers_1, 0, (-1), (⟨(some true), 0, (fun _ => dflt .impl_Entry)⟩ : (Sl S_impl_Entry)), 0, 0, (⟨(some true), 0, (fun _ => dflt .i64)⟩ : (Sl Int)), (⟨(some true),
    0, (fun _ => dflt .i64)⟩ : (Sl Int)), (⟨(some true), 0, (fun _ => dflt .i64)⟩ : (Sl Int))⟩ : S_impl_Node), (⟨(some true), 0, (fun _ => dflt .impl_Mail)⟩ : (Sl S_impl_Mail))⟩ : S_impl_NodeResult))))
def pcf_impl_NewNode_E (fu : Nat) (f : Nat) (xs : List (D RT den)) : Option (Out RT den) := match f with | 62 => S_impl_in fu xs | _ => none
def pcx_impl_NewNode_E (fu : Nat) (f : Nat) (xs : List (D RT den)) (ins : List (Ob RT den)) : Option (OutX RT den) := none
def pc_impl_NewNode_E (fu : Nat) : Pc RT den := ⟨pcf_impl_NewNode_E fu, fun _ => false, fun _ => false, pcx_impl_NewNode_E fu⟩
def msk_impl_NewNode_E (b : Nat) : List Nat := match b with | 200001 => [14] | _ => []
def lp_impl_NewNode_E (fu : Nat) : Lp RT den (S_impl_NodeResult) := fun b s k => none
theorem ev_impl_NewNode_E (fu : Nat) (id_0 : Int) (peers_1 : Int) : evFunX E true (pc_impl_NewNode_E fu) msk_impl_NewNode_E (lp_impl_NewNode_E fu) out_impl_NodeResult_E 26 [(.int .i64 id_0), (.int .i64 peers_1)] [] = F_impl_NewNode_E fu id_0 peers_1 := by kernel_rfl
noncomputable def body_impl_NewNode_E : Code := Try.f26.body.getD .skip
theorem lpok_impl_NewNode_E (fu : Nat) : LpOk E (pc_impl_NewNode_E fu) msk_impl_NewNode_E (lp_impl_NewNode_E fu) (loops 0 body_impl_NewNode_E) := by
  have h : loops 0 body_impl_NewNode_E = [] := by kernel_rfl
  rw [h]; intro p hp; cases hp
def S_impl_NewNode_E (fu : Nat) (xs : List (D RT den)) (ins : List (Ob RT den)) : Option (OutX RT den) := match xs, ins with | [.int .i64 a0_0, .int .i64 a1_0], [] => some ⟨S_impl_NodeResult, F_impl_NewNode_E fu a0_0 a1_0, enc_impl_NodeResult_E⟩ | _, _ => none
theorem hpc_impl_NewNode_E (fu : Nat) : ∀ f xs o, pcf_impl_NewNode_E fu f xs = some o → ∀ y, o.x = some y → Good E Try.prog f xs (o.g y) := by
  intro f xs o h
  unfold pcf_impl_NewNode_E at h
  split at h
  · exact good_impl_in fu xs o h
  · cases h
theorem hpx_impl_NewNode_E (fu : Nat) : ∀ f xs ins o, pcx_impl_NewNode_E fu f xs ins = some o → ∀ y, o.x = some y → GoodX E Try.prog f xs ins (o.g y).1 (o.g y).2 := by
  intro f xs ins o h
  cases h
theorem goodv_impl_NewNode_E (fu : Nat) (id_0 : Int) (peers_1 : Int) (y : S_impl_NodeResult) (hy : F_impl_NewNode_E fu id_0 peers_1 = some y) : GoodX E Try.prog 26 [(.int .i64 id_0), (.int .i64 peers_1)] [] (enc_impl_NodeResult_E y).1 (enc_impl_NodeResult_E y).2 :=
  funX_good (ke := true) E_ok (pc_good (pc := pc_impl_NewNode_E fu) (hpc_impl_NewNode_E fu) (hpx_impl_NewNode_E fu)) (fn := Try.f26) (c := body_impl_NewNode_E) (out := out_impl_NodeResult_E) (y := y) (by kernel_rfl) (by kernel_rfl) (by kernel_rfl) (lpok_impl_NewNode_E fu) (by kernel_rfl) (Nat.zero_le _) (fun d os hd => out_impl_NodeResult_E_enc d os _ hd) ((ev_impl_NewNode_E fu id_0 peers_1).trans hy)
theorem good_impl_NewNode_E (fu : Nat) : ∀ xs ins o, S_impl_NewNode_E fu xs ins = some o → ∀ y, o.x = some y → GoodX E Try.prog 26 xs ins (o.g y).1 (o.g y).2 := by
  intro xs ins o h y hy
  unfold S_impl_NewNode_E at h
  split at h
  · rename_i a0_0 a1_0
    cases h
    exact goodv_impl_NewNode_E fu a0_0 a1_0 y hy
  · cases h

/-! impl.NewCluster -/
def F_impl_NewCluster_H_B0 {ρ : Type} (fu : Nat) (peers0_0 : Int) (t10_1 : Int) (o0_3 : Int) (k0 : Nat → Nat → (Nat → S_impl_Node_0) → Option ρ) (t11_2 : Int) (o1_4 : Nat) (on2_5 : Nat) (of2_6 : (Nat → S_impl_Node_0)) (go : Int → Nat → Nat → (Nat → S_impl_Node_0) → Option ρ) : Option ρ :=
  (bif (decide (t11_2 < t10_1)) then ((F_impl_NewNode_E fu t11_2 peers0_0).bind fun y31 => (bif (decide ((o1_4 + 1) ≤ 9223372036854775807) && decide ((o1_4 + 1) * 144 ≤ 140737488355328)) then
    (go (IntKind.wrap .i64 (t11_2 + 1)) (o1_4 + 1) (o1_4 + 1) (fun i => if i < o1_4 then (of2_6 i) else ((fun i => [(⟨y31.Node.Id, y31.Node.Peers, y31.Node.Term, y31.Node.Voted,
    y31.Node.Role, y31.Node.Commit⟩ : S_impl_Node_0)].getD i (dflt .impl_Node)) (i - o1_4)))) else none)) else (k0 o1_4 on2_5 of2_6))
def F_impl_NewCluster_H (fu : Nat) (peers_0 : Int) : Option (S_impl_ClusterResult) :=
  ((F_impl_in fu peers_0 1 5).bind fun y30 => (bif (!y30) then (some (⟨3, (⟨(⟨(some true), 0, (fun _ => dflt .impl_Node)⟩ : (Sl S_impl_Node_0)), (⟨(some true), 0, (fun _ => dflt .impl_Mail)⟩ : (Sl S_impl_Mail)),
    (⟨(some true), 0, (fun _ => dflt .impl_Won)⟩ : (Sl S_impl_Won)), (⟨(some true), 0, (fun _ => dflt .impl_Seal)⟩ : (Sl S_impl_Seal))⟩ : S_impl_Cluster)⟩ : S_impl_ClusterResult)) else
    (L (fun w0 go0 => F_impl_NewCluster_H_B0 fu peers_0 peers_0 0 (fun z32 z33 z34 => (some (⟨0, (⟨(⟨none, z32, z34⟩ : (Sl S_impl_Node_0)), (⟨(some true), 0, (fun _ => dflt .impl_Mail)⟩ : (Sl S_impl_Mail)),
    (⟨(some true), 0, (fun _ => dflt .impl_Won)⟩ : (Sl S_impl_Won)), (⟨(some true), 0, (fun _ => dflt .impl_Seal)⟩ : (Sl S_impl_Seal))⟩ : S_impl_Cluster)⟩ : S_impl_ClusterResult))) w0.1 w0.2.1 w0.2.2.1 w0.2.2.2 (fun q0 q1 q2 q3 =>
    go0 (q0, q1, q2, q3))) fu ((0, 0, 0, (fun _ => dflt .impl_Node)) : Int × Nat × Nat × (Nat → S_impl_Node_0)))))
def pcf_impl_NewCluster_H (fu : Nat) (f : Nat) (xs : List (D RT den)) : Option (Out RT den) := match f with | 62 => S_impl_in fu xs | _ => none
def pcx_impl_NewCluster_H (fu : Nat) (f : Nat) (xs : List (D RT den)) (ins : List (Ob RT den)) : Option (OutX RT den) := match f with | 26 => S_impl_NewNode_E fu xs ins | _ => none
def pc_impl_NewCluster_H (fu : Nat) : Pc RT den := ⟨pcf_impl_NewCluster_H fu, fun f => match f with | 26 => true | _ => false, fun _ => false, pcx_impl_NewCluster_H fu⟩
def msk_impl_NewCluster_H (b : Nat) : List Nat := match b with | 0 => [1, 4, 5, 6, 7, 8, 9, 12, 13, 14, 15, 16, 17, 18, 19, 20, 21, 22, 23, 24, 25] | 100000 => [0, 1, 4, 5, 6, 7, 8, 9, 10, 11, 12, 13, 14, 15, 16, 17, 18, 19, 20, 21, 22, 23, 24, 25] | 300000 => [1001000] | _ => []
def ps_impl_NewCluster_H_0 : List (Pat RT) := [.flat (.int .i64), .flat .dead, .flat (.ref 0 0), .flat (.ref 1 0), .flat .dead, .flat .dead, .flat .dead, .flat .dead, .flat .dead, .flat .dead, .flat (.int .i64), .flat (.int .i64), .flat .dead, .flat .dead, .flat .dead, .flat .dead, .flat .dead, .flat .dead, .flat .dead, .flat .dead, .flat .dead, .flat .dead, .flat .dead, .flat .dead, .flat .dead, .flat .dead]
def os_impl_NewCluster_H_0 : List (OP RT) := [.box [(.int .i64), (.emp true .impl_Node), (.emp true .impl_Mail), (.emp true .impl_Won), (.emp true .impl_Seal)], .box [(.os 2), (.emp true .impl_Mail), (.emp true .impl_Won), (.emp true .impl_Seal)], .row false .impl_Node]
def conv_impl_NewCluster_H_0 (r : Raw den ps_impl_NewCluster_H_0 os_impl_NewCluster_H_0) : (Int × Int × Int) × (Int × Nat × Nat × (Nat → S_impl_Node_0)) := ((r.1.1, r.1.2.2.2.2.2.2.2.2.2.2.1, r.2.1.1), (r.1.2.2.2.2.2.2.2.2.2.2.2.1, r.2.2.1.1, r.2.2.2.1.1, r.2.2.2.1.2))
def back_impl_NewCluster_H_0 (c : Int × Int × Int) (w : Int × Nat × Nat × (Nat → S_impl_Node_0)) : St RT den := ⟨[(.int .i64 c.1), .dead, (.ref 0 0), (.ref 1 0), .dead, .dead, .dead, .dead, .dead, .dead, (.int .i64 c.2.1), (.int .i64 w.1), .dead, .dead, .dead, .dead, .dead, .dead, .dead, .dead, .dead, .dead, .dead, .dead, .dead, .dead], [(.box [(.int .i64 c.2.2), (.emp true .impl_Node), (.emp true .impl_Mail), (.emp true .impl_Won), (.emp true .impl_Seal)]), (.box [(.os 2 w.2.1), (.emp true .impl_Mail), (.emp true .impl_Won), (.emp true .impl_Seal)]), (.row false .impl_Node w.2.2.1 w.2.2.2)]⟩
def Bk_impl_NewCluster_H_0 {ρ : Type} (fu : Nat) (c : Int × Int × Int) (k : Ex → St RT den → Option ρ) (w : Int × Nat × Nat × (Nat → S_impl_Node_0)) (go : (Int × Nat × Nat × (Nat → S_impl_Node_0)) → Option ρ) : Option ρ := F_impl_NewCluster_H_B0 fu c.1 c.2.1 c.2.2 (fun a0 a1 a2 => k (.exit 0) ⟨[.dead, .dead, (.ref 0 0), (.ref 1 0), .dead, .dead, .dead, .dead, .dead, .dead, .dead, .dead, .dead, .dead, .dead, .dead, .dead, .dead, .dead, .dead, .dead, .dead, .dead, .dead, .dead, .dead], [(.box [(.int .i64 c.2.2), (.emp true .impl_Node), (.emp true .impl_Mail), (.emp true .impl_Won), (.emp true .impl_Seal)]), (.box [(.os 2 a0), (.emp true .impl_Mail), (.emp true .impl_Won), (.emp true .impl_Seal)]), (.row false .impl_Node a1 a2)]⟩) w.1 w.2.1 w.2.2.1 w.2.2.2 (fun q0 q1 q2 q3 => go (q0, q1, q2, q3))
def lp_impl_NewCluster_H (fu : Nat) : Lp RT den (S_impl_ClusterResult) := fun b s k => match b with | 0 => handle ps_impl_NewCluster_H_0 os_impl_NewCluster_H_0 conv_impl_NewCluster_H_0 (Bk_impl_NewCluster_H_0 fu) fu s k | _ => none
theorem ev_impl_NewCluster_H (fu : Nat) (peers_0 : Int) : evFunX E false (pc_impl_NewCluster_H fu) msk_impl_NewCluster_H (lp_impl_NewCluster_H fu) out_impl_ClusterResult_H 37 [(.int .i64 peers_0)] [] = F_impl_NewCluster_H fu peers_0 := by kernel_rfl
noncomputable def body_impl_NewCluster_H : Code := Try.f37.body.getD .skip
noncomputable def lc_impl_NewCluster_H_0 : Code := ((loops 0 body_impl_NewCluster_H).getD 0 (0, .skip)).2
theorem round_impl_NewCluster_H_0 (fu : Nat) (it : St RT den → Option (S_impl_ClusterResult)) (k : Ex → St RT den → Option (S_impl_ClusterResult)) c w : evCode E (pc_impl_NewCluster_H fu) msk_impl_NewCluster_H (lp_impl_NewCluster_H fu) 0 lc_impl_NewCluster_H_0 (back_impl_NewCluster_H_0 c w) (after (msk_impl_NewCluster_H 0) (msk_impl_NewCluster_H 100000) 3 it k) = Bk_impl_NewCluster_H_0 fu c k w (fun w => it (back_impl_NewCluster_H_0 c w)) := by kernel_rfl
theorem lpok_impl_NewCluster_H_0 (fu : Nat) : ∀ s k r, lp_impl_NewCluster_H fu 0 s k = some r → ∃ fuel, iter (msk_impl_NewCluster_H 0) (msk_impl_NewCluster_H 100000) s.objs.length (evCode E (pc_impl_NewCluster_H fu) msk_impl_NewCluster_H (lp_impl_NewCluster_H fu) 0 lc_impl_NewCluster_H_0) fuel s k = some r :=
  handle_ok (ps := ps_impl_NewCluster_H_0) (os := os_impl_NewCluster_H_0) (conv := conv_impl_NewCluster_H_0) (B := Bk_impl_NewCluster_H_0 fu) (fu := fu) back_impl_NewCluster_H_0 (fun raw => by kernel_rfl) 3 (fun c w => by kernel_rfl) (round_impl_NewCluster_H_0 fu)
theorem lpok_impl_NewCluster_H (fu : Nat) : LpOk E (pc_impl_NewCluster_H fu) msk_impl_NewCluster_H (lp_impl_NewCluster_H fu) (loops 0 body_impl_NewCluster_H) := loop_all 1 (by kernel_rfl) fun i hi => match i, hi with
  | 0, _ => by
    have h : (loops 0 body_impl_NewCluster_H).getD 0 (0, .skip) = (0, lc_impl_NewCluster_H_0) := by kernel_rfl
    rw [h]; exact lpok_impl_NewCluster_H_0 fu
  | i + 1, hi => absurd hi (by omega)
def S_impl_NewCluster_H (fu : Nat) (xs : List (D RT den)) (ins : List (Ob RT den)) : Option (OutX RT den) := match xs, ins with | [.int .i64 a0_0], [] => some ⟨S_impl_ClusterResult, F_impl_NewCluster_H fu a0_0, enc_impl_ClusterResult_H⟩ | _, _ => none
theorem hpc_impl_NewCluster_H (fu : Nat) : ∀ f xs o, pcf_impl_NewCluster_H fu f xs = some o → ∀ y, o.x = some y → Good E Try.prog f xs (o.g y) := by
  intro f xs o h
  unfold pcf_impl_NewCluster_H at h
  split at h
  · exact good_impl_in fu xs o h
  · cases h
theorem hpx_impl_NewCluster_H (fu : Nat) : ∀ f xs ins o, pcx_impl_NewCluster_H fu f xs ins = some o → ∀ y, o.x = some y → GoodX E Try.prog f xs ins (o.g y).1 (o.g y).2 := by
  intro f xs ins o h
  unfold pcx_impl_NewCluster_H at h
  split at h
  · exact good_impl_NewNode_E fu xs ins o h
  · cases h
theorem goodv_impl_NewCluster_H (fu : Nat) (peers_0 : Int) (y : S_impl_ClusterResult) (hy : F_impl_NewCluster_H fu peers_0 = some y) : GoodX E Try.prog 37 [(.int .i64 peers_0)] [] (enc_impl_ClusterResult_H y).1 (enc_impl_ClusterResult_H y).2 :=
  funX_good (ke := false) E_ok (pc_good (pc := pc_impl_NewCluster_H fu) (hpc_impl_NewCluster_H fu) (hpx_impl_NewCluster_H fu)) (fn := Try.f37) (c := body_impl_NewCluster_H) (out := out_impl_ClusterResult_H) (y := y) (by kernel_rfl) (by kernel_rfl) (by kernel_rfl) (lpok_impl_NewCluster_H fu) (by kernel_rfl) (Nat.zero_le _) (fun d os hd => out_impl_ClusterResult_H_enc d os _ hd) ((ev_impl_NewCluster_H fu peers_0).trans hy)
theorem good_impl_NewCluster_H (fu : Nat) : ∀ xs ins o, S_impl_NewCluster_H fu xs ins = some o → ∀ y, o.x = some y → GoodX E Try.prog 37 xs ins (o.g y).1 (o.g y).2 := by
  intro xs ins o h y hy
  unfold S_impl_NewCluster_H at h
  split at h
  · rename_i a0_0
    cases h
    exact goodv_impl_NewCluster_H fu a0_0 y hy
  · cases h

/-! laws.markEntryS -/
def F_laws_markEntryS_L_B0 {ρ : Type} (fu : Nat) (k1_0 : Int) (i5_1 : Int) (k0 : Option ρ) (go : Unit → Option ρ) : Option ρ :=
  (bif (decide (i5_1 < 0)) then none else k0)
def F_laws_markEntryS_L (fu : Nat) (k_1_0 : Int) : Option (Int) :=
  (L (fun w0 go0 => F_laws_markEntryS_L_B0 fu k_1_0 0 (some (k_1_0))  go0) fu (() : Unit))
def pcf_laws_markEntryS_L (fu : Nat) (f : Nat) (xs : List (D RT den)) : Option (Out RT den) := none
def pcx_laws_markEntryS_L (fu : Nat) (f : Nat) (xs : List (D RT den)) (ins : List (Ob RT den)) : Option (OutX RT den) := none
def pc_laws_markEntryS_L (fu : Nat) : Pc RT den := ⟨pcf_laws_markEntryS_L fu, fun _ => false, fun _ => false, pcx_laws_markEntryS_L fu⟩
def msk_laws_markEntryS_L (b : Nat) : List Nat := match b with | 0 => [2, 3, 4, 6, 7, 8, 9, 10, 11, 12, 13, 14, 15, 16, 17, 18, 19, 20, 21, 22, 23, 24, 25, 26, 27, 28, 29, 30, 31, 32, 33, 34, 35, 36, 37, 38, 39, 40, 41, 42, 43, 44, 45, 46, 47, 48, 49, 50, 51, 52, 53, 54, 55, 56, 57, 58, 59, 60, 61, 62, 63, 64, 65, 66, 67, 68, 69, 70, 71, 72, 73, 74, 75, 76, 77, 78, 79, 80, 81] | 100000 => [0, 2, 3, 5, 6, 7, 8, 9, 10, 11, 12, 13, 14, 15, 16, 17, 18, 19, 20, 21, 22, 23, 24, 25, 26, 27, 28, 29, 30, 31, 32, 33, 34, 35, 36, 37, 38, 39, 40, 41, 42, 43, 44, 45, 46, 47, 48, 49, 50, 51, 52, 53, 54, 55, 56, 57, 58, 59, 60, 61, 62, 63, 64, 65, 66, 67, 68, 69, 70, 71, 72, 73, 74, 75, 76, 77, 78, 79, 80, 81] | _ => []
def ps_laws_markEntryS_L_0 : List (Pat RT) := [.flat (.emp true .impl_Entry), .flat (.int .i64), .flat .dead, .flat .dead, .flat .dead, .flat (.int .i64), .flat .dead, .flat .dead, .flat .dead, .flat .dead, .flat .dead, .flat .dead, .flat .dead, .flat .dead, .flat .dead, .flat .dead, .flat .dead, .flat .dead, .flat .dead, .flat .dead, .flat .dead, .flat .dead, .flat .dead, .flat .dead, .flat .dead, .flat .dead, .flat .dead, .flat .dead, .flat .dead, .flat .dead, .flat .dead, .flat .dead, .flat .dead, .flat .dead, .flat .dead, .flat .dead, .flat .dead, .flat .dead, .flat .dead, .flat .dead, .flat .dead, .flat .dead, .flat .dead, .flat .dead, .flat .dead, .flat .dead, .flat .dead, .flat .dead, .flat .dead, .flat .dead, .flat .dead, .flat .dead, .flat .dead, .flat .dead, .flat .dead, .flat .dead, .flat .dead, .flat .dead, .flat .dead, .flat .dead, .flat .dead, .flat .dead, .flat .dead, .flat .dead, .flat .dead, .flat .dead, .flat .dead, .flat .dead, .flat .dead, .flat .dead, .flat .dead, .flat .dead, .flat .dead, .flat .dead, .flat .dead, .flat .dead, .flat .dead, .flat .dead, .flat .dead, .flat .dead, .flat .dead, .flat .dead]
def os_laws_markEntryS_L_0 : List (OP RT) := []
def conv_laws_markEntryS_L_0 (r : Raw den ps_laws_markEntryS_L_0 os_laws_markEntryS_L_0) : (Int × Int) × (Unit) := ((r.1.2.1, r.1.2.2.2.2.2.1), ())
def back_laws_markEntryS_L_0 (c : Int × Int) (w : Unit) : St RT den := ⟨[(.emp true .impl_Entry), (.int .i64 c.1), .dead, .dead, .dead, (.int .i64 c.2), .dead, .dead, .dead, .dead, .dead, .dead, .dead, .dead, .dead, .dead, .dead, .dead, .dead, .dead, .dead, .dead, .dead, .dead, .dead, .dead, .dead, .dead, .dead, .dead, .dead, .dead, .dead, .dead, .dead, .dead, .dead, .dead, .dead, .dead, .dead, .dead, .dead, .dead, .dead, .dead, .dead, .dead, .dead, .dead, .dead, .dead, .dead, .dead, .dead, .dead, .dead, .dead, .dead, .dead, .dead, .dead, .dead, .dead, .dead, .dead, .dead, .dead, .dead, .dead, .dead, .dead, .dead, .dead, .dead, .dead, .dead, .dead, .dead, .dead, .dead, .dead], []⟩
def Bk_laws_markEntryS_L_0 {ρ : Type} (fu : Nat) (c : Int × Int) (k : Ex → St RT den → Option ρ) (w : Unit) (go : (Unit) → Option ρ) : Option ρ := F_laws_markEntryS_L_B0 fu c.1 c.2 (k (.exit 0) ⟨[.dead, (.int .i64 c.1), .dead, .dead, .dead, .dead, .dead, .dead, .dead, .dead, .dead, .dead, .dead, .dead, .dead, .dead, .dead, .dead, .dead, .dead, .dead, .dead, .dead, .dead, .dead, .dead, .dead, .dead, .dead, .dead, .dead, .dead, .dead, .dead, .dead, .dead, .dead, .dead, .dead, .dead, .dead, .dead, .dead, .dead, .dead, .dead, .dead, .dead, .dead, .dead, .dead, .dead, .dead, .dead, .dead, .dead, .dead, .dead, .dead, .dead, .dead, .dead, .dead, .dead, .dead, .dead, .dead, .dead, .dead, .dead, .dead, .dead, .dead, .dead, .dead, .dead, .dead, .dead, .dead, .dead, .dead, .dead], []⟩)  go
def lp_laws_markEntryS_L (fu : Nat) : Lp RT den (Int) := fun b s k => match b with | 0 => handle ps_laws_markEntryS_L_0 os_laws_markEntryS_L_0 conv_laws_markEntryS_L_0 (Bk_laws_markEntryS_L_0 fu) fu s k | _ => none
def out_laws_markEntryS_L (d : D RT den) (os : List (Ob RT den)) : Option (Int) := match d, os with | .int .i64 a0_0, [] => some (a0_0) | _, _ => none
def enc_laws_markEntryS_L (y : Int) : D RT den × List (Ob RT den) := ((.int .i64 y), [])
theorem out_laws_markEntryS_L_enc (d : D RT den) (os : List (Ob RT den)) (y : Int) (h : out_laws_markEntryS_L d os = some y) : (unh 0 d).1 = (enc_laws_markEntryS_L y).1 ∧ os ++ (unh 0 d).2 = (enc_laws_markEntryS_L y).2 := by
  unfold out_laws_markEntryS_L at h
  split at h
  · cases h; exact ⟨rfl, rfl⟩
  · cases h
theorem ev_laws_markEntryS_L (fu : Nat) (k_1_0 : Int) : evFunX E false (pc_laws_markEntryS_L fu) msk_laws_markEntryS_L (lp_laws_markEntryS_L fu) out_laws_markEntryS_L 14 [(.emp true .impl_Entry), (.int .i64 k_1_0)] [] = F_laws_markEntryS_L fu k_1_0 := by kernel_rfl
noncomputable def body_laws_markEntryS_L : Code := Try.f14.body.getD .skip
noncomputable def lc_laws_markEntryS_L_0 : Code := ((loops 0 body_laws_markEntryS_L).getD 0 (0, .skip)).2
theorem round_laws_markEntryS_L_0 (fu : Nat) (it : St RT den → Option (Int)) (k : Ex → St RT den → Option (Int)) c w : evCode E (pc_laws_markEntryS_L fu) msk_laws_markEntryS_L (lp_laws_markEntryS_L fu) 0 lc_laws_markEntryS_L_0 (back_laws_markEntryS_L_0 c w) (after (msk_laws_markEntryS_L 0) (msk_laws_markEntryS_L 100000) 0 it k) = Bk_laws_markEntryS_L_0 fu c k w (fun w => it (back_laws_markEntryS_L_0 c w)) := by kernel_rfl
theorem lpok_laws_markEntryS_L_0 (fu : Nat) : ∀ s k r, lp_laws_markEntryS_L fu 0 s k = some r → ∃ fuel, iter (msk_laws_markEntryS_L 0) (msk_laws_markEntryS_L 100000) s.objs.length (evCode E (pc_laws_markEntryS_L fu) msk_laws_markEntryS_L (lp_laws_markEntryS_L fu) 0 lc_laws_markEntryS_L_0) fuel s k = some r :=
  handle_ok (ps := ps_laws_markEntryS_L_0) (os := os_laws_markEntryS_L_0) (conv := conv_laws_markEntryS_L_0) (B := Bk_laws_markEntryS_L_0 fu) (fu := fu) back_laws_markEntryS_L_0 (fun raw => by kernel_rfl) 0 (fun c w => by kernel_rfl) (round_laws_markEntryS_L_0 fu)
theorem lpok_laws_markEntryS_L (fu : Nat) : LpOk E (pc_laws_markEntryS_L fu) msk_laws_markEntryS_L (lp_laws_markEntryS_L fu) (loops 0 body_laws_markEntryS_L) := loop_all 1 (by kernel_rfl) fun i hi => match i, hi with
  | 0, _ => by
    have h : (loops 0 body_laws_markEntryS_L).getD 0 (0, .skip) = (0, lc_laws_markEntryS_L_0) := by kernel_rfl
    rw [h]; exact lpok_laws_markEntryS_L_0 fu
  | i + 1, hi => absurd hi (by omega)
def S_laws_markEntryS_L (fu : Nat) (xs : List (D RT den)) (ins : List (Ob RT den)) : Option (OutX RT den) := match xs, ins with | [.emp true .impl_Entry, .int .i64 a1_0], [] => some ⟨Int, F_laws_markEntryS_L fu a1_0, enc_laws_markEntryS_L⟩ | _, _ => none
theorem hpc_laws_markEntryS_L (fu : Nat) : ∀ f xs o, pcf_laws_markEntryS_L fu f xs = some o → ∀ y, o.x = some y → Good E Try.prog f xs (o.g y) := by
  intro f xs o h
  cases h
theorem hpx_laws_markEntryS_L (fu : Nat) : ∀ f xs ins o, pcx_laws_markEntryS_L fu f xs ins = some o → ∀ y, o.x = some y → GoodX E Try.prog f xs ins (o.g y).1 (o.g y).2 := by
  intro f xs ins o h
  cases h
theorem goodv_laws_markEntryS_L (fu : Nat) (k_1_0 : Int) (y : Int) (hy : F_laws_markEntryS_L fu k_1_0 = some y) : GoodX E Try.prog 14 [(.emp true .impl_Entry), (.int .i64 k_1_0)] [] (enc_laws_markEntryS_L y).1 (enc_laws_markEntryS_L y).2 :=
  funX_good (ke := false) E_ok (pc_good (pc := pc_laws_markEntryS_L fu) (hpc_laws_markEntryS_L fu) (hpx_laws_markEntryS_L fu)) (fn := Try.f14) (c := body_laws_markEntryS_L) (out := out_laws_markEntryS_L) (y := y) (by kernel_rfl) (by kernel_rfl) (by kernel_rfl) (lpok_laws_markEntryS_L fu) (by kernel_rfl) (Nat.le_refl _) (fun d os hd => out_laws_markEntryS_L_enc d os _ hd) ((ev_laws_markEntryS_L fu k_1_0).trans hy)
theorem good_laws_markEntryS_L (fu : Nat) : ∀ xs ins o, S_laws_markEntryS_L fu xs ins = some o → ∀ y, o.x = some y → GoodX E Try.prog 14 xs ins (o.g y).1 (o.g y).2 := by
  intro xs ins o h y hy
  unfold S_laws_markEntryS_L at h
  split at h
  · rename_i a1_0
    cases h
    exact goodv_laws_markEntryS_L fu a1_0 y hy
  · cases h

/-! laws.markInt64S -/
def F_laws_markInt64S_L_B0 {ρ : Type} (fu : Nat) (k1_0 : Int) (i5_1 : Int) (k0 : Option ρ) (go : Unit → Option ρ) : Option ρ :=
  (bif (decide (i5_1 < 0)) then none else k0)
def F_laws_markInt64S_L (fu : Nat) (k_1_0 : Int) : Option (Int) :=
  (L (fun w0 go0 => F_laws_markInt64S_L_B0 fu k_1_0 0 (some (k_1_0))  go0) fu (() : Unit))
def pcf_laws_markInt64S_L (fu : Nat) (f : Nat) (xs : List (D RT den)) : Option (Out RT den) := none
def pcx_laws_markInt64S_L (fu : Nat) (f : Nat) (xs : List (D RT den)) (ins : List (Ob RT den)) : Option (OutX RT den) := none
def pc_laws_markInt64S_L (fu : Nat) : Pc RT den := ⟨pcf_laws_markInt64S_L fu, fun _ => false, fun _ => false, pcx_laws_markInt64S_L fu⟩
def msk_laws_markInt64S_L (b : Nat) : List Nat := match b with | 0 => [2, 3, 4, 6, 7, 8, 9, 10, 11, 12, 13, 14, 15, 16, 17, 18] | 100000 => [0, 2, 3, 5, 6, 7, 8, 9, 10, 11, 12, 13, 14, 15, 16, 17, 18] | _ => []
def ps_laws_markInt64S_L_0 : List (Pat RT) := [.flat (.emp true .i64), .flat (.int .i64), .flat .dead, .flat .dead, .flat .dead, .flat (.int .i64), .flat .dead, .flat .dead, .flat .dead, .flat .dead, .flat .dead, .flat .dead, .flat .dead, .flat .dead, .flat .dead, .flat .dead, .flat .dead, .flat .dead, .flat .dead]
def os_laws_markInt64S_L_0 : List (OP RT) := []
def conv_laws_markInt64S_L_0 (r : Raw den ps_laws_markInt64S_L_0 os_laws_markInt64S_L_0) : (Int × Int) × (Unit) := ((r.1.2.1, r.1.2.2.2.2.2.1), ())
def back_laws_markInt64S_L_0 (c : Int × Int) (w : Unit) : St RT den := ⟨[(.emp true .i64), (.int .i64 c.1), .dead, .dead, .dead, (.int .i64 c.2), .dead, .dead, .dead, .dead, .dead, .dead, .dead, .dead, .dead, .dead, .dead, .dead, .dead], []⟩
def Bk_laws_markInt64S_L_0 {ρ : Type} (fu : Nat) (c : Int × Int) (k : Ex → St RT den → Option ρ) (w : Unit) (go : (Unit) → Option ρ) : Option ρ := F_laws_markInt64S_L_B0 fu c.1 c.2 (k (.exit 0) ⟨[.dead, (.int .i64 c.1), .dead, .dead, .dead, .dead, .dead, .dead, .dead, .dead, .dead, .dead, .dead, .dead, .dead, .dead, .dead, .dead, .dead], []⟩)  go
def lp_laws_markInt64S_L (fu : Nat) : Lp RT den (Int) := fun b s k => match b with | 0 => handle ps_laws_markInt64S_L_0 os_laws_markInt64S_L_0 conv_laws_markInt64S_L_0 (Bk_laws_markInt64S_L_0 fu) fu s k | _ => none
def out_laws_markInt64S_L (d : D RT den) (os : List (Ob RT den)) : Option (Int) := match d, os with | .int .i64 a0_0, [] => some (a0_0) | _, _ => none
def enc_laws_markInt64S_L (y : Int) : D RT den × List (Ob RT den) := ((.int .i64 y), [])
theorem out_laws_markInt64S_L_enc (d : D RT den) (os : List (Ob RT den)) (y : Int) (h : out_laws_markInt64S_L d os = some y) : (unh 0 d).1 = (enc_laws_markInt64S_L y).1 ∧ os ++ (unh 0 d).2 = (enc_laws_markInt64S_L y).2 := by
  unfold out_laws_markInt64S_L at h
  split at h
  · cases h; exact ⟨rfl, rfl⟩
  · cases h
theorem ev_laws_markInt64S_L (fu : Nat) (k_1_0 : Int) : evFunX E false (pc_laws_markInt64S_L fu) msk_laws_markInt64S_L (lp_laws_markInt64S_L fu) out_laws_markInt64S_L 73 [(.emp true .i64), (.int .i64 k_1_0)] [] = F_laws_markInt64S_L fu k_1_0 := by kernel_rfl
noncomputable def body_laws_markInt64S_L : Code := Try.f73.body.getD .skip
noncomputable def lc_laws_markInt64S_L_0 : Code := ((loops 0 body_laws_markInt64S_L).getD 0 (0, .skip)).2
theorem round_laws_markInt64S_L_0 (fu : Nat) (it : St RT den → Option (Int)) (k : Ex → St RT den → Option (Int)) c w : evCode E (pc_laws_markInt64S_L fu) msk_laws_markInt64S_L (lp_laws_markInt64S_L fu) 0 lc_laws_markInt64S_L_0 (back_laws_markInt64S_L_0 c w) (after (msk_laws_markInt64S_L 0) (msk_laws_markInt64S_L 100000) 0 it k) = Bk_laws_markInt64S_L_0 fu c k w (fun w => it (back_laws_markInt64S_L_0 c w)) := by kernel_rfl
theorem lpok_laws_markInt64S_L_0 (fu : Nat) : ∀ s k r, lp_laws_markInt64S_L fu 0 s k = some r → ∃ fuel, iter (msk_laws_markInt64S_L 0) (msk_laws_markInt64S_L 100000) s.objs.length (evCode E (pc_laws_markInt64S_L fu) msk_laws_markInt64S_L (lp_laws_markInt64S_L fu) 0 lc_laws_markInt64S_L_0) fuel s k = some r :=
  handle_ok (ps := ps_laws_markInt64S_L_0) (os := os_laws_markInt64S_L_0) (conv := conv_laws_markInt64S_L_0) (B := Bk_laws_markInt64S_L_0 fu) (fu := fu) back_laws_markInt64S_L_0 (fun raw => by kernel_rfl) 0 (fun c w => by kernel_rfl) (round_laws_markInt64S_L_0 fu)
theorem lpok_laws_markInt64S_L (fu : Nat) : LpOk E (pc_laws_markInt64S_L fu) msk_laws_markInt64S_L (lp_laws_markInt64S_L fu) (loops 0 body_laws_markInt64S_L) := loop_all 1 (by kernel_rfl) fun i hi => match i, hi with
  | 0, _ => by
    have h : (loops 0 body_laws_markInt64S_L).getD 0 (0, .skip) = (0, lc_laws_markInt64S_L_0) := by kernel_rfl
    rw [h]; exact lpok_laws_markInt64S_L_0 fu
  | i + 1, hi => absurd hi (by omega)
def S_laws_markInt64S_L (fu : Nat) (xs : List (D RT den)) (ins : List (Ob RT den)) : Option (OutX RT den) := match xs, ins with | [.emp true .i64, .int .i64 a1_0], [] => some ⟨Int, F_laws_markInt64S_L fu a1_0, enc_laws_markInt64S_L⟩ | _, _ => none
theorem hpc_laws_markInt64S_L (fu : Nat) : ∀ f xs o, pcf_laws_markInt64S_L fu f xs = some o → ∀ y, o.x = some y → Good E Try.prog f xs (o.g y) := by
  intro f xs o h
  cases h
theorem hpx_laws_markInt64S_L (fu : Nat) : ∀ f xs ins o, pcx_laws_markInt64S_L fu f xs ins = some o → ∀ y, o.x = some y → GoodX E Try.prog f xs ins (o.g y).1 (o.g y).2 := by
  intro f xs ins o h
  cases h
theorem goodv_laws_markInt64S_L (fu : Nat) (k_1_0 : Int) (y : Int) (hy : F_laws_markInt64S_L fu k_1_0 = some y) : GoodX E Try.prog 73 [(.emp true .i64), (.int .i64 k_1_0)] [] (enc_laws_markInt64S_L y).1 (enc_laws_markInt64S_L y).2 :=
  funX_good (ke := false) E_ok (pc_good (pc := pc_laws_markInt64S_L fu) (hpc_laws_markInt64S_L fu) (hpx_laws_markInt64S_L fu)) (fn := Try.f73) (c := body_laws_markInt64S_L) (out := out_laws_markInt64S_L) (y := y) (by kernel_rfl) (by kernel_rfl) (by kernel_rfl) (lpok_laws_markInt64S_L fu) (by kernel_rfl) (Nat.le_refl _) (fun d os hd => out_laws_markInt64S_L_enc d os _ hd) ((ev_laws_markInt64S_L fu k_1_0).trans hy)
theorem good_laws_markInt64S_L (fu : Nat) : ∀ xs ins o, S_laws_markInt64S_L fu xs ins = some o → ∀ y, o.x = some y → GoodX E Try.prog 73 xs ins (o.g y).1 (o.g y).2 := by
  intro xs ins o h y hy
  unfold S_laws_markInt64S_L at h
  split at h
  · rename_i a1_0
    cases h
    exact goodv_laws_markInt64S_L fu a1_0 y hy
  · cases h

/-! laws.markNodeS -/
def F_laws_markNodeS_L_B0 {ρ : Type} (fu : Nat) (a0_0 : Nat) (on0_3 : Nat) (k0 : Int → (Nat → S_impl_Node_0) → Option ρ) (k1_1 : Int) (i5_2 : Int) (of0_4 : (Nat → S_impl_Node_0)) (go : Int → Int → (Nat → S_impl_Node_0) → Option ρ) : Option ρ :=
  (bif (decide (i5_2 < ((a0_0 : Nat) : Int))) then ((bif (decide (0 ≤ i5_2) && decide ((Int.toNat i5_2) < a0_0)) then some () else none : Option Unit).bind fun _ => ((bif (decide (0 ≤ i5_2) &&
    decide ((Int.toNat i5_2) < a0_0)) then some () else none : Option Unit).bind fun _ => ((bif (decide (0 ≤ i5_2) && decide ((Int.toNat i5_2) < a0_0)) then some () else none : Option Unit).bind fun _ =>
    ((bif (decide (0 ≤ i5_2) && decide ((Int.toNat i5_2) < a0_0)) then some () else none : Option Unit).bind fun _ => ((bif (decide (0 ≤ i5_2) && decide ((Int.toNat i5_2) < a0_0)) then
    some () else none : Option Unit).bind fun _ => ((F_laws_markEntryS_L fu (IntKind.wrap .i64 ((IntKind.wrap .i64 ((IntKind.wrap .i64 ((IntKind.wrap .i64 (k1_1 + 1)) + 1)) + 1)) + 1))).bind fun y37 =>
    ((bif (decide (0 ≤ i5_2) && decide ((Int.toNat i5_2) < a0_0)) then some () else none : Option Unit).bind fun _ => ((bif (decide (0 ≤ i5_2) && decide ((Int.toNat i5_2) < a0_0)) then
    some () else none : Option Unit).bind fun _ => ((bif (decide (0 ≤ i5_2) && decide ((Int.toNat i5_2) < a0_0)) then some () else none : Option Unit).bind fun _ =>
    ((F_laws_markInt64S_L fu (IntKind.wrap .i64 ((IntKind.wrap .i64 (y37 + 1)) + 1))).bind fun y38 => ((bif (decide (0 ≤ i5_2) && decide ((Int.toNat i5_2) < a0_0)) then some () else
    none : Option Unit).bind fun _ => ((F_laws_markInt64S_L fu y38).bind fun y39 => ((bif (decide (0 ≤ i5_2) && decide ((Int.toNat i5_2) < a0_0)) then some () else none : Option Unit).bind fun _ =>
    ((F_laws_markInt64S_L fu y39).bind fun y40 => (go y40 (IntKind.wrap .i64 (i5_2 + 1)) (upd_impl_Node_6_1 (upd_impl_Node_5_1 (upd_impl_Node_3_1 (upd_impl_Node_2_1 (upd_impl_Node_1_1 (upd_impl_Node_0_1 of0_4 (Int.toNat i5_2) k1_1) (Int.toNat i5_2) (IntKind.wrap .i64 (k1_1 + 1))) (Int.toNat i5_2) (IntKind.wrap .i64 ((IntKind.wrap .i64 (k1_1 + 1)) + 1))) (Int.toNat i5_2) (IntKind.wrap .i64 ((IntKind.wrap .i64 ((IntKind.wrap .i64 (k1_1 + 1)) + 1)) + 1))) (Int.toNat i5_2) y37) (Int.toNat i5_2) (IntKind.wrap .i64 (y37 + 1)))))))))))))))))) else
    (k0 k1_1 of0_4))
def F_laws_markNodeS_L (fu : Nat) (a_0_0 : Nat) (k_1_1 : Int) (rn0 : Nat) (rf0 : (Nat → S_impl_Node_0)) : Option (Int × (Nat × (Nat → S_impl_Node_0))) :=
  (L (fun w0 go0 => F_laws_markNodeS_L_B0 fu a_0_0 rn0 (fun z41 z42 => (some (z41, (rn0, z42)))) w0.1 w0.2.1 w0.2.2 (fun q0 q1 q2 => go0 (q0, q1, q2))) fu ((k_1_1, 0, rf0) : Int × Int × (Nat → S_impl_Node_0)))
def pcf_laws_markNodeS_L (fu : Nat) (f : Nat) (xs : List (D RT den)) : Option (Out RT den) := none
def pcx_laws_markNodeS_L (fu : Nat) (f : Nat) (xs : List (D RT den)) (ins : List (Ob RT den)) : Option (OutX RT den) := match f with | 14 => S_laws_markEntryS_L fu xs ins | 73 => S_laws_markInt64S_L fu xs ins | _ => none
def pc_laws_markNodeS_L (fu : Nat) : Pc RT den := ⟨pcf_laws_markNodeS_L fu, fun f => match f with | 14 => true | 73 => true | _ => false, fun f => match f with | 14 => true | 73 => true | _ => false, pcx_laws_markNodeS_L fu⟩
def msk_laws_markNodeS_L (b : Nat) : List Nat := match b with | 0 => [2, 3, 4, 6, 7, 8, 9, 10, 11, 12, 13, 14, 15, 16, 17, 18, 19, 20, 21, 22, 23, 24, 25, 26, 27, 28, 29, 30, 31, 32, 33, 34, 35, 36, 37, 38, 39, 40, 41, 42, 43, 44, 45, 46, 47, 48, 49, 50, 51, 52, 53, 54, 55, 56, 57, 58, 59, 60, 61, 62, 63, 64, 65, 66, 67, 68, 69, 70, 71, 72, 73, 74, 75, 76, 77, 78, 79, 80, 81, 82] | 100000 => [0, 2, 3, 5, 6, 7, 8, 9, 10, 11, 12, 13, 14, 15, 16, 17, 18, 19, 20, 21, 22, 23, 24, 25, 26, 27, 28, 29, 30, 31, 32, 33, 34, 35, 36, 37, 38, 39, 40, 41, 42, 43, 44, 45, 46, 47, 48, 49, 50, 51, 52, 53, 54, 55, 56, 57, 58, 59, 60, 61, 62, 63, 64, 65, 66, 67, 68, 69, 70, 71, 72, 73, 74, 75, 76, 77, 78, 79, 80, 81, 82] | _ => []
def ps_laws_markNodeS_L_0 : List (Pat RT) := [.flat (.os 0), .flat (.int .i64), .flat .dead, .flat .dead, .flat .dead, .flat (.int .i64), .flat .dead, .flat .dead, .flat .dead, .flat .dead, .flat .dead, .flat .dead, .flat .dead, .flat .dead, .flat .dead, .flat .dead, .flat .dead, .flat .dead, .flat .dead, .flat .dead, .flat .dead, .flat .dead, .flat .dead, .flat .dead, .flat .dead, .flat .dead, .flat .dead, .flat .dead, .flat .dead, .flat .dead, .flat .dead, .flat .dead, .flat .dead, .flat .dead, .flat .dead, .flat .dead, .flat .dead, .flat .dead, .flat .dead, .flat .dead, .flat .dead, .flat .dead, .flat .dead, .flat .dead, .flat .dead, .flat .dead, .flat .dead, .flat .dead, .flat .dead, .flat .dead, .flat .dead, .flat .dead, .flat .dead, .flat .dead, .flat .dead, .flat .dead, .flat .dead, .flat .dead, .flat .dead, .flat .dead, .flat .dead, .flat .dead, .flat .dead, .flat .dead, .flat .dead, .flat .dead, .flat .dead, .flat .dead, .flat .dead, .flat .dead, .flat .dead, .flat .dead, .flat .dead, .flat .dead, .flat .dead, .flat .dead, .flat .dead, .flat .dead, .flat .dead, .flat .dead, .flat .dead, .flat .dead, .flat .dead]
def os_laws_markNodeS_L_0 : List (OP RT) := [.row true .impl_Node]
def conv_laws_markNodeS_L_0 (r : Raw den ps_laws_markNodeS_L_0 os_laws_markNodeS_L_0) : (Nat × Nat) × (Int × Int × (Nat → S_impl_Node_0)) := ((r.1.1, r.2.1.1), (r.1.2.1, r.1.2.2.2.2.2.1, r.2.1.2))
def back_laws_markNodeS_L_0 (c : Nat × Nat) (w : Int × Int × (Nat → S_impl_Node_0)) : St RT den := ⟨[(.os 0 c.1), (.int .i64 w.1), .dead, .dead, .dead, (.int .i64 w.2.1), .dead, .dead, .dead, .dead, .dead, .dead, .dead, .dead, .dead, .dead, .dead, .dead, .dead, .dead, .dead, .dead, .dead, .dead, .dead, .dead, .dead, .dead, .dead, .dead, .dead, .dead, .dead, .dead, .dead, .dead, .dead, .dead, .dead, .dead, .dead, .dead, .dead, .dead, .dead, .dead, .dead, .dead, .dead, .dead, .dead, .dead, .dead, .dead, .dead, .dead, .dead, .dead, .dead, .dead, .dead, .dead, .dead, .dead, .dead, .dead, .dead, .dead, .dead, .dead, .dead, .dead, .dead, .dead, .dead, .dead, .dead, .dead, .dead, .dead, .dead, .dead, .dead], [(.row true .impl_Node c.2 w.2.2)]⟩
def Bk_laws_markNodeS_L_0 {ρ : Type} (fu : Nat) (c : Nat × Nat) (k : Ex → St RT den → Option ρ) (w : Int × Int × (Nat → S_impl_Node_0)) (go : (Int × Int × (Nat → S_impl_Node_0)) → Option ρ) : Option ρ := F_laws_markNodeS_L_B0 fu c.1 c.2 (fun a0 a1 => k (.exit 0) ⟨[.dead, (.int .i64 a0), .dead, .dead, .dead, .dead, .dead, .dead, .dead, .dead, .dead, .dead, .dead, .dead, .dead, .dead, .dead, .dead, .dead, .dead, .dead, .dead, .dead, .dead, .dead, .dead, .dead, .dead, .dead, .dead, .dead, .dead, .dead, .dead, .dead, .dead, .dead, .dead, .dead, .dead, .dead, .dead, .dead, .dead, .dead, .dead, .dead, .dead, .dead, .dead, .dead, .dead, .dead, .dead, .dead, .dead, .dead, .dead, .dead, .dead, .dead, .dead, .dead, .dead, .dead, .dead, .dead, .dead, .dead, .dead, .dead, .dead, .dead, .dead, .dead, .dead, .dead, .dead, .dead, .dead, .dead, .dead, .dead], [(.row true .impl_Node c.2 a1)]⟩) w.1 w.2.1 w.2.2 (fun q0 q1 q2 => go (q0, q1, q2))
def lp_laws_markNodeS_L (fu : Nat) : Lp RT den (Int × (Nat × (Nat → S_impl_Node_0))) := fun b s k => match b with | 0 => handle ps_laws_markNodeS_L_0 os_laws_markNodeS_L_0 conv_laws_markNodeS_L_0 (Bk_laws_markNodeS_L_0 fu) fu s k | _ => none
def out_laws_markNodeS_L (d : D RT den) (os : List (Ob RT den)) : Option (Int × (Nat × (Nat → S_impl_Node_0))) := match d, os with | .int .i64 a0_0, [.row true .impl_Node n0 f0] => some (a0_0, (n0, f0)) | _, _ => none
def enc_laws_markNodeS_L (y : Int × (Nat × (Nat → S_impl_Node_0))) : D RT den × List (Ob RT den) := ((.int .i64 y.1), [(.row true .impl_Node y.2.1 y.2.2)])
theorem out_laws_markNodeS_L_enc (d : D RT den) (os : List (Ob RT den)) (y : Int × (Nat × (Nat → S_impl_Node_0))) (h : out_laws_markNodeS_L d os = some y) : (unh 1 d).1 = (enc_laws_markNodeS_L y).1 ∧ os ++ (unh 1 d).2 = (enc_laws_markNodeS_L y).2 := by
  unfold out_laws_markNodeS_L at h
  split at h
  · cases h; exact ⟨rfl, rfl⟩
  · cases h
theorem ev_laws_markNodeS_L (fu : Nat) (a_0_0 : Nat) (k_1_1 : Int) (rn0 : Nat) (rf0 : (Nat → S_impl_Node_0)) : evFunX E false (pc_laws_markNodeS_L fu) msk_laws_markNodeS_L (lp_laws_markNodeS_L fu) out_laws_markNodeS_L 100 [(.os 0 a_0_0), (.int .i64 k_1_1)] [(.row true .impl_Node rn0 rf0)] = F_laws_markNodeS_L fu a_0_0 k_1_1 rn0 rf0 := by kernel_rfl
noncomputable def body_laws_markNodeS_L : Code := Try.f100.body.getD .skip
noncomputable def lc_laws_markNodeS_L_0 : Code := ((loops 0 body_laws_markNodeS_L).getD 0 (0, .skip)).2
theorem round_laws_markNodeS_L_0 (fu : Nat) (it : St RT den → Option (Int × (Nat × (Nat → S_impl_Node_0)))) (k : Ex → St RT den → Option (Int × (Nat × (Nat → S_impl_Node_0)))) c w : evCode E (pc_laws_markNodeS_L fu) msk_laws_markNodeS_L (lp_laws_markNodeS_L fu) 0 lc_laws_markNodeS_L_0 (back_laws_markNodeS_L_0 c w) (after (msk_laws_markNodeS_L 0) (msk_laws_markNodeS_L 100000) 1 it k) = Bk_laws_markNodeS_L_0 fu c k w (fun w => it (back_laws_markNodeS_L_0 c w)) := by kernel_rfl
theorem lpok_laws_markNodeS_L_0 (fu : Nat) : ∀ s k r, lp_laws_markNodeS_L fu 0 s k = some r → ∃ fuel, iter (msk_laws_markNodeS_L 0) (msk_laws_markNodeS_L 100000) s.objs.length (evCode E (pc_laws_markNodeS_L fu) msk_laws_markNodeS_L (lp_laws_markNodeS_L fu) 0 lc_laws_markNodeS_L_0) fuel s k = some r :=
  handle_ok (ps := ps_laws_markNodeS_L_0) (os := os_laws_markNodeS_L_0) (conv := conv_laws_markNodeS_L_0) (B := Bk_laws_markNodeS_L_0 fu) (fu := fu) back_laws_markNodeS_L_0 (fun raw => by kernel_rfl) 1 (fun c w => by kernel_rfl) (round_laws_markNodeS_L_0 fu)
theorem lpok_laws_markNodeS_L (fu : Nat) : LpOk E (pc_laws_markNodeS_L fu) msk_laws_markNodeS_L (lp_laws_markNodeS_L fu) (loops 0 body_laws_markNodeS_L) := loop_all 1 (by kernel_rfl) fun i hi => match i, hi with
  | 0, _ => by
    have h : (loops 0 body_laws_markNodeS_L).getD 0 (0, .skip) = (0, lc_laws_markNodeS_L_0) := by kernel_rfl
    rw [h]; exact lpok_laws_markNodeS_L_0 fu
  | i + 1, hi => absurd hi (by omega)
def S_laws_markNodeS_L (fu : Nat) (xs : List (D RT den)) (ins : List (Ob RT den)) : Option (OutX RT den) := match xs, ins with | [.os 0 a0_0, .int .i64 a1_0], [.row true .impl_Node rn0 rf0] => some ⟨Int × (Nat × (Nat → S_impl_Node_0)), F_laws_markNodeS_L fu a0_0 a1_0 rn0 rf0, enc_laws_markNodeS_L⟩ | _, _ => none
theorem hpc_laws_markNodeS_L (fu : Nat) : ∀ f xs o, pcf_laws_markNodeS_L fu f xs = some o → ∀ y, o.x = some y → Good E Try.prog f xs (o.g y) := by
  intro f xs o h
  cases h
theorem hpx_laws_markNodeS_L (fu : Nat) : ∀ f xs ins o, pcx_laws_markNodeS_L fu f xs ins = some o → ∀ y, o.x = some y → GoodX E Try.prog f xs ins (o.g y).1 (o.g y).2 := by
  intro f xs ins o h
  unfold pcx_laws_markNodeS_L at h
  split at h
  · exact good_laws_markEntryS_L fu xs ins o h
  · exact good_laws_markInt64S_L fu xs ins o h
  · cases h
theorem goodv_laws_markNodeS_L (fu : Nat) (a_0_0 : Nat) (k_1_1 : Int) (rn0 : Nat) (rf0 : (Nat → S_impl_Node_0)) (y : Int × (Nat × (Nat → S_impl_Node_0))) (hy : F_laws_markNodeS_L fu a_0_0 k_1_1 rn0 rf0 = some y) : GoodX E Try.prog 100 [(.os 0 a_0_0), (.int .i64 k_1_1)] [(.row true .impl_Node rn0 rf0)] (enc_laws_markNodeS_L y).1 (enc_laws_markNodeS_L y).2 :=
  funX_good (ke := false) E_ok (pc_good (pc := pc_laws_markNodeS_L fu) (hpc_laws_markNodeS_L fu) (hpx_laws_markNodeS_L fu)) (fn := Try.f100) (c := body_laws_markNodeS_L) (out := out_laws_markNodeS_L) (y := y) (by kernel_rfl) (by kernel_rfl) (by kernel_rfl) (lpok_laws_markNodeS_L fu) (by kernel_rfl) (Nat.le_refl _) (fun d os hd => out_laws_markNodeS_L_enc d os _ hd) ((ev_laws_markNodeS_L fu a_0_0 k_1_1 rn0 rf0).trans hy)
theorem good_laws_markNodeS_L (fu : Nat) : ∀ xs ins o, S_laws_markNodeS_L fu xs ins = some o → ∀ y, o.x = some y → GoodX E Try.prog 100 xs ins (o.g y).1 (o.g y).2 := by
  intro xs ins o h y hy
  unfold S_laws_markNodeS_L at h
  split at h
  · rename_i a0_0 a1_0 rn0 rf0
    cases h
    exact goodv_laws_markNodeS_L fu a0_0 a1_0 rn0 rf0 y hy
  · cases h

/-! laws.markMailS -/
def F_laws_markMailS_L_B0 {ρ : Type} (fu : Nat) (k1_0 : Int) (i5_1 : Int) (k0 : Option ρ) (go : Unit → Option ρ) : Option ρ :=
  (bif (decide (i5_1 < 0)) then none else k0)
def F_laws_markMailS_L (fu : Nat) (k_1_0 : Int) : Option (Int) :=
  (L (fun w0 go0 => F_laws_markMailS_L_B0 fu k_1_0 0 (some (k_1_0))  go0) fu (() : Unit))
def pcf_laws_markMailS_L (fu : Nat) (f : Nat) (xs : List (D RT den)) : Option (Out RT den) := none
def pcx_laws_markMailS_L (fu : Nat) (f : Nat) (xs : List (D RT den)) (ins : List (Ob RT den)) : Option (OutX RT den) := none
def pc_laws_markMailS_L (fu : Nat) : Pc RT den := ⟨pcf_laws_markMailS_L fu, fun _ => false, fun _ => false, pcx_laws_markMailS_L fu⟩
def msk_laws_markMailS_L (b : Nat) : List Nat := match b with | 0 => [2, 3, 4, 6, 7, 8, 9, 10, 11, 12, 13, 14, 15, 16, 17, 18, 19, 20, 21, 22, 23, 24, 25, 26, 27, 28, 29, 30, 31, 32, 33, 34, 35, 36, 37, 38, 39, 40, 41, 42, 43, 44, 45, 46, 47, 48, 49, 50, 51, 52, 53, 54, 55, 56, 57, 58, 59, 60, 61, 62, 63, 64, 65, 66, 67, 68, 69, 70, 71, 72, 73, 74, 75, 76, 77] | 100000 => [0, 2, 3, 5, 6, 7, 8, 9, 10, 11, 12, 13, 14, 15, 16, 17, 18, 19, 20, 21, 22, 23, 24, 25, 26, 27, 28, 29, 30, 31, 32, 33, 34, 35, 36, 37, 38, 39, 40, 41, 42, 43, 44, 45, 46, 47, 48, 49, 50, 51, 52, 53, 54, 55, 56, 57, 58, 59, 60, 61, 62, 63, 64, 65, 66, 67, 68, 69, 70, 71, 72, 73, 74, 75, 76, 77] | _ => []
def ps_laws_markMailS_L_0 : List (Pat RT) := [.flat (.emp true .impl_Mail), .flat (.int .i64), .flat .dead, .flat .dead, .flat .dead, .flat (.int .i64), .flat .dead, .flat .dead, .flat .dead, .flat .dead, .flat .dead, .flat .dead, .flat .dead, .flat .dead, .flat .dead, .flat .dead, .flat .dead, .flat .dead, .flat .dead, .flat .dead, .flat .dead, .flat .dead, .flat .dead, .flat .dead, .flat .dead, .flat .dead, .flat .dead, .flat .dead, .flat .dead, .flat .dead, .flat .dead, .flat .dead, .flat .dead, .flat .dead, .flat .dead, .flat .dead, .flat .dead, .flat .dead, .flat .dead, .flat .dead, .flat .dead, .flat .dead, .flat .dead, .flat .dead, .flat .dead, .flat .dead, .flat .dead, .flat .dead, .flat .dead, .flat .dead, .flat .dead, .flat .dead, .flat .dead, .flat .dead, .flat .dead, .flat .dead, .flat .dead, .flat .dead, .flat .dead, .flat .dead, .flat .dead, .flat .dead, .flat .dead, .flat .dead, .flat .dead, .flat .dead, .flat .dead, .flat .dead, .flat .dead, .flat .dead, .flat .dead, .flat .dead, .flat .dead, .flat .dead, .flat .dead, .flat .dead, .flat .dead, .flat .dead]
def os_laws_markMailS_L_0 : List (OP RT) := []
def conv_laws_markMailS_L_0 (r : Raw den ps_laws_markMailS_L_0 os_laws_markMailS_L_0) : (Int × Int) × (Unit) := ((r.1.2.1, r.1.2.2.2.2.2.1), ())
def back_laws_markMailS_L_0 (c : Int × Int) (w : Unit) : St RT den := ⟨[(.emp true .impl_Mail), (.int .i64 c.1), .dead, .dead, .dead, (.int .i64 c.2), .dead, .dead, .dead, .dead, .dead, .dead, .dead, .dead, .dead, .dead, .dead, .dead, .dead, .dead, .dead, .dead, .dead, .dead, .dead, .dead, .dead, .dead, .dead, .dead, .dead, .dead, .dead, .dead, .dead, .dead, .dead, .dead, .dead, .dead, .dead, .dead, .dead, .dead, .dead, .dead, .dead, .dead, .dead, .dead, .dead, .dead, .dead, .dead, .dead, .dead, .dead, .dead, .dead, .dead, .dead, .dead, .dead, .dead, .dead, .dead, .dead, .dead, .dead, .dead, .dead, .dead, .dead, .dead, .dead, .dead, .dead, .dead], []⟩
def Bk_laws_markMailS_L_0 {ρ : Type} (fu : Nat) (c : Int × Int) (k : Ex → St RT den → Option ρ) (w : Unit) (go : (Unit) → Option ρ) : Option ρ := F_laws_markMailS_L_B0 fu c.1 c.2 (k (.exit 0) ⟨[.dead, (.int .i64 c.1), .dead, .dead, .dead, .dead, .dead, .dead, .dead, .dead, .dead, .dead, .dead, .dead, .dead, .dead, .dead, .dead, .dead, .dead, .dead, .dead, .dead, .dead, .dead, .dead, .dead, .dead, .dead, .dead, .dead, .dead, .dead, .dead, .dead, .dead, .dead, .dead, .dead, .dead, .dead, .dead, .dead, .dead, .dead, .dead, .dead, .dead, .dead, .dead, .dead, .dead, .dead, .dead, .dead, .dead, .dead, .dead, .dead, .dead, .dead, .dead, .dead, .dead, .dead, .dead, .dead, .dead, .dead, .dead, .dead, .dead, .dead, .dead, .dead, .dead, .dead, .dead], []⟩)  go
def lp_laws_markMailS_L (fu : Nat) : Lp RT den (Int) := fun b s k => match b with | 0 => handle ps_laws_markMailS_L_0 os_laws_markMailS_L_0 conv_laws_markMailS_L_0 (Bk_laws_markMailS_L_0 fu) fu s k | _ => none
def out_laws_markMailS_L (d : D RT den) (os : List (Ob RT den)) : Option (Int) := match d, os with | .int .i64 a0_0, [] => some (a0_0) | _, _ => none
def enc_laws_markMailS_L (y : Int) : D RT den × List (Ob RT den) := ((.int .i64 y), [])
theorem out_laws_markMailS_L_enc (d : D RT den) (os : List (Ob RT den)) (y : Int) (h : out_laws_markMailS_L d os = some y) : (unh 0 d).1 = (enc_laws_markMailS_L y).1 ∧ os ++ (unh 0 d).2 = (enc_laws_markMailS_L y).2 := by
  unfold out_laws_markMailS_L at h
  split at h
  · cases h; exact ⟨rfl, rfl⟩
  · cases h
theorem ev_laws_markMailS_L (fu : Nat) (k_1_0 : Int) : evFunX E false (pc_laws_markMailS_L fu) msk_laws_markMailS_L (lp_laws_markMailS_L fu) out_laws_markMailS_L 64 [(.emp true .impl_Mail), (.int .i64 k_1_0)] [] = F_laws_markMailS_L fu k_1_0 := by kernel_rfl
noncomputable def body_laws_markMailS_L : Code := Try.f64.body.getD .skip
noncomputable def lc_laws_markMailS_L_0 : Code := ((loops 0 body_laws_markMailS_L).getD 0 (0, .skip)).2
theorem round_laws_markMailS_L_0 (fu : Nat) (it : St RT den → Option (Int)) (k : Ex → St RT den → Option (Int)) c w : evCode E (pc_laws_markMailS_L fu) msk_laws_markMailS_L (lp_laws_markMailS_L fu) 0 lc_laws_markMailS_L_0 (back_laws_markMailS_L_0 c w) (after (msk_laws_markMailS_L 0) (msk_laws_markMailS_L 100000) 0 it k) = Bk_laws_markMailS_L_0 fu c k w (fun w => it (back_laws_markMailS_L_0 c w)) := by kernel_rfl
theorem lpok_laws_markMailS_L_0 (fu : Nat) : ∀ s k r, lp_laws_markMailS_L fu 0 s k = some r → ∃ fuel, iter (msk_laws_markMailS_L 0) (msk_laws_markMailS_L 100000) s.objs.length (evCode E (pc_laws_markMailS_L fu) msk_laws_markMailS_L (lp_laws_markMailS_L fu) 0 lc_laws_markMailS_L_0) fuel s k = some r :=
  handle_ok (ps := ps_laws_markMailS_L_0) (os := os_laws_markMailS_L_0) (conv := conv_laws_markMailS_L_0) (B := Bk_laws_markMailS_L_0 fu) (fu := fu) back_laws_markMailS_L_0 (fun raw => by kernel_rfl) 0 (fun c w => by kernel_rfl) (round_laws_markMailS_L_0 fu)
theorem lpok_laws_markMailS_L (fu : Nat) : LpOk E (pc_laws_markMailS_L fu) msk_laws_markMailS_L (lp_laws_markMailS_L fu) (loops 0 body_laws_markMailS_L) := loop_all 1 (by kernel_rfl) fun i hi => match i, hi with
  | 0, _ => by
    have h : (loops 0 body_laws_markMailS_L).getD 0 (0, .skip) = (0, lc_laws_markMailS_L_0) := by kernel_rfl
    rw [h]; exact lpok_laws_markMailS_L_0 fu
  | i + 1, hi => absurd hi (by omega)
def S_laws_markMailS_L (fu : Nat) (xs : List (D RT den)) (ins : List (Ob RT den)) : Option (OutX RT den) := match xs, ins with | [.emp true .impl_Mail, .int .i64 a1_0], [] => some ⟨Int, F_laws_markMailS_L fu a1_0, enc_laws_markMailS_L⟩ | _, _ => none
theorem hpc_laws_markMailS_L (fu : Nat) : ∀ f xs o, pcf_laws_markMailS_L fu f xs = some o → ∀ y, o.x = some y → Good E Try.prog f xs (o.g y) := by
  intro f xs o h
  cases h
theorem hpx_laws_markMailS_L (fu : Nat) : ∀ f xs ins o, pcx_laws_markMailS_L fu f xs ins = some o → ∀ y, o.x = some y → GoodX E Try.prog f xs ins (o.g y).1 (o.g y).2 := by
  intro f xs ins o h
  cases h
theorem goodv_laws_markMailS_L (fu : Nat) (k_1_0 : Int) (y : Int) (hy : F_laws_markMailS_L fu k_1_0 = some y) : GoodX E Try.prog 64 [(.emp true .impl_Mail), (.int .i64 k_1_0)] [] (enc_laws_markMailS_L y).1 (enc_laws_markMailS_L y).2 :=
  funX_good (ke := false) E_ok (pc_good (pc := pc_laws_markMailS_L fu) (hpc_laws_markMailS_L fu) (hpx_laws_markMailS_L fu)) (fn := Try.f64) (c := body_laws_markMailS_L) (out := out_laws_markMailS_L) (y := y) (by kernel_rfl) (by kernel_rfl) (by kernel_rfl) (lpok_laws_markMailS_L fu) (by kernel_rfl) (Nat.le_refl _) (fun d os hd => out_laws_markMailS_L_enc d os _ hd) ((ev_laws_markMailS_L fu k_1_0).trans hy)
theorem good_laws_markMailS_L (fu : Nat) : ∀ xs ins o, S_laws_markMailS_L fu xs ins = some o → ∀ y, o.x = some y → GoodX E Try.prog 64 xs ins (o.g y).1 (o.g y).2 := by
  intro xs ins o h y hy
  unfold S_laws_markMailS_L at h
  split at h
  · rename_i a1_0
    cases h
    exact goodv_laws_markMailS_L fu a1_0 y hy
  · cases h

/-! laws.markWonS -/
def F_laws_markWonS_L_B0 {ρ : Type} (fu : Nat) (a0_0 : Nat) (on0_3 : Nat) (k0 : Int → (Nat → S_impl_Won) → Option ρ) (k1_1 : Int) (i5_2 : Int) (of0_4 : (Nat → S_impl_Won)) (go : Int → Int → (Nat → S_impl_Won) → Option ρ) : Option ρ :=
  (bif (decide (i5_2 < ((a0_0 : Nat) : Int))) then ((bif (decide (0 ≤ i5_2) && decide ((Int.toNat i5_2) < a0_0)) then some () else none : Option Unit).bind fun _ => ((bif (decide (0 ≤ i5_2) &&
    decide ((Int.toNat i5_2) < a0_0)) then some () else none : Option Unit).bind fun _ => (go (IntKind.wrap .i64 ((IntKind.wrap .i64 (k1_1 + 1)) + 1)) (IntKind.wrap .i64 (i5_2 + 1)) (upd_impl_Won_1_1 (upd_impl_Won_0_1 of0_4 (Int.toNat i5_2) k1_1) (Int.toNat i5_2) (IntKind.wrap .i64 (k1_1 + 1)))))) else
    (k0 k1_1 of0_4))
def F_laws_markWonS_L (fu : Nat) (a_0_0 : Nat) (k_1_1 : Int) (rn0 : Nat) (rf0 : (Nat → S_impl_Won)) : Option (Int × (Nat × (Nat → S_impl_Won))) :=
  (L (fun w0 go0 => F_laws_markWonS_L_B0 fu a_0_0 rn0 (fun z45 z46 => (some (z45, (rn0, z46)))) w0.1 w0.2.1 w0.2.2 (fun q0 q1 q2 => go0 (q0, q1, q2))) fu ((k_1_1, 0, rf0) : Int × Int × (Nat → S_impl_Won)))
def pcf_laws_markWonS_L (fu : Nat) (f : Nat) (xs : List (D RT den)) : Option (Out RT den) := none
def pcx_laws_markWonS_L (fu : Nat) (f : Nat) (xs : List (D RT den)) (ins : List (Ob RT den)) : Option (OutX RT den) := none
def pc_laws_markWonS_L (fu : Nat) : Pc RT den := ⟨pcf_laws_markWonS_L fu, fun _ => false, fun _ => false, pcx_laws_markWonS_L fu⟩
def msk_laws_markWonS_L (b : Nat) : List Nat := match b with | 0 => [2, 3, 4, 6, 7, 8, 9, 10, 11, 12, 13, 14, 15, 16, 17, 18, 19, 20, 21, 22, 23, 24, 25, 26] | 100000 => [0, 2, 3, 5, 6, 7, 8, 9, 10, 11, 12, 13, 14, 15, 16, 17, 18, 19, 20, 21, 22, 23, 24, 25, 26] | _ => []
def ps_laws_markWonS_L_0 : List (Pat RT) := [.flat (.os 0), .flat (.int .i64), .flat .dead, .flat .dead, .flat .dead, .flat (.int .i64), .flat .dead, .flat .dead, .flat .dead, .flat .dead, .flat .dead, .flat .dead, .flat .dead, .flat .dead, .flat .dead, .flat .dead, .flat .dead, .flat .dead, .flat .dead, .flat .dead, .flat .dead, .flat .dead, .flat .dead, .flat .dead, .flat .dead, .flat .dead, .flat .dead]
def os_laws_markWonS_L_0 : List (OP RT) := [.row true .impl_Won]
def conv_laws_markWonS_L_0 (r : Raw den ps_laws_markWonS_L_0 os_laws_markWonS_L_0) : (Nat × Nat) × (Int × Int × (Nat → S_impl_Won)) := ((r.1.1, r.2.1.1), (r.1.2.1, r.1.2.2.2.2.2.1, r.2.1.2))
def back_laws_markWonS_L_0 (c : Nat × Nat) (w : Int × Int × (Nat → S_impl_Won)) : St RT den := ⟨[(.os 0 c.1), (.int .i64 w.1), .dead, .dead, .dead, (.int .i64 w.2.1), .dead, .dead, .dead, .dead, .dead, .dead, .dead, .dead, .dead, .dead, .dead, .dead, .dead, .dead, .dead, .dead, .dead, .dead, .dead, .dead, .dead], [(.row true .impl_Won c.2 w.2.2)]⟩
def Bk_laws_markWonS_L_0 {ρ : Type} (fu : Nat) (c : Nat × Nat) (k : Ex → St RT den → Option ρ) (w : Int × Int × (Nat → S_impl_Won)) (go : (Int × Int × (Nat → S_impl_Won)) → Option ρ) : Option ρ := F_laws_markWonS_L_B0 fu c.1 c.2 (fun a0 a1 => k (.exit 0) ⟨[.dead, (.int .i64 a0), .dead, .dead, .dead, .dead, .dead, .dead, .dead, .dead, .dead, .dead, .dead, .dead, .dead, .dead, .dead, .dead, .dead, .dead, .dead, .dead, .dead, .dead, .dead, .dead, .dead], [(.row true .impl_Won c.2 a1)]⟩) w.1 w.2.1 w.2.2 (fun q0 q1 q2 => go (q0, q1, q2))
def lp_laws_markWonS_L (fu : Nat) : Lp RT den (Int × (Nat × (Nat → S_impl_Won))) := fun b s k => match b with | 0 => handle ps_laws_markWonS_L_0 os_laws_markWonS_L_0 conv_laws_markWonS_L_0 (Bk_laws_markWonS_L_0 fu) fu s k | _ => none
def out_laws_markWonS_L (d : D RT den) (os : List (Ob RT den)) : Option (Int × (Nat × (Nat → S_impl_Won))) := match d, os with | .int .i64 a0_0, [.row true .impl_Won n0 f0] => some (a0_0, (n0, f0)) | _, _ => none
def enc_laws_markWonS_L (y : Int × (Nat × (Nat → S_impl_Won))) : D RT den × List (Ob RT den) := ((.int .i64 y.1), [(.row true .impl_Won y.2.1 y.2.2)])
theorem out_laws_markWonS_L_enc (d : D RT den) (os : List (Ob RT den)) (y : Int × (Nat × (Nat → S_impl_Won))) (h : out_laws_markWonS_L d os = some y) : (unh 1 d).1 = (enc_laws_markWonS_L y).1 ∧ os ++ (unh 1 d).2 = (enc_laws_markWonS_L y).2 := by
  unfold out_laws_markWonS_L at h
  split at h
  · cases h; exact ⟨rfl, rfl⟩
  · cases h
theorem ev_laws_markWonS_L (fu : Nat) (a_0_0 : Nat) (k_1_1 : Int) (rn0 : Nat) (rf0 : (Nat → S_impl_Won)) : evFunX E false (pc_laws_markWonS_L fu) msk_laws_markWonS_L (lp_laws_markWonS_L fu) out_laws_markWonS_L 101 [(.os 0 a_0_0), (.int .i64 k_1_1)] [(.row true .impl_Won rn0 rf0)] = F_laws_markWonS_L fu a_0_0 k_1_1 rn0 rf0 := by kernel_rfl
noncomputable def body_laws_markWonS_L : Code := Try.f101.body.getD .skip
noncomputable def lc_laws_markWonS_L_0 : Code := ((loops 0 body_laws_markWonS_L).getD 0 (0, .skip)).2
theorem round_laws_markWonS_L_0 (fu : Nat) (it : St RT den → Option (Int × (Nat × (Nat → S_impl_Won)))) (k : Ex → St RT den → Option (Int × (Nat × (Nat → S_impl_Won)))) c w : evCode E (pc_laws_markWonS_L fu) msk_laws_markWonS_L (lp_laws_markWonS_L fu) 0 lc_laws_markWonS_L_0 (back_laws_markWonS_L_0 c w) (after (msk_laws_markWonS_L 0) (msk_laws_markWonS_L 100000) 1 it k) = Bk_laws_markWonS_L_0 fu c k w (fun w => it (back_laws_markWonS_L_0 c w)) := by kernel_rfl
theorem lpok_laws_markWonS_L_0 (fu : Nat) : ∀ s k r, lp_laws_markWonS_L fu 0 s k = some r → ∃ fuel, iter (msk_laws_markWonS_L 0) (msk_laws_markWonS_L 100000) s.objs.length (evCode E (pc_laws_markWonS_L fu) msk_laws_markWonS_L (lp_laws_markWonS_L fu) 0 lc_laws_markWonS_L_0) fuel s k = some r :=
  handle_ok (ps := ps_laws_markWonS_L_0) (os := os_laws_markWonS_L_0) (conv := conv_laws_markWonS_L_0) (B := Bk_laws_markWonS_L_0 fu) (fu := fu) back_laws_markWonS_L_0 (fun raw => by kernel_rfl) 1 (fun c w => by kernel_rfl) (round_laws_markWonS_L_0 fu)
theorem lpok_laws_markWonS_L (fu : Nat) : LpOk E (pc_laws_markWonS_L fu) msk_laws_markWonS_L (lp_laws_markWonS_L fu) (loops 0 body_laws_markWonS_L) := loop_all 1 (by kernel_rfl) fun i hi => match i, hi with
  | 0, _ => by
    have h : (loops 0 body_laws_markWonS_L).getD 0 (0, .skip) = (0, lc_laws_markWonS_L_0) := by kernel_rfl
    rw [h]; exact lpok_laws_markWonS_L_0 fu
  | i + 1, hi => absurd hi (by omega)
def S_laws_markWonS_L (fu : Nat) (xs : List (D RT den)) (ins : List (Ob RT den)) : Option (OutX RT den) := match xs, ins with | [.os 0 a0_0, .int .i64 a1_0], [.row true .impl_Won rn0 rf0] => some ⟨Int × (Nat × (Nat → S_impl_Won)), F_laws_markWonS_L fu a0_0 a1_0 rn0 rf0, enc_laws_markWonS_L⟩ | _, _ => none
theorem hpc_laws_markWonS_L (fu : Nat) : ∀ f xs o, pcf_laws_markWonS_L fu f xs = some o → ∀ y, o.x = some y → Good E Try.prog f xs (o.g y) := by
  intro f xs o h
  cases h
theorem hpx_laws_markWonS_L (fu : Nat) : ∀ f xs ins o, pcx_laws_markWonS_L fu f xs ins = some o → ∀ y, o.x = some y → GoodX E Try.prog f xs ins (o.g y).1 (o.g y).2 := by
  intro f xs ins o h
  cases h
theorem goodv_laws_markWonS_L (fu : Nat) (a_0_0 : Nat) (k_1_1 : Int) (rn0 : Nat) (rf0 : (Nat → S_impl_Won)) (y : Int × (Nat × (Nat → S_impl_Won))) (hy : F_laws_markWonS_L fu a_0_0 k_1_1 rn0 rf0 = some y) : GoodX E Try.prog 101 [(.os 0 a_0_0), (.int .i64 k_1_1)] [(.row true .impl_Won rn0 rf0)] (enc_laws_markWonS_L y).1 (enc_laws_markWonS_L y).2 :=
  funX_good (ke := false) E_ok (pc_good (pc := pc_laws_markWonS_L fu) (hpc_laws_markWonS_L fu) (hpx_laws_markWonS_L fu)) (fn := Try.f101) (c := body_laws_markWonS_L) (out := out_laws_markWonS_L) (y := y) (by kernel_rfl) (by kernel_rfl) (by kernel_rfl) (lpok_laws_markWonS_L fu) (by kernel_rfl) (Nat.le_refl _) (fun d os hd => out_laws_markWonS_L_enc d os _ hd) ((ev_laws_markWonS_L fu a_0_0 k_1_1 rn0 rf0).trans hy)
theorem good_laws_markWonS_L (fu : Nat) : ∀ xs ins o, S_laws_markWonS_L fu xs ins = some o → ∀ y, o.x = some y → GoodX E Try.prog 101 xs ins (o.g y).1 (o.g y).2 := by
  intro xs ins o h y hy
  unfold S_laws_markWonS_L at h
  split at h
  · rename_i a0_0 a1_0 rn0 rf0
    cases h
    exact goodv_laws_markWonS_L fu a0_0 a1_0 rn0 rf0 y hy
  · cases h

/-! laws.markSealS -/
def F_laws_markSealS_L_B0 {ρ : Type} (fu : Nat) (a0_0 : Nat) (on0_3 : Nat) (k0 : Int → (Nat → S_impl_Seal) → Option ρ) (k1_1 : Int) (i5_2 : Int) (of0_4 : (Nat → S_impl_Seal)) (go : Int → Int → (Nat → S_impl_Seal) → Option ρ) : Option ρ :=
  (bif (decide (i5_2 < ((a0_0 : Nat) : Int))) then ((bif (decide (0 ≤ i5_2) && decide ((Int.toNat i5_2) < a0_0)) then some () else none : Option Unit).bind fun _ => ((bif (decide (0 ≤ i5_2) &&
    decide ((Int.toNat i5_2) < a0_0)) then some () else none : Option Unit).bind fun _ => ((bif (decide (0 ≤ i5_2) && decide ((Int.toNat i5_2) < a0_0)) then some () else none : Option Unit).bind fun _ =>
    ((bif (decide (0 ≤ i5_2) && decide ((Int.toNat i5_2) < a0_0)) then some () else none : Option Unit).bind fun _ => ((bif (decide (0 ≤ i5_2) && decide ((Int.toNat i5_2) < a0_0)) then
    some () else none : Option Unit).bind fun _ => ((bif (decide (0 ≤ i5_2) && decide ((Int.toNat i5_2) < a0_0)) then some () else none : Option Unit).bind fun _ => ((bif (decide (0 ≤ i5_2) &&
    decide ((Int.toNat i5_2) < a0_0)) then some () else none : Option Unit).bind fun _ => ((bif (decide (0 ≤ i5_2) && decide ((Int.toNat i5_2) < a0_0)) then some () else none : Option Unit).bind fun _ =>
    ((bif (decide (0 ≤ i5_2) && decide ((Int.toNat i5_2) < a0_0)) then some () else none : Option Unit).bind fun _ => ((bif (decide (0 ≤ i5_2) && decide ((Int.toNat i5_2) < a0_0)) then
    some () else none : Option Unit).bind fun _ => (go (IntKind.wrap .i64 ((IntKind.wrap .i64 ((IntKind.wrap .i64 ((IntKind.wrap .i64 ((IntKind.wrap .i64 ((IntKind.wrap .i64 ((IntKind.wrap .i64 ((IntKind.wrap .i64 ((IntKind.wrap .i64 ((IntKind.wrap .i64 (k1_1 + 1)) + 1)) + 1)) + 1)) + 1)) + 1)) + 1)) + 1)) + 1)) + 1)) (IntKind.wrap .i64 (i5_2 + 1)) (upd_impl_Seal_9_1 (upd_impl_Seal_8_1 (upd_impl_Seal_7_1 (upd_impl_Seal_6_1 (upd_impl_Seal_5_1 (upd_impl_Seal_4_1 (upd_impl_Seal_3_1 (upd_impl_Seal_2_1 (upd_impl_Seal_1_1 (upd_impl_Seal_0_1 of0_4 (Int.toNat i5_2) k1_1) (Int.toNat i5_2) (IntKind.wrap .i64 (k1_1 + 1))) (Int.toNat i5_2) (IntKind.wrap .i64 ((IntKind.wrap .i64 (k1_1 + 1)) + 1))) (Int.toNat i5_2) (IntKind.wrap .i64 ((IntKind.wrap .i64 ((IntKind.wrap .i64 (k1_1 + 1)) + 1)) + 1))) (Int.toNat i5_2) (IntKind.wrap .i64 ((IntKind.wrap .i64 ((IntKind.wrap .i64 ((IntKind.wrap .i64 (k1_1 + 1)) + 1)) + 1)) + 1))) (Int.toNat i5_2) (IntKind.wrap .i64 ((IntKind.wrap .i64 ((IntKind.wrap .i64 ((IntKind.wrap .i64 ((IntKind.wrap .i64 (k1_1 + 1)) + 1)) + 1)) + 1)) + 1))) (Int.toNat i5_2) (IntKind.wrap .i64 ((IntKind.wrap .i64 ((IntKind.wrap .i64 ((IntKind.wrap .i64 ((IntKind.wrap .i64 ((IntKind.wrap .i64 (k1_1 + 1)) + 1)) + 1)) + 1)) + 1)) + 1))) (Int.toNat i5_2) (IntKind.wrap .i64 ((IntKind.wrap .i64 ((IntKind.wrap .i64 ((IntKind.wrap .i64 ((IntKind.wrap .i64 ((IntKind.wrap .i64 ((IntKind.wrap .i64 (k1_1 + 1)) + 1)) + 1)) + 1)) + 1)) + 1)) + 1))) (Int.toNat i5_2) (IntKind.wrap .i64 ((IntKind.wrap .i64 ((IntKind.wrap .i64 ((IntKind.wrap .i64 ((IntKind.wrap .i64 ((IntKind.wrap .i64 ((IntKind.wrap .i64 ((IntKind.wrap .i64 (k1_1 + 1)) + 1)) + 1)) + 1)) + 1)) + 1)) + 1)) + 1))) (Int.toNat i5_2) (IntKind.wrap .i64 ((IntKind.wrap .i64 ((IntKind.wrap .i64 ((IntKind.wrap .i64 ((IntKind.wrap .i64 ((IntKind.wrap .i64 ((IntKind.wrap .i64 ((IntKind.wrap .i64 ((IntKind.wrap .i64 (k1_1 + 1)) + 1)) + 1)) + 1)) + 1)) + 1)) + 1)) + 1)) + 1)))))))))))))) else
    (k0 k1_1 of0_4))
def F_laws_markSealS_L (fu : Nat) (a_0_0 : Nat) (k_1_1 : Int) (rn0 : Nat) (rf0 : (Nat → S_impl_Seal)) : Option (Int × (Nat × (Nat → S_impl_Seal))) :=
  (L (fun w0 go0 => F_laws_markSealS_L_B0 fu a_0_0 rn0 (fun z48 z49 => (some (z48, (rn0, z49)))) w0.1 w0.2.1 w0.2.2 (fun q0 q1 q2 => go0 (q0, q1, q2))) fu ((k_1_1, 0, rf0) : Int × Int × (Nat → S_impl_Seal)))
def pcf_laws_markSealS_L (fu : Nat) (f : Nat) (xs : List (D RT den)) : Option (Out RT den) := none
def pcx_laws_markSealS_L (fu : Nat) (f : Nat) (xs : List (D RT den)) (ins : List (Ob RT den)) : Option (OutX RT den) := none
def pc_laws_markSealS_L (fu : Nat) : Pc RT den := ⟨pcf_laws_markSealS_L fu, fun _ => false, fun _ => false, pcx_laws_markSealS_L fu⟩
def msk_laws_markSealS_L (b : Nat) : List Nat := match b with | 0 => [2, 3, 4, 6, 7, 8, 9, 10, 11, 12, 13, 14, 15, 16, 17, 18, 19, 20, 21, 22, 23, 24, 25, 26, 27, 28, 29, 30, 31, 32, 33, 34, 35, 36, 37, 38, 39, 40, 41, 42, 43, 44, 45, 46, 47, 48, 49, 50, 51, 52, 53, 54, 55, 56, 57, 58, 59, 60, 61, 62, 63, 64, 65, 66, 67, 68, 69, 70, 71, 72, 73, 74, 75, 76, 77, 78, 79, 80, 81, 82, 83, 84, 85, 86, 87, 88, 89, 90, 91, 92, 93, 94, 95, 96, 97] | 100000 => [0, 2, 3, 5, 6, 7, 8, 9, 10, 11, 12, 13, 14, 15, 16, 17, 18, 19, 20, 21, 22, 23, 24, 25, 26, 27, 28, 29, 30, 31, 32, 33, 34, 35, 36, 37, 38, 39, 40, 41, 42, 43, 44, 45, 46, 47, 48, 49, 50, 51, 52, 53, 54, 55, 56, 57, 58, 59, 60, 61, 62, 63, 64, 65, 66, 67, 68, 69, 70, 71, 72, 73, 74, 75, 76, 77, 78, 79, 80, 81, 82, 83, 84, 85, 86, 87, 88, 89, 90, 91, 92, 93, 94, 95, 96, 97] | _ => []
def ps_laws_markSealS_L_0 : List (Pat RT) := [.flat (.os 0), .flat (.int .i64), .flat .dead, .flat .dead, .flat .dead, .flat (.int .i64), .flat .dead, .flat .dead, .flat .dead, .flat .dead, .flat .dead, .flat .dead, .flat .dead, .flat .dead, .flat .dead, .flat .dead, .flat .dead, .flat .dead, .flat .dead, .flat .dead, .flat .dead, .flat .dead, .flat .dead, .flat .dead, .flat .dead, .flat .dead, .flat .dead, .flat .dead, .flat .dead, .flat .dead, .flat .dead, .flat .dead, .flat .dead, .flat .dead, .flat .dead, .flat .dead, .flat .dead, .flat .dead, .flat .dead, .flat .dead, .flat .dead, .flat .dead, .flat .dead, .flat .dead, .flat .dead, .flat .dead, .flat .dead, .flat .dead, .flat .dead, .flat .dead, .flat .dead, .flat .dead, .flat .dead, .flat .dead, .flat .dead, .flat .dead, .flat .dead, .flat .dead, .flat .dead, .flat .dead, .flat .dead, .flat .dead, .flat .dead, .flat .dead, .flat .dead, .flat .dead, .flat .dead, .flat .dead, .flat .dead, .flat .dead, .flat .dead, .flat .dead, .flat .dead, .flat .dead, .flat .dead, .flat .dead, .flat .dead, .flat .dead, .flat .dead, .flat .dead, .flat .dead, .flat .dead, .flat .dead, .flat .dead, .flat .dead, .flat .dead, .flat .dead, .flat .dead, .flat .dead, .flat .dead, .flat .dead, .flat .dead, .flat .dead, .flat .dead, .flat .dead, .flat .dead, .flat .dead, .flat .dead]
def os_laws_markSealS_L_0 : List (OP RT) := [.row true .impl_Seal]
def conv_laws_markSealS_L_0 (r : Raw den ps_laws_markSealS_L_0 os_laws_markSealS_L_0) : (Nat × Nat) × (Int × Int × (Nat → S_impl_Seal)) := ((r.1.1, r.2.1.1), (r.1.2.1, r.1.2.2.2.2.2.1, r.2.1.2))
def back_laws_markSealS_L_0 (c : Nat × Nat) (w : Int × Int × (Nat → S_impl_Seal)) : St RT den := ⟨[(.os 0 c.1), (.int .i64 w.1), .dead, .dead, .dead, (.int .i64 w.2.1), .dead, .dead, .dead, .dead, .dead, .dead, .dead, .dead, .dead, .dead, .dead, .dead, .dead, .dead, .dead, .dead, .dead, .dead, .dead, .dead, .dead, .dead, .dead, .dead, .dead, .dead, .dead, .dead, .dead, .dead, .dead, .dead, .dead, .dead, .dead, .dead, .dead, .dead, .dead, .dead, .dead, .dead, .dead, .dead, .dead, .dead, .dead, .dead, .dead, .dead, .dead, .dead, .dead, .dead, .dead, .dead, .dead, .dead, .dead, .dead, .dead, .dead, .dead, .dead, .dead, .dead, .dead, .dead, .dead, .dead, .dead, .dead, .dead, .dead, .dead, .dead, .dead, .dead, .dead, .dead, .dead, .dead, .dead, .dead, .dead, .dead, .dead, .dead, .dead, .dead, .dead, .dead], [(.row true .impl_Seal c.2 w.2.2)]⟩
def Bk_laws_markSealS_L_0 {ρ : Type} (fu : Nat) (c : Nat × Nat) (k : Ex → St RT den → Option ρ) (w : Int × Int × (Nat → S_impl_Seal)) (go : (Int × Int × (Nat → S_impl_Seal)) → Option ρ) : Option ρ := F_laws_markSealS_L_B0 fu c.1 c.2 (fun a0 a1 => k (.exit 0) ⟨[.dead, (.int .i64 a0), .dead, .dead, .dead, .dead, .dead, .dead, .dead, .dead, .dead, .dead, .dead, .dead, .dead, .dead, .dead, .dead, .dead, .dead, .dead, .dead, .dead, .dead, .dead, .dead, .dead, .dead, .dead, .dead, .dead, .dead, .dead, .dead, .dead, .dead, .dead, .dead, .dead, .dead, .dead, .dead, .dead, .dead, .dead, .dead, .dead, .dead, .dead, .dead, .dead, .dead, .dead, .dead, .dead, .dead, .dead, .dead, .dead, .dead, .dead, .dead, .dead, .dead, .dead, .dead, .dead, .dead, .dead, .dead, .dead, .dead, .dead, .dead, .dead, .dead, .dead, .dead, .dead, .dead, .dead, .dead, .dead, .dead, .dead, .dead, .dead, .dead, .dead, .dead, .dead, .dead, .dead, .dead, .dead, .dead, .dead, .dead], [(.row true .impl_Seal c.2 a1)]⟩) w.1 w.2.1 w.2.2 (fun q0 q1 q2 => go (q0, q1, q2))
def lp_laws_markSealS_L (fu : Nat) : Lp RT den (Int × (Nat × (Nat → S_impl_Seal))) := fun b s k => match b with | 0 => handle ps_laws_markSealS_L_0 os_laws_markSealS_L_0 conv_laws_markSealS_L_0 (Bk_laws_markSealS_L_0 fu) fu s k | _ => none
def out_laws_markSealS_L (d : D RT den) (os : List (Ob RT den)) : Option (Int × (Nat × (Nat → S_impl_Seal))) := match d, os with | .int .i64 a0_0, [.row true .impl_Seal n0 f0] => some (a0_0, (n0, f0)) | _, _ => none
def enc_laws_markSealS_L (y : Int × (Nat × (Nat → S_impl_Seal))) : D RT den × List (Ob RT den) := ((.int .i64 y.1), [(.row true .impl_Seal y.2.1 y.2.2)])
theorem out_laws_markSealS_L_enc (d : D RT den) (os : List (Ob RT den)) (y : Int × (Nat × (Nat → S_impl_Seal))) (h : out_laws_markSealS_L d os = some y) : (unh 1 d).1 = (enc_laws_markSealS_L y).1 ∧ os ++ (unh 1 d).2 = (enc_laws_markSealS_L y).2 := by
  unfold out_laws_markSealS_L at h
  split at h
  · cases h; exact ⟨rfl, rfl⟩
  · cases h
theorem ev_laws_markSealS_L (fu : Nat) (a_0_0 : Nat) (k_1_1 : Int) (rn0 : Nat) (rf0 : (Nat → S_impl_Seal)) : evFunX E false (pc_laws_markSealS_L fu) msk_laws_markSealS_L (lp_laws_markSealS_L fu) out_laws_markSealS_L 102 [(.os 0 a_0_0), (.int .i64 k_1_1)] [(.row true .impl_Seal rn0 rf0)] = F_laws_markSealS_L fu a_0_0 k_1_1 rn0 rf0 := by kernel_rfl
noncomputable def body_laws_markSealS_L : Code := Try.f102.body.getD .skip
noncomputable def lc_laws_markSealS_L_0 : Code := ((loops 0 body_laws_markSealS_L).getD 0 (0, .skip)).2
theorem round_laws_markSealS_L_0 (fu : Nat) (it : St RT den → Option (Int × (Nat × (Nat → S_impl_Seal)))) (k : Ex → St RT den → Option (Int × (Nat × (Nat → S_impl_Seal)))) c w : evCode E (pc_laws_markSealS_L fu) msk_laws_markSealS_L (lp_laws_markSealS_L fu) 0 lc_laws_markSealS_L_0 (back_laws_markSealS_L_0 c w) (after (msk_laws_markSealS_L 0) (msk_laws_markSealS_L 100000) 1 it k) = Bk_laws_markSealS_L_0 fu c k w (fun w => it (back_laws_markSealS_L_0 c w)) := by kernel_rfl
theorem lpok_laws_markSealS_L_0 (fu : Nat) : ∀ s k r, lp_laws_markSealS_L fu 0 s k = some r → ∃ fuel, iter (msk_laws_markSealS_L 0) (msk_laws_markSealS_L 100000) s.objs.length (evCode E (pc_laws_markSealS_L fu) msk_laws_markSealS_L (lp_laws_markSealS_L fu) 0 lc_laws_markSealS_L_0) fuel s k = some r :=
  handle_ok (ps := ps_laws_markSealS_L_0) (os := os_laws_markSealS_L_0) (conv := conv_laws_markSealS_L_0) (B := Bk_laws_markSealS_L_0 fu) (fu := fu) back_laws_markSealS_L_0 (fun raw => by kernel_rfl) 1 (fun c w => by kernel_rfl) (round_laws_markSealS_L_0 fu)
theorem lpok_laws_markSealS_L (fu : Nat) : LpOk E (pc_laws_markSealS_L fu) msk_laws_markSealS_L (lp_laws_markSealS_L fu) (loops 0 body_laws_markSealS_L) := loop_all 1 (by kernel_rfl) fun i hi => match i, hi with
  | 0, _ => by
    have h : (loops 0 body_laws_markSealS_L).getD 0 (0, .skip) = (0, lc_laws_markSealS_L_0) := by kernel_rfl
    rw [h]; exact lpok_laws_markSealS_L_0 fu
  | i + 1, hi => absurd hi (by omega)
def S_laws_markSealS_L (fu : Nat) (xs : List (D RT den)) (ins : List (Ob RT den)) : Option (OutX RT den) := match xs, ins with | [.os 0 a0_0, .int .i64 a1_0], [.row true .impl_Seal rn0 rf0] => some ⟨Int × (Nat × (Nat → S_impl_Seal)), F_laws_markSealS_L fu a0_0 a1_0 rn0 rf0, enc_laws_markSealS_L⟩ | _, _ => none
theorem hpc_laws_markSealS_L (fu : Nat) : ∀ f xs o, pcf_laws_markSealS_L fu f xs = some o → ∀ y, o.x = some y → Good E Try.prog f xs (o.g y) := by
  intro f xs o h
  cases h
theorem hpx_laws_markSealS_L (fu : Nat) : ∀ f xs ins o, pcx_laws_markSealS_L fu f xs ins = some o → ∀ y, o.x = some y → GoodX E Try.prog f xs ins (o.g y).1 (o.g y).2 := by
  intro f xs ins o h
  cases h
theorem goodv_laws_markSealS_L (fu : Nat) (a_0_0 : Nat) (k_1_1 : Int) (rn0 : Nat) (rf0 : (Nat → S_impl_Seal)) (y : Int × (Nat × (Nat → S_impl_Seal))) (hy : F_laws_markSealS_L fu a_0_0 k_1_1 rn0 rf0 = some y) : GoodX E Try.prog 102 [(.os 0 a_0_0), (.int .i64 k_1_1)] [(.row true .impl_Seal rn0 rf0)] (enc_laws_markSealS_L y).1 (enc_laws_markSealS_L y).2 :=
  funX_good (ke := false) E_ok (pc_good (pc := pc_laws_markSealS_L fu) (hpc_laws_markSealS_L fu) (hpx_laws_markSealS_L fu)) (fn := Try.f102) (c := body_laws_markSealS_L) (out := out_laws_markSealS_L) (y := y) (by kernel_rfl) (by kernel_rfl) (by kernel_rfl) (lpok_laws_markSealS_L fu) (by kernel_rfl) (Nat.le_refl _) (fun d os hd => out_laws_markSealS_L_enc d os _ hd) ((ev_laws_markSealS_L fu a_0_0 k_1_1 rn0 rf0).trans hy)
theorem good_laws_markSealS_L (fu : Nat) : ∀ xs ins o, S_laws_markSealS_L fu xs ins = some o → ∀ y, o.x = some y → GoodX E Try.prog 102 xs ins (o.g y).1 (o.g y).2 := by
  intro xs ins o h y hy
  unfold S_laws_markSealS_L at h
  split at h
  · rename_i a0_0 a1_0 rn0 rf0
    cases h
    exact goodv_laws_markSealS_L fu a0_0 a1_0 rn0 rf0 y hy
  · cases h
end Go.Proofs.Ytmdjkdgjmbfegaa.Pn
