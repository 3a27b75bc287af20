/- The functions' evaluated forms, each a proved summary. Conditions: none. -/
import Derived.Test.YtgdlionhnifajaaPcF5
namespace Go.Proofs.Ytgdlionhnifajaa.Pc
open Go Go.RowKit Go.Proofs Vm
set_option linter.unusedVariables false
set_option linter.unusedSimpArgs false
set_option maxRecDepth 100000
/-! laws.FnExactClusterFault -/
def F_laws_FnExactClusterFault (fu : Nat) (aC_0 : S_laws_Cluster) : Option (Bool) :=
  ((F_laws_szCluster fu aC_0 1048576).bind fun y250 => (bif (decide (y250 < 0)) then (some true) else ((F_laws_toCluster fu aC_0).bind fun y251 => ((F_spec_ClusterFault fu y251).bind fun y252 =>
    ((F_laws_toCluster fu aC_0).bind fun y253 => ((F_impl_ClusterFault fu y253).bind fun y254 => (bif (y254 != y252) then (some false) else ((F_laws_toCluster fu aC_0).bind fun y255 =>
    ((F_laws_eqCluster fu y253 y255).bind fun y256 => (bif (!y256) then (some false) else (some true)))))))))))
def pc_laws_FnExactClusterFault (fu : Nat) : Pc RT den := fun f xs => match f with | 20 => S_laws_szCluster fu xs | 21 => S_spec_ClusterFault fu xs | 22 => S_laws_toCluster fu xs | 23 => S_impl_ClusterFault fu xs | 24 => S_laws_eqCluster fu xs | _ => none
def msk_laws_FnExactClusterFault (b : Nat) : List Nat := []
def lp_laws_FnExactClusterFault (fu : Nat) : Lp RT den (Bool) := fun b s k => none
theorem ev_laws_FnExactClusterFault (fu : Nat) (aC_0 : S_laws_Cluster) : evFun E (pc_laws_FnExactClusterFault fu) msk_laws_FnExactClusterFault (lp_laws_FnExactClusterFault fu) out_b 5 [(.agg [(.rs aC_0.Nodes.z .laws_Node aC_0.Nodes.n aC_0.Nodes.f), (.rs aC_0.Mails.z .laws_Mail aC_0.Mails.n aC_0.Mails.f), (.rs aC_0.Wins.z .impl_Won aC_0.Wins.n aC_0.Wins.f), (.rs aC_0.Seals.z .laws_Seal aC_0.Seals.n aC_0.Seals.f)])] = F_laws_FnExactClusterFault fu aC_0 := by kernel_rfl
noncomputable def body_laws_FnExactClusterFault : Code := Try.f5.body.getD .skip
theorem lpok_laws_FnExactClusterFault (fu : Nat) : LpOk E (pc_laws_FnExactClusterFault fu) msk_laws_FnExactClusterFault (lp_laws_FnExactClusterFault fu) (loops 0 body_laws_FnExactClusterFault) := by
  have h : loops 0 body_laws_FnExactClusterFault = [] := by kernel_rfl
  rw [h]; intro p hp; cases hp
def S_laws_FnExactClusterFault (fu : Nat) (xs : List (D RT den)) : Option (Out RT den) := match xs with | [.agg [.rs za0_1 .laws_Node na0_1 fa0_1, .rs za0_2 .laws_Mail na0_2 fa0_2, .rs za0_3 .impl_Won na0_3 fa0_3, .rs za0_4 .laws_Seal na0_4 fa0_4]] => some ⟨Bool, F_laws_FnExactClusterFault fu (⟨(⟨za0_1, na0_1, fa0_1⟩ : (Sl S_laws_Node)), (⟨za0_2, na0_2, fa0_2⟩ : (Sl S_laws_Mail)), (⟨za0_3, na0_3, fa0_3⟩ : (Sl S_impl_Won)), (⟨za0_4, na0_4, fa0_4⟩ : (Sl S_laws_Seal))⟩ : S_laws_Cluster), enc_b, fun _ => true⟩ | _ => none
theorem hpc_laws_FnExactClusterFault (fu : Nat) : ∀ f xs o, pc_laws_FnExactClusterFault fu f xs = some o → ∀ y, o.x = some y → Good E Try.prog f xs (o.g y) := by
  intro f xs o h
  unfold pc_laws_FnExactClusterFault at h
  split at h
  · exact good_laws_szCluster fu xs o h
  · exact good_spec_ClusterFault fu xs o h
  · exact good_laws_toCluster fu xs o h
  · exact good_impl_ClusterFault fu xs o h
  · exact good_laws_eqCluster fu xs o h
  · cases h
theorem goodv_laws_FnExactClusterFault (fu : Nat) (aC_0 : S_laws_Cluster) (y : Bool) (hy : F_laws_FnExactClusterFault fu aC_0 = some y) : Good E Try.prog 5 [(.agg [(.rs aC_0.Nodes.z .laws_Node aC_0.Nodes.n aC_0.Nodes.f), (.rs aC_0.Mails.z .laws_Mail aC_0.Mails.n aC_0.Mails.f), (.rs aC_0.Wins.z .impl_Won aC_0.Wins.n aC_0.Wins.f), (.rs aC_0.Seals.z .laws_Seal aC_0.Seals.n aC_0.Seals.f)])] (enc_b y) :=
  fun_good E_ok (pc_good (hpc_laws_FnExactClusterFault fu)) (fn := Try.f5) (c := body_laws_FnExactClusterFault) (out := out_b) (y := y) (by kernel_rfl) (by kernel_rfl) (by kernel_rfl) (lpok_laws_FnExactClusterFault fu) (fun d hd => out_b_enc d _ hd) ((ev_laws_FnExactClusterFault fu aC_0).trans hy)
theorem good_laws_FnExactClusterFault (fu : Nat) : ∀ xs o, S_laws_FnExactClusterFault fu xs = some o → ∀ y, o.x = some y → Good E Try.prog 5 xs (o.g y) := by
  intro xs o h y hy
  unfold S_laws_FnExactClusterFault at h
  split at h
  · rename_i za0_1 na0_1 fa0_1 za0_2 na0_2 fa0_2 za0_3 na0_3 fa0_3 za0_4 na0_4 fa0_4
    cases h
    exact goodv_laws_FnExactClusterFault fu (⟨(⟨za0_1, na0_1, fa0_1⟩ : (Sl S_laws_Node)), (⟨za0_2, na0_2, fa0_2⟩ : (Sl S_laws_Mail)), (⟨za0_3, na0_3, fa0_3⟩ : (Sl S_impl_Won)), (⟨za0_4, na0_4, fa0_4⟩ : (Sl S_laws_Seal))⟩ : S_laws_Cluster) y hy
  · cases h

/-! spec.l10One -/
def F_spec_l10One_B2 {ρ : Type} (fu : Nat) (c0_0 : (Sl S_impl_Node)) (c0_1 : (Sl S_impl_Mail)) (c0_2 : (Sl S_impl_Won)) (c0_3 : (Sl S_impl_Seal)) (i3_4 : Int) (k0 : Option ρ) (k1 : Option ρ) (k4_5 : Int) (go : Int → Option ρ) : Option ρ :=
  (bif (decide (k4_5 < i3_4)) then ((((bif (decide (0 ≤ i3_4) && decide ((Int.toNat i3_4) < c0_2.n)) then some () else none : Option Unit).bind fun _ => ((bif (decide (0 ≤ k4_5) &&
    decide ((Int.toNat k4_5) < c0_2.n)) then some () else none : Option Unit).bind fun _ => (bif ((c0_2.f (Int.toNat i3_4)).Term == (c0_2.f (Int.toNat k4_5)).Term) then ((bif (decide (0 ≤ i3_4) &&
    decide ((Int.toNat i3_4) < c0_2.n)) then some () else none : Option Unit).bind fun _ => ((bif (decide (0 ≤ k4_5) && decide ((Int.toNat k4_5) < c0_2.n)) then some () else none : Option Unit).bind fun _ =>
    (some ((c0_2.f (Int.toNat i3_4)).Node != (c0_2.f (Int.toNat k4_5)).Node)))) else (some false)))) : Option Bool).bind fun m394 => (bif m394 then k0 else (go (IntKind.wrap .i64 (k4_5 + 1))))) else
    k1)
def F_spec_l10One_B0 {ρ : Type} (fu : Nat) (c0_0 : (Sl S_impl_Node)) (c0_1 : (Sl S_impl_Mail)) (c0_2 : (Sl S_impl_Won)) (c0_3 : (Sl S_impl_Seal)) (k0 : Option ρ) (k1 : Option ρ) (i3_4 : Int) (go : Int → Option ρ) : Option ρ :=
  (bif (decide (i3_4 < ((c0_2.n : Nat) : Int))) then (L (fun w2 go2 => F_spec_l10One_B2 fu c0_0 c0_1 c0_2 c0_3 i3_4 (k0) ((go (IntKind.wrap .i64 (i3_4 + 1)))) w2 go2) fu (0 : Int)) else
    k1)
def F_spec_l10One (fu : Nat) (c_0 : S_impl_Cluster) : Option (Bool) :=
  (L (fun w0 go0 => F_spec_l10One_B0 fu c_0.Nodes c_0.Mails c_0.Wins c_0.Seals (some false) (some true) w0 go0) fu (0 : Int))
def pc_spec_l10One (fu : Nat) : Pc RT den := fun f xs => none
def msk_spec_l10One (b : Nat) : List Nat := match b with | 0 => [1, 2, 4, 5, 6, 7, 8, 9, 10, 11, 12, 13, 14, 15, 16, 17, 18, 19, 20, 21, 22, 23, 24, 25, 26, 27, 28, 29, 30, 31, 32, 33, 34, 35, 36, 37, 38, 39, 40, 41, 42, 43, 44, 45, 46, 47, 48, 49, 50, 51, 52, 53, 54] | 100000 => [0, 1, 3, 4, 5, 6, 7, 8, 9, 10, 11, 12, 13, 14, 15, 16, 17, 18, 19, 20, 21, 22, 23, 24, 25, 26, 27, 28, 29, 30, 31, 32, 33, 34, 35, 36, 37, 38, 39, 40, 41, 42, 43, 44, 45, 46, 47, 48, 49, 50, 51, 52, 53, 54] | 2 => [1, 2, 5, 6, 7, 8, 9, 10, 11, 12, 13, 14, 15, 16, 17, 18, 19, 20, 21, 22, 23, 24, 25, 26, 27, 28, 29, 30, 31, 32, 33, 34, 35, 36, 37, 38, 39, 40, 41, 42, 43, 44, 45, 46, 47, 48, 49, 50, 51, 52, 53, 54] | 100002 => [1, 4, 5, 6, 7, 8, 9, 10, 11, 12, 13, 14, 15, 16, 17, 18, 19, 20, 21, 22, 23, 24, 25, 26, 27, 28, 29, 30, 31, 32, 33, 34, 35, 36, 37, 38, 39, 40, 41, 42, 43, 44, 45, 46, 47, 48, 49, 50, 51, 52, 53, 54] | 200007 => [54] | _ => []
def ps_spec_l10One_2 : List (Pat RT) := [.rptr [(.rs .impl_Node), (.rs .impl_Mail), (.rs .impl_Won), (.rs .impl_Seal)], .flat .dead, .flat .dead, .flat (.int .i64), .flat (.int .i64), .flat .dead, .flat .dead, .flat .dead, .flat .dead, .flat .dead, .flat .dead, .flat .dead, .flat .dead, .flat .dead, .flat .dead, .flat .dead, .flat .dead, .flat .dead, .flat .dead, .flat .dead, .flat .dead, .flat .dead, .flat .dead, .flat .dead, .flat .dead, .flat .dead, .flat .dead, .flat .dead, .flat .dead, .flat .dead, .flat .dead, .flat .dead, .flat .dead, .flat .dead, .flat .dead, .flat .dead, .flat .dead, .flat .dead, .flat .dead, .flat .dead, .flat .dead, .flat .dead, .flat .dead, .flat .dead, .flat .dead, .flat .dead, .flat .dead, .flat .dead, .flat .dead, .flat .dead, .flat .dead, .flat .dead, .flat .dead, .flat .dead, .flat .dead]
def os_spec_l10One_2 : List (OP RT) := []
def conv_spec_l10One_2 (r : Raw den ps_spec_l10One_2 os_spec_l10One_2) : ((Sl S_impl_Node) × (Sl S_impl_Mail) × (Sl S_impl_Won) × (Sl S_impl_Seal) × Int) × (Int) := ((r.1.1.1, r.1.1.2.1, r.1.1.2.2.1, r.1.1.2.2.2.1, r.1.2.2.2.1), r.1.2.2.2.2.1)
def back_spec_l10One_2 (c : (Sl S_impl_Node) × (Sl S_impl_Mail) × (Sl S_impl_Won) × (Sl S_impl_Seal) × Int) (w : Int) : St RT den := ⟨[(.rptr [(.rs c.1.z .impl_Node c.1.n c.1.f), (.rs c.2.1.z .impl_Mail c.2.1.n c.2.1.f), (.rs c.2.2.1.z .impl_Won c.2.2.1.n c.2.2.1.f), (.rs c.2.2.2.1.z .impl_Seal c.2.2.2.1.n c.2.2.2.1.f)]), .dead, .dead, (.int .i64 c.2.2.2.2), (.int .i64 w), .dead, .dead, .dead, .dead, .dead, .dead, .dead, .dead, .dead, .dead, .dead, .dead, .dead, .dead, .dead, .dead, .dead, .dead, .dead, .dead, .dead, .dead, .dead, .dead, .dead, .dead, .dead, .dead, .dead, .dead, .dead, .dead, .dead, .dead, .dead, .dead, .dead, .dead, .dead, .dead, .dead, .dead, .dead, .dead, .dead, .dead, .dead, .dead, .dead, .dead], []⟩
def Bk_spec_l10One_2 {ρ : Type} (fu : Nat) (c : (Sl S_impl_Node) × (Sl S_impl_Mail) × (Sl S_impl_Won) × (Sl S_impl_Seal) × Int) (k : Ex → St RT den → Option ρ) (w : Int) (go : (Int) → Option ρ) : Option ρ := F_spec_l10One_B2 fu c.1 c.2.1 c.2.2.1 c.2.2.2.1 c.2.2.2.2 (k .ret ⟨[(.rptr [(.rs c.1.z .impl_Node c.1.n c.1.f), (.rs c.2.1.z .impl_Mail c.2.1.n c.2.1.f), (.rs c.2.2.1.z .impl_Won c.2.2.1.n c.2.2.1.f), (.rs c.2.2.2.1.z .impl_Seal c.2.2.2.1.n c.2.2.2.1.f)]), .dead, (.bool false), (.int .i64 c.2.2.2.2), .dead, .dead, .dead, .dead, .dead, .dead, .dead, .dead, .dead, .dead, .dead, .dead, .dead, .dead, .dead, .dead, .dead, .dead, .dead, .dead, .dead, .dead, .dead, .dead, .dead, .dead, .dead, .dead, .dead, .dead, .dead, .dead, .dead, .dead, .dead, .dead, .dead, .dead, .dead, .dead, .dead, .dead, .dead, .dead, .dead, .dead, .dead, .dead, .dead, .dead, .dead], []⟩) (k (.exit 2) ⟨[(.rptr [(.rs c.1.z .impl_Node c.1.n c.1.f), (.rs c.2.1.z .impl_Mail c.2.1.n c.2.1.f), (.rs c.2.2.1.z .impl_Won c.2.2.1.n c.2.2.1.f), (.rs c.2.2.2.1.z .impl_Seal c.2.2.2.1.n c.2.2.2.1.f)]), .dead, .dead, (.int .i64 c.2.2.2.2), .dead, .dead, .dead, .dead, .dead, .dead, .dead, .dead, .dead, .dead, .dead, .dead, .dead, .dead, .dead, .dead, .dead, .dead, .dead, .dead, .dead, .dead, .dead, .dead, .dead, .dead, .dead, .dead, .dead, .dead, .dead, .dead, .dead, .dead, .dead, .dead, .dead, .dead, .dead, .dead, .dead, .dead, .dead, .dead, .dead, .dead, .dead, .dead, .dead, .dead, .dead], []⟩) w go
def ps_spec_l10One_0 : List (Pat RT) := [.rptr [(.rs .impl_Node), (.rs .impl_Mail), (.rs .impl_Won), (.rs .impl_Seal)], .flat .dead, .flat .dead, .flat (.int .i64), .flat .dead, .flat .dead, .flat .dead, .flat .dead, .flat .dead, .flat .dead, .flat .dead, .flat .dead, .flat .dead, .flat .dead, .flat .dead, .flat .dead, .flat .dead, .flat .dead, .flat .dead, .flat .dead, .flat .dead, .flat .dead, .flat .dead, .flat .dead, .flat .dead, .flat .dead, .flat .dead, .flat .dead, .flat .dead, .flat .dead, .flat .dead, .flat .dead, .flat .dead, .flat .dead, .flat .dead, .flat .dead, .flat .dead, .flat .dead, .flat .dead, .flat .dead, .flat .dead, .flat .dead, .flat .dead, .flat .dead, .flat .dead, .flat .dead, .flat .dead, .flat .dead, .flat .dead, .flat .dead, .flat .dead, .flat .dead, .flat .dead, .flat .dead, .flat .dead]
def os_spec_l10One_0 : List (OP RT) := []
def conv_spec_l10One_0 (r : Raw den ps_spec_l10One_0 os_spec_l10One_0) : ((Sl S_impl_Node) × (Sl S_impl_Mail) × (Sl S_impl_Won) × (Sl S_impl_Seal)) × (Int) := ((r.1.1.1, r.1.1.2.1, r.1.1.2.2.1, r.1.1.2.2.2.1), r.1.2.2.2.1)
def back_spec_l10One_0 (c : (Sl S_impl_Node) × (Sl S_impl_Mail) × (Sl S_impl_Won) × (Sl S_impl_Seal)) (w : Int) : St RT den := ⟨[(.rptr [(.rs c.1.z .impl_Node c.1.n c.1.f), (.rs c.2.1.z .impl_Mail c.2.1.n c.2.1.f), (.rs c.2.2.1.z .impl_Won c.2.2.1.n c.2.2.1.f), (.rs c.2.2.2.z .impl_Seal c.2.2.2.n c.2.2.2.f)]), .dead, .dead, (.int .i64 w), .dead, .dead, .dead, .dead, .dead, .dead, .dead, .dead, .dead, .dead, .dead, .dead, .dead, .dead, .dead, .dead, .dead, .dead, .dead, .dead, .dead, .dead, .dead, .dead, .dead, .dead, .dead, .dead, .dead, .dead, .dead, .dead, .dead, .dead, .dead, .dead, .dead, .dead, .dead, .dead, .dead, .dead, .dead, .dead, .dead, .dead, .dead, .dead, .dead, .dead, .dead], []⟩
def Bk_spec_l10One_0 {ρ : Type} (fu : Nat) (c : (Sl S_impl_Node) × (Sl S_impl_Mail) × (Sl S_impl_Won) × (Sl S_impl_Seal)) (k : Ex → St RT den → Option ρ) (w : Int) (go : (Int) → Option ρ) : Option ρ := F_spec_l10One_B0 fu c.1 c.2.1 c.2.2.1 c.2.2.2 (k .ret ⟨[.dead, .dead, (.bool false), .dead, .dead, .dead, .dead, .dead, .dead, .dead, .dead, .dead, .dead, .dead, .dead, .dead, .dead, .dead, .dead, .dead, .dead, .dead, .dead, .dead, .dead, .dead, .dead, .dead, .dead, .dead, .dead, .dead, .dead, .dead, .dead, .dead, .dead, .dead, .dead, .dead, .dead, .dead, .dead, .dead, .dead, .dead, .dead, .dead, .dead, .dead, .dead, .dead, .dead, .dead, .dead], []⟩) (k (.exit 0) ⟨[.dead, .dead, .dead, .dead, .dead, .dead, .dead, .dead, .dead, .dead, .dead, .dead, .dead, .dead, .dead, .dead, .dead, .dead, .dead, .dead, .dead, .dead, .dead, .dead, .dead, .dead, .dead, .dead, .dead, .dead, .dead, .dead, .dead, .dead, .dead, .dead, .dead, .dead, .dead, .dead, .dead, .dead, .dead, .dead, .dead, .dead, .dead, .dead, .dead, .dead, .dead, .dead, .dead, .dead, .dead], []⟩) w go
def lp_spec_l10One (fu : Nat) : Lp RT den (Bool) := fun b s k => match b with | 0 => handle ps_spec_l10One_0 os_spec_l10One_0 conv_spec_l10One_0 (Bk_spec_l10One_0 fu) fu s k | 2 => handle ps_spec_l10One_2 os_spec_l10One_2 conv_spec_l10One_2 (Bk_spec_l10One_2 fu) fu s k | _ => none
theorem ev_spec_l10One (fu : Nat) (c_0 : S_impl_Cluster) : evFun E (pc_spec_l10One fu) msk_spec_l10One (lp_spec_l10One fu) out_b 60 [(.rptr [(.rs c_0.Nodes.z .impl_Node c_0.Nodes.n c_0.Nodes.f), (.rs c_0.Mails.z .impl_Mail c_0.Mails.n c_0.Mails.f), (.rs c_0.Wins.z .impl_Won c_0.Wins.n c_0.Wins.f), (.rs c_0.Seals.z .impl_Seal c_0.Seals.n c_0.Seals.f)])] = F_spec_l10One fu c_0 := by kernel_rfl
noncomputable def body_spec_l10One : Code := Try.f60.body.getD .skip
noncomputable def lc_spec_l10One_0 : Code := ((loops 0 body_spec_l10One).getD 0 (0, .skip)).2
theorem round_spec_l10One_0 (fu : Nat) (it : St RT den → Option (Bool)) (k : Ex → St RT den → Option (Bool)) c w : evCode E (pc_spec_l10One fu) msk_spec_l10One (lp_spec_l10One fu) 0 lc_spec_l10One_0 (back_spec_l10One_0 c w) (after (msk_spec_l10One 0) (msk_spec_l10One 100000) 0 it k) = Bk_spec_l10One_0 fu c k w (fun w => it (back_spec_l10One_0 c w)) := by kernel_rfl
theorem lpok_spec_l10One_0 (fu : Nat) : ∀ s k r, lp_spec_l10One fu 0 s k = some r → ∃ fuel, iter (msk_spec_l10One 0) (msk_spec_l10One 100000) s.objs.length (evCode E (pc_spec_l10One fu) msk_spec_l10One (lp_spec_l10One fu) 0 lc_spec_l10One_0) fuel s k = some r :=
  handle_ok (ps := ps_spec_l10One_0) (os := os_spec_l10One_0) (conv := conv_spec_l10One_0) (B := Bk_spec_l10One_0 fu) (fu := fu) back_spec_l10One_0 (fun raw => by kernel_rfl) 0 (fun c w => by kernel_rfl) (round_spec_l10One_0 fu)
noncomputable def lc_spec_l10One_2 : Code := ((loops 0 body_spec_l10One).getD 1 (0, .skip)).2
theorem round_spec_l10One_2 (fu : Nat) (it : St RT den → Option (Bool)) (k : Ex → St RT den → Option (Bool)) c w : evCode E (pc_spec_l10One fu) msk_spec_l10One (lp_spec_l10One fu) 2 lc_spec_l10One_2 (back_spec_l10One_2 c w) (after (msk_spec_l10One 2) (msk_spec_l10One 100002) 0 it k) = Bk_spec_l10One_2 fu c k w (fun w => it (back_spec_l10One_2 c w)) := by kernel_rfl
theorem lpok_spec_l10One_2 (fu : Nat) : ∀ s k r, lp_spec_l10One fu 2 s k = some r → ∃ fuel, iter (msk_spec_l10One 2) (msk_spec_l10One 100002) s.objs.length (evCode E (pc_spec_l10One fu) msk_spec_l10One (lp_spec_l10One fu) 2 lc_spec_l10One_2) fuel s k = some r :=
  handle_ok (ps := ps_spec_l10One_2) (os := os_spec_l10One_2) (conv := conv_spec_l10One_2) (B := Bk_spec_l10One_2 fu) (fu := fu) back_spec_l10One_2 (fun raw => by kernel_rfl) 0 (fun c w => by kernel_rfl) (round_spec_l10One_2 fu)
theorem lpok_spec_l10One (fu : Nat) : LpOk E (pc_spec_l10One fu) msk_spec_l10One (lp_spec_l10One fu) (loops 0 body_spec_l10One) := loop_all 2 (by kernel_rfl) fun i hi => match i, hi with
  | 0, _ => by
    have h : (loops 0 body_spec_l10One).getD 0 (0, .skip) = (0, lc_spec_l10One_0) := by kernel_rfl
    rw [h]; exact lpok_spec_l10One_0 fu
  | 1, _ => by
    have h : (loops 0 body_spec_l10One).getD 1 (0, .skip) = (2, lc_spec_l10One_2) := by kernel_rfl
    rw [h]; exact lpok_spec_l10One_2 fu
  | i + 2, hi => absurd hi (by omega)
def S_spec_l10One (fu : Nat) (xs : List (D RT den)) : Option (Out RT den) := match xs with | [.rptr [.rs za0_1 .impl_Node na0_1 fa0_1, .rs za0_2 .impl_Mail na0_2 fa0_2, .rs za0_3 .impl_Won na0_3 fa0_3, .rs za0_4 .impl_Seal na0_4 fa0_4]] => some ⟨Bool, F_spec_l10One fu (⟨(⟨za0_1, na0_1, fa0_1⟩ : (Sl S_impl_Node)), (⟨za0_2, na0_2, fa0_2⟩ : (Sl S_impl_Mail)), (⟨za0_3, na0_3, fa0_3⟩ : (Sl S_impl_Won)), (⟨za0_4, na0_4, fa0_4⟩ : (Sl S_impl_Seal))⟩ : S_impl_Cluster), enc_b, fun _ => true⟩ | _ => none
theorem hpc_spec_l10One (fu : Nat) : ∀ f xs o, pc_spec_l10One fu f xs = some o → ∀ y, o.x = some y → Good E Try.prog f xs (o.g y) := by
  intro f xs o h
  cases h
theorem goodv_spec_l10One (fu : Nat) (c_0 : S_impl_Cluster) (y : Bool) (hy : F_spec_l10One fu c_0 = some y) : Good E Try.prog 60 [(.rptr [(.rs c_0.Nodes.z .impl_Node c_0.Nodes.n c_0.Nodes.f), (.rs c_0.Mails.z .impl_Mail c_0.Mails.n c_0.Mails.f), (.rs c_0.Wins.z .impl_Won c_0.Wins.n c_0.Wins.f), (.rs c_0.Seals.z .impl_Seal c_0.Seals.n c_0.Seals.f)])] (enc_b y) :=
  fun_good E_ok (pc_good (hpc_spec_l10One fu)) (fn := Try.f60) (c := body_spec_l10One) (out := out_b) (y := y) (by kernel_rfl) (by kernel_rfl) (by kernel_rfl) (lpok_spec_l10One fu) (fun d hd => out_b_enc d _ hd) ((ev_spec_l10One fu c_0).trans hy)
theorem good_spec_l10One (fu : Nat) : ∀ xs o, S_spec_l10One fu xs = some o → ∀ y, o.x = some y → Good E Try.prog 60 xs (o.g y) := by
  intro xs o h y hy
  unfold S_spec_l10One at h
  split at h
  · rename_i za0_1 na0_1 fa0_1 za0_2 na0_2 fa0_2 za0_3 na0_3 fa0_3 za0_4 na0_4 fa0_4
    cases h
    exact goodv_spec_l10One fu (⟨(⟨za0_1, na0_1, fa0_1⟩ : (Sl S_impl_Node)), (⟨za0_2, na0_2, fa0_2⟩ : (Sl S_impl_Mail)), (⟨za0_3, na0_3, fa0_3⟩ : (Sl S_impl_Won)), (⟨za0_4, na0_4, fa0_4⟩ : (Sl S_impl_Seal))⟩ : S_impl_Cluster) y hy
  · cases h

/-! spec.OneLeader -/
def F_spec_OneLeader (fu : Nat) (c_0 : S_impl_Cluster) : Option (Bool) :=
  ((((F_spec_l9Fault fu c_0).bind fun y391 => (bif (y391 == 0) then ((F_spec_l10One fu c_0).bind fun y392 => (some y392)) else (some false))) : Option Bool).bind fun m393 => (some m393))
def pc_spec_OneLeader (fu : Nat) : Pc RT den := fun f xs => match f with | 48 => S_spec_l9Fault fu xs | 60 => S_spec_l10One fu xs | _ => none
def msk_spec_OneLeader (b : Nat) : List Nat := match b with | 200001 => [2] | _ => []
def lp_spec_OneLeader (fu : Nat) : Lp RT den (Bool) := fun b s k => none
theorem ev_spec_OneLeader (fu : Nat) (c_0 : S_impl_Cluster) : evFun E (pc_spec_OneLeader fu) msk_spec_OneLeader (lp_spec_OneLeader fu) out_b 25 [(.agg [(.rs c_0.Nodes.z .impl_Node c_0.Nodes.n c_0.Nodes.f), (.rs c_0.Mails.z .impl_Mail c_0.Mails.n c_0.Mails.f), (.rs c_0.Wins.z .impl_Won c_0.Wins.n c_0.Wins.f), (.rs c_0.Seals.z .impl_Seal c_0.Seals.n c_0.Seals.f)])] = F_spec_OneLeader fu c_0 := by kernel_rfl
noncomputable def body_spec_OneLeader : Code := Try.f25.body.getD .skip
theorem lpok_spec_OneLeader (fu : Nat) : LpOk E (pc_spec_OneLeader fu) msk_spec_OneLeader (lp_spec_OneLeader fu) (loops 0 body_spec_OneLeader) := by
  have h : loops 0 body_spec_OneLeader = [] := by kernel_rfl
  rw [h]; intro p hp; cases hp
def S_spec_OneLeader (fu : Nat) (xs : List (D RT den)) : Option (Out RT den) := match xs with | [.agg [.rs za0_1 .impl_Node na0_1 fa0_1, .rs za0_2 .impl_Mail na0_2 fa0_2, .rs za0_3 .impl_Won na0_3 fa0_3, .rs za0_4 .impl_Seal na0_4 fa0_4]] => some ⟨Bool, F_spec_OneLeader fu (⟨(⟨za0_1, na0_1, fa0_1⟩ : (Sl S_impl_Node)), (⟨za0_2, na0_2, fa0_2⟩ : (Sl S_impl_Mail)), (⟨za0_3, na0_3, fa0_3⟩ : (Sl S_impl_Won)), (⟨za0_4, na0_4, fa0_4⟩ : (Sl S_impl_Seal))⟩ : S_impl_Cluster), enc_b, fun _ => true⟩ | _ => none
theorem hpc_spec_OneLeader (fu : Nat) : ∀ f xs o, pc_spec_OneLeader fu f xs = some o → ∀ y, o.x = some y → Good E Try.prog f xs (o.g y) := by
  intro f xs o h
  unfold pc_spec_OneLeader at h
  split at h
  · exact good_spec_l9Fault fu xs o h
  · exact good_spec_l10One fu xs o h
  · cases h
theorem goodv_spec_OneLeader (fu : Nat) (c_0 : S_impl_Cluster) (y : Bool) (hy : F_spec_OneLeader fu c_0 = some y) : Good E Try.prog 25 [(.agg [(.rs c_0.Nodes.z .impl_Node c_0.Nodes.n c_0.Nodes.f), (.rs c_0.Mails.z .impl_Mail c_0.Mails.n c_0.Mails.f), (.rs c_0.Wins.z .impl_Won c_0.Wins.n c_0.Wins.f), (.rs c_0.Seals.z .impl_Seal c_0.Seals.n c_0.Seals.f)])] (enc_b y) :=
  fun_good E_ok (pc_good (hpc_spec_OneLeader fu)) (fn := Try.f25) (c := body_spec_OneLeader) (out := out_b) (y := y) (by kernel_rfl) (by kernel_rfl) (by kernel_rfl) (lpok_spec_OneLeader fu) (fun d hd => out_b_enc d _ hd) ((ev_spec_OneLeader fu c_0).trans hy)
theorem good_spec_OneLeader (fu : Nat) : ∀ xs o, S_spec_OneLeader fu xs = some o → ∀ y, o.x = some y → Good E Try.prog 25 xs (o.g y) := by
  intro xs o h y hy
  unfold S_spec_OneLeader at h
  split at h
  · rename_i za0_1 na0_1 fa0_1 za0_2 na0_2 fa0_2 za0_3 na0_3 fa0_3 za0_4 na0_4 fa0_4
    cases h
    exact goodv_spec_OneLeader fu (⟨(⟨za0_1, na0_1, fa0_1⟩ : (Sl S_impl_Node)), (⟨za0_2, na0_2, fa0_2⟩ : (Sl S_impl_Mail)), (⟨za0_3, na0_3, fa0_3⟩ : (Sl S_impl_Won)), (⟨za0_4, na0_4, fa0_4⟩ : (Sl S_impl_Seal))⟩ : S_impl_Cluster) y hy
  · cases h

/-! (*impl.Cluster).oneLeader -/
def F_impl_Cluster_oneLeader_B2 {ρ : Type} (fu : Nat) (c0_0 : (Sl S_impl_Node)) (c0_1 : (Sl S_impl_Mail)) (c0_2 : (Sl S_impl_Won)) (c0_3 : (Sl S_impl_Seal)) (t10_4 : (Sl S_impl_Won)) (t11_5 : Int) (t12_6 : Int) (t22_7 : (Sl S_impl_Won)) (t23_8 : Int) (o0_10 : Int) (o0_11 : Int) (k0 : Int → Int → Option ρ) (k1 : Option ρ) (t24_9 : Int) (go : Int → Option ρ) : Option ρ :=
  (bif (decide (t24_9 < t23_8)) then ((bif (decide (0 ≤ t24_9) && decide ((Int.toNat t24_9) < t22_7.n)) then some () else none : Option Unit).bind fun _ => (((bif (o0_10 == (t22_7.f (Int.toNat t24_9)).Term) then
    (some (o0_11 != (t22_7.f (Int.toNat t24_9)).Node)) else (some false)) : Option Bool).bind fun m398 => (bif m398 then (k0 (t22_7.f (Int.toNat t24_9)).Term (t22_7.f (Int.toNat t24_9)).Node) else
    (go (IntKind.wrap .i64 (t24_9 + 1)))))) else k1)
def F_impl_Cluster_oneLeader_B0 {ρ : Type} (fu : Nat) (c0_0 : (Sl S_impl_Node)) (c0_1 : (Sl S_impl_Mail)) (c0_2 : (Sl S_impl_Won)) (c0_3 : (Sl S_impl_Seal)) (t10_4 : (Sl S_impl_Won)) (t11_5 : Int) (k0 : Int → Int → Int → Int → Option ρ) (k1 : Option ρ) (t12_6 : Int) (go : Int → Option ρ) : Option ρ :=
  (bif (decide (t12_6 < t11_5)) then ((bif (decide (0 ≤ t12_6) && decide ((Int.toNat t12_6) < t10_4.n)) then some () else none : Option Unit).bind fun _ => ((bif (decide ((0 : Int) ≤ t12_6) &&
    decide ((Int.toNat t12_6) ≤ c0_2.n)) then some () else none : Option Unit).bind fun _ => (L (fun w2 go2 => F_impl_Cluster_oneLeader_B2 fu c0_0 c0_1 c0_2 c0_3 t10_4 t11_5 t12_6 (⟨c0_2.z,
    ((Int.toNat t12_6) - 0), (fun i => c0_2.f (0 + i))⟩ : (Sl S_impl_Won)) ((((Int.toNat t12_6) - 0) : Nat) : Int) ((t10_4.f (Int.toNat t12_6)).Term) ((t10_4.f (Int.toNat t12_6)).Node) (fun z399 z400 =>
    (k0 (t10_4.f (Int.toNat t12_6)).Term (t10_4.f (Int.toNat t12_6)).Node z399 z400)) ((go (IntKind.wrap .i64 (t12_6 + 1)))) w2 go2) fu (0 : Int)))) else k1)
def F_impl_Cluster_oneLeader (fu : Nat) (c_0 : S_impl_Cluster) : Option (Bool) :=
  (L (fun w0 go0 => F_impl_Cluster_oneLeader_B0 fu c_0.Nodes c_0.Mails c_0.Wins c_0.Seals c_0.Wins ((c_0.Wins.n : Nat) : Int) (fun z401 z402 z403 z404 => (some false)) (some true) w0 go0) fu (0 : Int))
def pc_impl_Cluster_oneLeader (fu : Nat) : Pc RT den := fun f xs => none
def msk_impl_Cluster_oneLeader (b : Nat) : List Nat := match b with | 0 => [1, 2, 3, 4, 5, 6, 7, 8, 9, 13, 14, 15, 16, 17, 18, 19, 20, 21, 22, 23, 24, 25, 26, 27, 28, 29, 30, 31, 32, 33, 34, 35, 36, 37, 38, 39, 40, 41] | 100000 => [0, 1, 3, 4, 5, 6, 7, 8, 9, 10, 11, 12, 13, 14, 15, 16, 17, 18, 19, 20, 21, 22, 23, 24, 25, 26, 27, 28, 29, 30, 31, 32, 33, 34, 35, 36, 37, 38, 39, 40, 41] | 2 => [1, 2, 3, 5, 6, 7, 8, 9, 13, 14, 15, 16, 17, 18, 19, 20, 21, 25, 26, 27, 28, 29, 30, 31, 32, 33, 34, 35, 36, 37, 38, 39, 40, 41] | 100002 => [1, 3, 4, 5, 6, 7, 8, 9, 13, 14, 15, 16, 17, 18, 19, 20, 21, 22, 23, 24, 25, 26, 27, 28, 29, 30, 31, 32, 33, 34, 35, 36, 37, 38, 39, 40, 41] | 200007 => [39] | _ => []
def ps_impl_Cluster_oneLeader_2 : List (Pat RT) := [.rptr [(.rs .impl_Node), (.rs .impl_Mail), (.rs .impl_Won), (.rs .impl_Seal)], .flat .dead, .flat .dead, .flat .dead, .flat (.ref 0 0), .flat .dead, .flat .dead, .flat .dead, .flat .dead, .flat .dead, .flat (.rs .impl_Won), .flat (.int .i64), .flat (.int .i64), .flat .dead, .flat .dead, .flat .dead, .flat .dead, .flat .dead, .flat .dead, .flat .dead, .flat .dead, .flat .dead, .flat (.rs .impl_Won), .flat (.int .i64), .flat (.int .i64), .flat .dead, .flat .dead, .flat .dead, .flat .dead, .flat .dead, .flat .dead, .flat .dead, .flat .dead, .flat .dead, .flat .dead, .flat .dead, .flat .dead, .flat .dead, .flat .dead, .flat .dead, .flat .dead, .flat .dead]
def os_impl_Cluster_oneLeader_2 : List (OP RT) := [.box [(.int .i64), (.int .i64)]]
def conv_impl_Cluster_oneLeader_2 (r : Raw den ps_impl_Cluster_oneLeader_2 os_impl_Cluster_oneLeader_2) : ((Sl S_impl_Node) × (Sl S_impl_Mail) × (Sl S_impl_Won) × (Sl S_impl_Seal) × (Sl S_impl_Won) × Int × Int × (Sl S_impl_Won) × Int × Int × Int) × (Int) := ((r.1.1.1, r.1.1.2.1, r.1.1.2.2.1, r.1.1.2.2.2.1, r.1.2.2.2.2.2.2.2.2.2.2.1, r.1.2.2.2.2.2.2.2.2.2.2.2.1, r.1.2.2.2.2.2.2.2.2.2.2.2.2.1, r.1.2.2.2.2.2.2.2.2.2.2.2.2.2.2.2.2.2.2.2.2.2.2.1, r.1.2.2.2.2.2.2.2.2.2.2.2.2.2.2.2.2.2.2.2.2.2.2.2.1, r.2.1.1, r.2.1.2.1), r.1.2.2.2.2.2.2.2.2.2.2.2.2.2.2.2.2.2.2.2.2.2.2.2.2.1)
def back_impl_Cluster_oneLeader_2 (c : (Sl S_impl_Node) × (Sl S_impl_Mail) × (Sl S_impl_Won) × (Sl S_impl_Seal) × (Sl S_impl_Won) × Int × Int × (Sl S_impl_Won) × Int × Int × Int) (w : Int) : St RT den := ⟨[(.rptr [(.rs c.1.z .impl_Node c.1.n c.1.f), (.rs c.2.1.z .impl_Mail c.2.1.n c.2.1.f), (.rs c.2.2.1.z .impl_Won c.2.2.1.n c.2.2.1.f), (.rs c.2.2.2.1.z .impl_Seal c.2.2.2.1.n c.2.2.2.1.f)]), .dead, .dead, .dead, (.ref 0 0), .dead, .dead, .dead, .dead, .dead, (.rs c.2.2.2.2.1.z .impl_Won c.2.2.2.2.1.n c.2.2.2.2.1.f), (.int .i64 c.2.2.2.2.2.1), (.int .i64 c.2.2.2.2.2.2.1), .dead, .dead, .dead, .dead, .dead, .dead, .dead, .dead, .dead, (.rs c.2.2.2.2.2.2.2.1.z .impl_Won c.2.2.2.2.2.2.2.1.n c.2.2.2.2.2.2.2.1.f), (.int .i64 c.2.2.2.2.2.2.2.2.1), (.int .i64 w), .dead, .dead, .dead, .dead, .dead, .dead, .dead, .dead, .dead, .dead, .dead, .dead, .dead, .dead, .dead, .dead, .dead], [(.box [(.int .i64 c.2.2.2.2.2.2.2.2.2.1), (.int .i64 c.2.2.2.2.2.2.2.2.2.2)])]⟩
def Bk_impl_Cluster_oneLeader_2 {ρ : Type} (fu : Nat) (c : (Sl S_impl_Node) × (Sl S_impl_Mail) × (Sl S_impl_Won) × (Sl S_impl_Seal) × (Sl S_impl_Won) × Int × Int × (Sl S_impl_Won) × Int × Int × Int) (k : Ex → St RT den → Option ρ) (w : Int) (go : (Int) → Option ρ) : Option ρ := F_impl_Cluster_oneLeader_B2 fu c.1 c.2.1 c.2.2.1 c.2.2.2.1 c.2.2.2.2.1 c.2.2.2.2.2.1 c.2.2.2.2.2.2.1 c.2.2.2.2.2.2.2.1 c.2.2.2.2.2.2.2.2.1 c.2.2.2.2.2.2.2.2.2.1 c.2.2.2.2.2.2.2.2.2.2 (fun a0 a1 => k .ret ⟨[(.rptr [(.rs c.1.z .impl_Node c.1.n c.1.f), (.rs c.2.1.z .impl_Mail c.2.1.n c.2.1.f), (.rs c.2.2.1.z .impl_Won c.2.2.1.n c.2.2.1.f), (.rs c.2.2.2.1.z .impl_Seal c.2.2.2.1.n c.2.2.2.1.f)]), .dead, (.bool false), .dead, .dead, .dead, .dead, .dead, .dead, .dead, (.rs c.2.2.2.2.1.z .impl_Won c.2.2.2.2.1.n c.2.2.2.2.1.f), (.int .i64 c.2.2.2.2.2.1), (.int .i64 c.2.2.2.2.2.2.1), .dead, .dead, .dead, .dead, .dead, .dead, .dead, .dead, .dead, .dead, .dead, .dead, .dead, .dead, .dead, .dead, .dead, .dead, .dead, .dead, .dead, .dead, .dead, .dead, .dead, .dead, .dead, .dead, .dead], [(.box [(.int .i64 c.2.2.2.2.2.2.2.2.2.1), (.int .i64 c.2.2.2.2.2.2.2.2.2.2)]), (.box [(.int .i64 a0), (.int .i64 a1)])]⟩) (k (.exit 2) ⟨[(.rptr [(.rs c.1.z .impl_Node c.1.n c.1.f), (.rs c.2.1.z .impl_Mail c.2.1.n c.2.1.f), (.rs c.2.2.1.z .impl_Won c.2.2.1.n c.2.2.1.f), (.rs c.2.2.2.1.z .impl_Seal c.2.2.2.1.n c.2.2.2.1.f)]), .dead, .dead, .dead, .dead, .dead, .dead, .dead, .dead, .dead, (.rs c.2.2.2.2.1.z .impl_Won c.2.2.2.2.1.n c.2.2.2.2.1.f), (.int .i64 c.2.2.2.2.2.1), (.int .i64 c.2.2.2.2.2.2.1), .dead, .dead, .dead, .dead, .dead, .dead, .dead, .dead, .dead, .dead, .dead, .dead, .dead, .dead, .dead, .dead, .dead, .dead, .dead, .dead, .dead, .dead, .dead, .dead, .dead, .dead, .dead, .dead, .dead], [(.box [(.int .i64 c.2.2.2.2.2.2.2.2.2.1), (.int .i64 c.2.2.2.2.2.2.2.2.2.2)])]⟩) w go
def ps_impl_Cluster_oneLeader_0 : List (Pat RT) := [.rptr [(.rs .impl_Node), (.rs .impl_Mail), (.rs .impl_Won), (.rs .impl_Seal)], .flat .dead, .flat .dead, .flat .dead, .flat .dead, .flat .dead, .flat .dead, .flat .dead, .flat .dead, .flat .dead, .flat (.rs .impl_Won), .flat (.int .i64), .flat (.int .i64), .flat .dead, .flat .dead, .flat .dead, .flat .dead, .flat .dead, .flat .dead, .flat .dead, .flat .dead, .flat .dead, .flat .dead, .flat .dead, .flat .dead, .flat .dead, .flat .dead, .flat .dead, .flat .dead, .flat .dead, .flat .dead, .flat .dead, .flat .dead, .flat .dead, .flat .dead, .flat .dead, .flat .dead, .flat .dead, .flat .dead, .flat .dead, .flat .dead, .flat .dead]
def os_impl_Cluster_oneLeader_0 : List (OP RT) := []
def conv_impl_Cluster_oneLeader_0 (r : Raw den ps_impl_Cluster_oneLeader_0 os_impl_Cluster_oneLeader_0) : ((Sl S_impl_Node) × (Sl S_impl_Mail) × (Sl S_impl_Won) × (Sl S_impl_Seal) × (Sl S_impl_Won) × Int) × (Int) := ((r.1.1.1, r.1.1.2.1, r.1.1.2.2.1, r.1.1.2.2.2.1, r.1.2.2.2.2.2.2.2.2.2.2.1, r.1.2.2.2.2.2.2.2.2.2.2.2.1), r.1.2.2.2.2.2.2.2.2.2.2.2.2.1)
def back_impl_Cluster_oneLeader_0 (c : (Sl S_impl_Node) × (Sl S_impl_Mail) × (Sl S_impl_Won) × (Sl S_impl_Seal) × (Sl S_impl_Won) × Int) (w : Int) : St RT den := ⟨[(.rptr [(.rs c.1.z .impl_Node c.1.n c.1.f), (.rs c.2.1.z .impl_Mail c.2.1.n c.2.1.f), (.rs c.2.2.1.z .impl_Won c.2.2.1.n c.2.2.1.f), (.rs c.2.2.2.1.z .impl_Seal c.2.2.2.1.n c.2.2.2.1.f)]), .dead, .dead, .dead, .dead, .dead, .dead, .dead, .dead, .dead, (.rs c.2.2.2.2.1.z .impl_Won c.2.2.2.2.1.n c.2.2.2.2.1.f), (.int .i64 c.2.2.2.2.2), (.int .i64 w), .dead, .dead, .dead, .dead, .dead, .dead, .dead, .dead, .dead, .dead, .dead, .dead, .dead, .dead, .dead, .dead, .dead, .dead, .dead, .dead, .dead, .dead, .dead, .dead, .dead, .dead, .dead, .dead, .dead], []⟩
def Bk_impl_Cluster_oneLeader_0 {ρ : Type} (fu : Nat) (c : (Sl S_impl_Node) × (Sl S_impl_Mail) × (Sl S_impl_Won) × (Sl S_impl_Seal) × (Sl S_impl_Won) × Int) (k : Ex → St RT den → Option ρ) (w : Int) (go : (Int) → Option ρ) : Option ρ := F_impl_Cluster_oneLeader_B0 fu c.1 c.2.1 c.2.2.1 c.2.2.2.1 c.2.2.2.2.1 c.2.2.2.2.2 (fun a0 a1 a2 a3 => k .ret ⟨[.dead, .dead, (.bool false), .dead, .dead, .dead, .dead, .dead, .dead, .dead, .dead, .dead, .dead, .dead, .dead, .dead, .dead, .dead, .dead, .dead, .dead, .dead, .dead, .dead, .dead, .dead, .dead, .dead, .dead, .dead, .dead, .dead, .dead, .dead, .dead, .dead, .dead, .dead, .dead, .dead, .dead, .dead], [(.box [(.int .i64 a0), (.int .i64 a1)]), (.box [(.int .i64 a2), (.int .i64 a3)])]⟩) (k (.exit 0) ⟨[.dead, .dead, .dead, .dead, .dead, .dead, .dead, .dead, .dead, .dead, .dead, .dead, .dead, .dead, .dead, .dead, .dead, .dead, .dead, .dead, .dead, .dead, .dead, .dead, .dead, .dead, .dead, .dead, .dead, .dead, .dead, .dead, .dead, .dead, .dead, .dead, .dead, .dead, .dead, .dead, .dead, .dead], []⟩) w go
def lp_impl_Cluster_oneLeader (fu : Nat) : Lp RT den (Bool) := fun b s k => match b with | 0 => handle ps_impl_Cluster_oneLeader_0 os_impl_Cluster_oneLeader_0 conv_impl_Cluster_oneLeader_0 (Bk_impl_Cluster_oneLeader_0 fu) fu s k | 2 => handle ps_impl_Cluster_oneLeader_2 os_impl_Cluster_oneLeader_2 conv_impl_Cluster_oneLeader_2 (Bk_impl_Cluster_oneLeader_2 fu) fu s k | _ => none
theorem ev_impl_Cluster_oneLeader (fu : Nat) (c_0 : S_impl_Cluster) : evFun E (pc_impl_Cluster_oneLeader fu) msk_impl_Cluster_oneLeader (lp_impl_Cluster_oneLeader fu) out_b 61 [(.rptr [(.rs c_0.Nodes.z .impl_Node c_0.Nodes.n c_0.Nodes.f), (.rs c_0.Mails.z .impl_Mail c_0.Mails.n c_0.Mails.f), (.rs c_0.Wins.z .impl_Won c_0.Wins.n c_0.Wins.f), (.rs c_0.Seals.z .impl_Seal c_0.Seals.n c_0.Seals.f)])] = F_impl_Cluster_oneLeader fu c_0 := by kernel_rfl
noncomputable def body_impl_Cluster_oneLeader : Code := Try.f61.body.getD .skip
noncomputable def lc_impl_Cluster_oneLeader_0 : Code := ((loops 0 body_impl_Cluster_oneLeader).getD 0 (0, .skip)).2
theorem round_impl_Cluster_oneLeader_0 (fu : Nat) (it : St RT den → Option (Bool)) (k : Ex → St RT den → Option (Bool)) c w : evCode E (pc_impl_Cluster_oneLeader fu) msk_impl_Cluster_oneLeader (lp_impl_Cluster_oneLeader fu) 0 lc_impl_Cluster_oneLeader_0 (back_impl_Cluster_oneLeader_0 c w) (after (msk_impl_Cluster_oneLeader 0) (msk_impl_Cluster_oneLeader 100000) 0 it k) = Bk_impl_Cluster_oneLeader_0 fu c k w (fun w => it (back_impl_Cluster_oneLeader_0 c w)) := by kernel_rfl
theorem lpok_impl_Cluster_oneLeader_0 (fu : Nat) : ∀ s k r, lp_impl_Cluster_oneLeader fu 0 s k = some r → ∃ fuel, iter (msk_impl_Cluster_oneLeader 0) (msk_impl_Cluster_oneLeader 100000) s.objs.length (evCode E (pc_impl_Cluster_oneLeader fu) msk_impl_Cluster_oneLeader (lp_impl_Cluster_oneLeader fu) 0 lc_impl_Cluster_oneLeader_0) fuel s k = some r :=
  handle_ok (ps := ps_impl_Cluster_oneLeader_0) (os := os_impl_Cluster_oneLeader_0) (conv := conv_impl_Cluster_oneLeader_0) (B := Bk_impl_Cluster_oneLeader_0 fu) (fu := fu) back_impl_Cluster_oneLeader_0 (fun raw => by kernel_rfl) 0 (fun c w => by kernel_rfl) (round_impl_Cluster_oneLeader_0 fu)
noncomputable def lc_impl_Cluster_oneLeader_2 : Code := ((loops 0 body_impl_Cluster_oneLeader).getD 1 (0, .skip)).2
theorem round_impl_Cluster_oneLeader_2 (fu : Nat) (it : St RT den → Option (Bool)) (k : Ex → St RT den → Option (Bool)) c w : evCode E (pc_impl_Cluster_oneLeader fu) msk_impl_Cluster_oneLeader (lp_impl_Cluster_oneLeader fu) 2 lc_impl_Cluster_oneLeader_2 (back_impl_Cluster_oneLeader_2 c w) (after (msk_impl_Cluster_oneLeader 2) (msk_impl_Cluster_oneLeader 100002) 1 it k) = Bk_impl_Cluster_oneLeader_2 fu c k w (fun w => it (back_impl_Cluster_oneLeader_2 c w)) := by kernel_rfl
theorem lpok_impl_Cluster_oneLeader_2 (fu : Nat) : ∀ s k r, lp_impl_Cluster_oneLeader fu 2 s k = some r → ∃ fuel, iter (msk_impl_Cluster_oneLeader 2) (msk_impl_Cluster_oneLeader 100002) s.objs.length (evCode E (pc_impl_Cluster_oneLeader fu) msk_impl_Cluster_oneLeader (lp_impl_Cluster_oneLeader fu) 2 lc_impl_Cluster_oneLeader_2) fuel s k = some r :=
  handle_ok (ps := ps_impl_Cluster_oneLeader_2) (os := os_impl_Cluster_oneLeader_2) (conv := conv_impl_Cluster_oneLeader_2) (B := Bk_impl_Cluster_oneLeader_2 fu) (fu := fu) back_impl_Cluster_oneLeader_2 (fun raw => by kernel_rfl) 1 (fun c w => by kernel_rfl) (round_impl_Cluster_oneLeader_2 fu)
theorem lpok_impl_Cluster_oneLeader (fu : Nat) : LpOk E (pc_impl_Cluster_oneLeader fu) msk_impl_Cluster_oneLeader (lp_impl_Cluster_oneLeader fu) (loops 0 body_impl_Cluster_oneLeader) := loop_all 2 (by kernel_rfl) fun i hi => match i, hi with
  | 0, _ => by
    have h : (loops 0 body_impl_Cluster_oneLeader).getD 0 (0, .skip) = (0, lc_impl_Cluster_oneLeader_0) := by kernel_rfl
    rw [h]; exact lpok_impl_Cluster_oneLeader_0 fu
  | 1, _ => by
    have h : (loops 0 body_impl_Cluster_oneLeader).getD 1 (0, .skip) = (2, lc_impl_Cluster_oneLeader_2) := by kernel_rfl
    rw [h]; exact lpok_impl_Cluster_oneLeader_2 fu
  | i + 2, hi => absurd hi (by omega)
def S_impl_Cluster_oneLeader (fu : Nat) (xs : List (D RT den)) : Option (Out RT den) := match xs with | [.rptr [.rs za0_1 .impl_Node na0_1 fa0_1, .rs za0_2 .impl_Mail na0_2 fa0_2, .rs za0_3 .impl_Won na0_3 fa0_3, .rs za0_4 .impl_Seal na0_4 fa0_4]] => some ⟨Bool, F_impl_Cluster_oneLeader fu (⟨(⟨za0_1, na0_1, fa0_1⟩ : (Sl S_impl_Node)), (⟨za0_2, na0_2, fa0_2⟩ : (Sl S_impl_Mail)), (⟨za0_3, na0_3, fa0_3⟩ : (Sl S_impl_Won)), (⟨za0_4, na0_4, fa0_4⟩ : (Sl S_impl_Seal))⟩ : S_impl_Cluster), enc_b, fun _ => true⟩ | _ => none
theorem hpc_impl_Cluster_oneLeader (fu : Nat) : ∀ f xs o, pc_impl_Cluster_oneLeader fu f xs = some o → ∀ y, o.x = some y → Good E Try.prog f xs (o.g y) := by
  intro f xs o h
  cases h
theorem goodv_impl_Cluster_oneLeader (fu : Nat) (c_0 : S_impl_Cluster) (y : Bool) (hy : F_impl_Cluster_oneLeader fu c_0 = some y) : Good E Try.prog 61 [(.rptr [(.rs c_0.Nodes.z .impl_Node c_0.Nodes.n c_0.Nodes.f), (.rs c_0.Mails.z .impl_Mail c_0.Mails.n c_0.Mails.f), (.rs c_0.Wins.z .impl_Won c_0.Wins.n c_0.Wins.f), (.rs c_0.Seals.z .impl_Seal c_0.Seals.n c_0.Seals.f)])] (enc_b y) :=
  fun_good E_ok (pc_good (hpc_impl_Cluster_oneLeader fu)) (fn := Try.f61) (c := body_impl_Cluster_oneLeader) (out := out_b) (y := y) (by kernel_rfl) (by kernel_rfl) (by kernel_rfl) (lpok_impl_Cluster_oneLeader fu) (fun d hd => out_b_enc d _ hd) ((ev_impl_Cluster_oneLeader fu c_0).trans hy)
theorem good_impl_Cluster_oneLeader (fu : Nat) : ∀ xs o, S_impl_Cluster_oneLeader fu xs = some o → ∀ y, o.x = some y → Good E Try.prog 61 xs (o.g y) := by
  intro xs o h y hy
  unfold S_impl_Cluster_oneLeader at h
  split at h
  · rename_i za0_1 na0_1 fa0_1 za0_2 na0_2 fa0_2 za0_3 na0_3 fa0_3 za0_4 na0_4 fa0_4
    cases h
    exact goodv_impl_Cluster_oneLeader fu (⟨(⟨za0_1, na0_1, fa0_1⟩ : (Sl S_impl_Node)), (⟨za0_2, na0_2, fa0_2⟩ : (Sl S_impl_Mail)), (⟨za0_3, na0_3, fa0_3⟩ : (Sl S_impl_Won)), (⟨za0_4, na0_4, fa0_4⟩ : (Sl S_impl_Seal))⟩ : S_impl_Cluster) y hy
  · cases h

/-! impl.OneLeader -/
def F_impl_OneLeader (fu : Nat) (c_0 : S_impl_Cluster) : Option (Bool) :=
  ((((F_impl_ClusterFault fu c_0).bind fun y395 => (bif (y395 == 0) then ((F_impl_Cluster_oneLeader fu c_0).bind fun y396 => (some y396)) else (some false))) : Option Bool).bind fun m397 =>
    (some m397))
def pc_impl_OneLeader (fu : Nat) : Pc RT den := fun f xs => match f with | 23 => S_impl_ClusterFault fu xs | 61 => S_impl_Cluster_oneLeader fu xs | _ => none
def msk_impl_OneLeader (b : Nat) : List Nat := match b with | 200001 => [2] | _ => []
def lp_impl_OneLeader (fu : Nat) : Lp RT den (Bool) := fun b s k => none
theorem ev_impl_OneLeader (fu : Nat) (c_0 : S_impl_Cluster) : evFun E (pc_impl_OneLeader fu) msk_impl_OneLeader (lp_impl_OneLeader fu) out_b 26 [(.agg [(.rs c_0.Nodes.z .impl_Node c_0.Nodes.n c_0.Nodes.f), (.rs c_0.Mails.z .impl_Mail c_0.Mails.n c_0.Mails.f), (.rs c_0.Wins.z .impl_Won c_0.Wins.n c_0.Wins.f), (.rs c_0.Seals.z .impl_Seal c_0.Seals.n c_0.Seals.f)])] = F_impl_OneLeader fu c_0 := by kernel_rfl
noncomputable def body_impl_OneLeader : Code := Try.f26.body.getD .skip
theorem lpok_impl_OneLeader (fu : Nat) : LpOk E (pc_impl_OneLeader fu) msk_impl_OneLeader (lp_impl_OneLeader fu) (loops 0 body_impl_OneLeader) := by
  have h : loops 0 body_impl_OneLeader = [] := by kernel_rfl
  rw [h]; intro p hp; cases hp
def S_impl_OneLeader (fu : Nat) (xs : List (D RT den)) : Option (Out RT den) := match xs with | [.agg [.rs za0_1 .impl_Node na0_1 fa0_1, .rs za0_2 .impl_Mail na0_2 fa0_2, .rs za0_3 .impl_Won na0_3 fa0_3, .rs za0_4 .impl_Seal na0_4 fa0_4]] => some ⟨Bool, F_impl_OneLeader fu (⟨(⟨za0_1, na0_1, fa0_1⟩ : (Sl S_impl_Node)), (⟨za0_2, na0_2, fa0_2⟩ : (Sl S_impl_Mail)), (⟨za0_3, na0_3, fa0_3⟩ : (Sl S_impl_Won)), (⟨za0_4, na0_4, fa0_4⟩ : (Sl S_impl_Seal))⟩ : S_impl_Cluster), enc_b, fun _ => true⟩ | _ => none
theorem hpc_impl_OneLeader (fu : Nat) : ∀ f xs o, pc_impl_OneLeader fu f xs = some o → ∀ y, o.x = some y → Good E Try.prog f xs (o.g y) := by
  intro f xs o h
  unfold pc_impl_OneLeader at h
  split at h
  · exact good_impl_ClusterFault fu xs o h
  · exact good_impl_Cluster_oneLeader fu xs o h
  · cases h
theorem goodv_impl_OneLeader (fu : Nat) (c_0 : S_impl_Cluster) (y : Bool) (hy : F_impl_OneLeader fu c_0 = some y) : Good E Try.prog 26 [(.agg [(.rs c_0.Nodes.z .impl_Node c_0.Nodes.n c_0.Nodes.f), (.rs c_0.Mails.z .impl_Mail c_0.Mails.n c_0.Mails.f), (.rs c_0.Wins.z .impl_Won c_0.Wins.n c_0.Wins.f), (.rs c_0.Seals.z .impl_Seal c_0.Seals.n c_0.Seals.f)])] (enc_b y) :=
  fun_good E_ok (pc_good (hpc_impl_OneLeader fu)) (fn := Try.f26) (c := body_impl_OneLeader) (out := out_b) (y := y) (by kernel_rfl) (by kernel_rfl) (by kernel_rfl) (lpok_impl_OneLeader fu) (fun d hd => out_b_enc d _ hd) ((ev_impl_OneLeader fu c_0).trans hy)
theorem good_impl_OneLeader (fu : Nat) : ∀ xs o, S_impl_OneLeader fu xs = some o → ∀ y, o.x = some y → Good E Try.prog 26 xs (o.g y) := by
  intro xs o h y hy
  unfold S_impl_OneLeader at h
  split at h
  · rename_i za0_1 na0_1 fa0_1 za0_2 na0_2 fa0_2 za0_3 na0_3 fa0_3 za0_4 na0_4 fa0_4
    cases h
    exact goodv_impl_OneLeader fu (⟨(⟨za0_1, na0_1, fa0_1⟩ : (Sl S_impl_Node)), (⟨za0_2, na0_2, fa0_2⟩ : (Sl S_impl_Mail)), (⟨za0_3, na0_3, fa0_3⟩ : (Sl S_impl_Won)), (⟨za0_4, na0_4, fa0_4⟩ : (Sl S_impl_Seal))⟩ : S_impl_Cluster) y hy
  · cases h

/-! laws.FnExactOneLeader -/
def F_laws_FnExactOneLeader (fu : Nat) (aC_0 : S_laws_Cluster) : Option (Bool) :=
  ((F_laws_szCluster fu aC_0 1048576).bind fun y384 => (bif (decide (y384 < 0)) then (some true) else ((F_laws_toCluster fu aC_0).bind fun y385 => ((F_spec_OneLeader fu y385).bind fun y386 =>
    ((F_laws_toCluster fu aC_0).bind fun y387 => ((F_impl_OneLeader fu y387).bind fun y388 => (bif (!(y388 == y386)) then (some false) else ((F_laws_toCluster fu aC_0).bind fun y389 =>
    ((F_laws_eqCluster fu y387 y389).bind fun y390 => (bif (!y390) then (some false) else (some true)))))))))))
def pc_laws_FnExactOneLeader (fu : Nat) : Pc RT den := fun f xs => match f with | 20 => S_laws_szCluster fu xs | 22 => S_laws_toCluster fu xs | 24 => S_laws_eqCluster fu xs | 25 => S_spec_OneLeader fu xs | 26 => S_impl_OneLeader fu xs | _ => none
def msk_laws_FnExactOneLeader (b : Nat) : List Nat := []
def lp_laws_FnExactOneLeader (fu : Nat) : Lp RT den (Bool) := fun b s k => none
theorem ev_laws_FnExactOneLeader (fu : Nat) (aC_0 : S_laws_Cluster) : evFun E (pc_laws_FnExactOneLeader fu) msk_laws_FnExactOneLeader (lp_laws_FnExactOneLeader fu) out_b 6 [(.agg [(.rs aC_0.Nodes.z .laws_Node aC_0.Nodes.n aC_0.Nodes.f), (.rs aC_0.Mails.z .laws_Mail aC_0.Mails.n aC_0.Mails.f), (.rs aC_0.Wins.z .impl_Won aC_0.Wins.n aC_0.Wins.f), (.rs aC_0.Seals.z .laws_Seal aC_0.Seals.n aC_0.Seals.f)])] = F_laws_FnExactOneLeader fu aC_0 := by kernel_rfl
noncomputable def body_laws_FnExactOneLeader : Code := Try.f6.body.getD .skip
theorem lpok_laws_FnExactOneLeader (fu : Nat) : LpOk E (pc_laws_FnExactOneLeader fu) msk_laws_FnExactOneLeader (lp_laws_FnExactOneLeader fu) (loops 0 body_laws_FnExactOneLeader) := by
  have h : loops 0 body_laws_FnExactOneLeader = [] := by kernel_rfl
  rw [h]; intro p hp; cases hp
def S_laws_FnExactOneLeader (fu : Nat) (xs : List (D RT den)) : Option (Out RT den) := match xs with | [.agg [.rs za0_1 .laws_Node na0_1 fa0_1, .rs za0_2 .laws_Mail na0_2 fa0_2, .rs za0_3 .impl_Won na0_3 fa0_3, .rs za0_4 .laws_Seal na0_4 fa0_4]] => some ⟨Bool, F_laws_FnExactOneLeader fu (⟨(⟨za0_1, na0_1, fa0_1⟩ : (Sl S_laws_Node)), (⟨za0_2, na0_2, fa0_2⟩ : (Sl S_laws_Mail)), (⟨za0_3, na0_3, fa0_3⟩ : (Sl S_impl_Won)), (⟨za0_4, na0_4, fa0_4⟩ : (Sl S_laws_Seal))⟩ : S_laws_Cluster), enc_b, fun _ => true⟩ | _ => none
theorem hpc_laws_FnExactOneLeader (fu : Nat) : ∀ f xs o, pc_laws_FnExactOneLeader fu f xs = some o → ∀ y, o.x = some y → Good E Try.prog f xs (o.g y) := by
  intro f xs o h
  unfold pc_laws_FnExactOneLeader at h
  split at h
  · exact good_laws_szCluster fu xs o h
  · exact good_laws_toCluster fu xs o h
  · exact good_laws_eqCluster fu xs o h
  · exact good_spec_OneLeader fu xs o h
  · exact good_impl_OneLeader fu xs o h
  · cases h
theorem goodv_laws_FnExactOneLeader (fu : Nat) (aC_0 : S_laws_Cluster) (y : Bool) (hy : F_laws_FnExactOneLeader fu aC_0 = some y) : Good E Try.prog 6 [(.agg [(.rs aC_0.Nodes.z .laws_Node aC_0.Nodes.n aC_0.Nodes.f), (.rs aC_0.Mails.z .laws_Mail aC_0.Mails.n aC_0.Mails.f), (.rs aC_0.Wins.z .impl_Won aC_0.Wins.n aC_0.Wins.f), (.rs aC_0.Seals.z .laws_Seal aC_0.Seals.n aC_0.Seals.f)])] (enc_b y) :=
  fun_good E_ok (pc_good (hpc_laws_FnExactOneLeader fu)) (fn := Try.f6) (c := body_laws_FnExactOneLeader) (out := out_b) (y := y) (by kernel_rfl) (by kernel_rfl) (by kernel_rfl) (lpok_laws_FnExactOneLeader fu) (fun d hd => out_b_enc d _ hd) ((ev_laws_FnExactOneLeader fu aC_0).trans hy)
theorem good_laws_FnExactOneLeader (fu : Nat) : ∀ xs o, S_laws_FnExactOneLeader fu xs = some o → ∀ y, o.x = some y → Good E Try.prog 6 xs (o.g y) := by
  intro xs o h y hy
  unfold S_laws_FnExactOneLeader at h
  split at h
  · rename_i za0_1 na0_1 fa0_1 za0_2 na0_2 fa0_2 za0_3 na0_3 fa0_3 za0_4 na0_4 fa0_4
    cases h
    exact goodv_laws_FnExactOneLeader fu (⟨(⟨za0_1, na0_1, fa0_1⟩ : (Sl S_laws_Node)), (⟨za0_2, na0_2, fa0_2⟩ : (Sl S_laws_Mail)), (⟨za0_3, na0_3, fa0_3⟩ : (Sl S_impl_Won)), (⟨za0_4, na0_4, fa0_4⟩ : (Sl S_laws_Seal))⟩ : S_laws_Cluster) y hy
  · cases h

/-! spec.l10Have -/
def F_spec_l10Have_B2 {ρ : Type} (fu : Nat) (c0_0 : (Sl S_impl_Node)) (c0_1 : (Sl S_impl_Mail)) (c0_2 : (Sl S_impl_Won)) (c0_3 : (Sl S_impl_Seal)) (i3_4 : Int) (n4_5 : Int) (n4_6 : Int) (n4_7 : Int) (n4_8 : Int) (n4_9 : (Sl S_impl_Entry)) (n4_10 : Int) (n4_11 : Int) (n4_12 : (Sl Int)) (n4_13 : (Sl Int)) (n4_14 : (Sl Int)) (k0 : Option ρ) (k1 : Option ρ) (k5_15 : Int) (go : Int → Option ρ) : Option ρ :=
  (bif (decide (k5_15 < ((c0_3.n : Nat) : Int))) then ((((bif (decide (0 ≤ k5_15) && decide ((Int.toNat k5_15) < c0_3.n)) then some () else none : Option Unit).bind fun _ => (bif (decide ((c0_3.f (Int.toNat k5_15)).Term ≤ n4_7)) then
    (bif (decide (k5_15 ≥ ((n4_9.n : Nat) : Int))) then (some true) else ((bif (decide (0 ≤ k5_15) && decide ((Int.toNat k5_15) < n4_9.n)) then some () else none : Option Unit).bind fun _ =>
    ((bif (decide (0 ≤ k5_15) && decide ((Int.toNat k5_15) < c0_3.n)) then some () else none : Option Unit).bind fun _ => (some (!(((n4_9.f (Int.toNat k5_15)).Term == (c0_3.f (Int.toNat k5_15)).Entry.Term) &&
    (((n4_9.f (Int.toNat k5_15)).Client == (c0_3.f (Int.toNat k5_15)).Entry.Client) && (((n4_9.f (Int.toNat k5_15)).Seq == (c0_3.f (Int.toNat k5_15)).Entry.Seq) && (((n4_9.f (Int.toNat k5_15)).Cmd.Kind == (c0_3.f (Int.toNat k5_15)).Entry.Cmd.Kind) &&
    (((n4_9.f (Int.toNat k5_15)).Cmd.Expect == (c0_3.f (Int.toNat k5_15)).Entry.Cmd.Expect) && (((n4_9.f (Int.toNat k5_15)).Cmd.Name == (c0_3.f (Int.toNat k5_15)).Entry.Cmd.Name) &&
    (((n4_9.f (Int.toNat k5_15)).Cmd.Addr == (c0_3.f (Int.toNat k5_15)).Entry.Cmd.Addr) && (((n4_9.f (Int.toNat k5_15)).Cmd.Number == (c0_3.f (Int.toNat k5_15)).Entry.Cmd.Number) &&
    (((n4_9.f (Int.toNat k5_15)).Cmd.Proto == (c0_3.f (Int.toNat k5_15)).Entry.Cmd.Proto) && true)))))))))))))) else (some false))) : Option Bool).bind fun m415 => (bif m415 then k0 else
    (go (IntKind.wrap .i64 (k5_15 + 1))))) else k1)
def F_spec_l10Have_B0 {ρ : Type} (fu : Nat) (c0_0 : (Sl S_impl_Node)) (c0_1 : (Sl S_impl_Mail)) (c0_2 : (Sl S_impl_Won)) (c0_3 : (Sl S_impl_Seal)) (k0 : Option ρ) (k1 : Option ρ) (i3_4 : Int) (go : Int → Option ρ) : Option ρ :=
  (bif (decide (i3_4 < ((c0_0.n : Nat) : Int))) then ((bif (decide (0 ≤ i3_4) && decide ((Int.toNat i3_4) < c0_0.n)) then some () else none : Option Unit).bind fun _ => (bif ((c0_0.f (Int.toNat i3_4)).Role != 2) then
    (go (IntKind.wrap .i64 (i3_4 + 1))) else (L (fun w2 go2 => F_spec_l10Have_B2 fu c0_0 c0_1 c0_2 c0_3 i3_4 ((c0_0.f (Int.toNat i3_4)).Id) ((c0_0.f (Int.toNat i3_4)).Peers) ((c0_0.f (Int.toNat i3_4)).Term) ((c0_0.f (Int.toNat i3_4)).Voted) ((c0_0.f (Int.toNat i3_4)).Log) ((c0_0.f (Int.toNat i3_4)).Role) ((c0_0.f (Int.toNat i3_4)).Commit) ((c0_0.f (Int.toNat i3_4)).Votes) ((c0_0.f (Int.toNat i3_4)).Next) ((c0_0.f (Int.toNat i3_4)).Match) (k0) ((go (IntKind.wrap .i64 (i3_4 + 1)))) w2 go2) fu (0 : Int)))) else
    k1)
def F_spec_l10Have (fu : Nat) (c_0 : S_impl_Cluster) : Option (Bool) :=
  (L (fun w0 go0 => F_spec_l10Have_B0 fu c_0.Nodes c_0.Mails c_0.Wins c_0.Seals (some false) (some true) w0 go0) fu (0 : Int))
def pc_spec_l10Have (fu : Nat) : Pc RT den := fun f xs => none
def msk_spec_l10Have (b : Nat) : List Nat := match b with | 0 => [1, 2, 4, 5, 6, 7, 8, 9, 10, 11, 12, 13, 14, 15, 16, 17, 18, 19, 20, 21, 22, 23, 24, 25, 26, 27, 28, 29, 30, 31, 32, 33, 34, 35, 36, 37, 38, 39, 40, 41, 42, 43, 44, 45, 46, 47, 48, 49, 50, 51, 52, 53, 54, 55, 56, 57, 58, 59, 60, 61, 62, 63, 64, 65, 66, 67, 68, 69, 70, 71, 72, 73, 74] | 100000 => [0, 1, 3, 4, 5, 6, 7, 8, 9, 10, 11, 12, 13, 14, 15, 16, 17, 18, 19, 20, 21, 22, 23, 24, 25, 26, 27, 28, 29, 30, 31, 32, 33, 34, 35, 36, 37, 38, 39, 40, 41, 42, 43, 44, 45, 46, 47, 48, 49, 50, 51, 52, 53, 54, 55, 56, 57, 58, 59, 60, 61, 62, 63, 64, 65, 66, 67, 68, 69, 70, 71, 72, 73, 74] | 2 => [1, 2, 6, 7, 8, 9, 10, 11, 12, 13, 14, 15, 16, 17, 18, 19, 20, 21, 22, 23, 24, 25, 26, 27, 28, 29, 30, 31, 32, 33, 34, 35, 36, 37, 38, 39, 40, 41, 42, 43, 44, 45, 46, 47, 48, 49, 50, 51, 52, 53, 54, 55, 56, 57, 58, 59, 60, 61, 62, 63, 64, 65, 66, 67, 68, 69, 70, 71, 72, 73, 74] | 100002 => [1, 4, 5, 6, 7, 8, 9, 10, 11, 12, 13, 14, 15, 16, 17, 18, 19, 20, 21, 22, 23, 24, 25, 26, 27, 28, 29, 30, 31, 32, 33, 34, 35, 36, 37, 38, 39, 40, 41, 42, 43, 44, 45, 46, 47, 48, 49, 50, 51, 52, 53, 54, 55, 56, 57, 58, 59, 60, 61, 62, 63, 64, 65, 66, 67, 68, 69, 70, 71, 72, 73, 74] | 200009 => [74] | _ => []
def ps_spec_l10Have_2 : List (Pat RT) := [.rptr [(.rs .impl_Node), (.rs .impl_Mail), (.rs .impl_Won), (.rs .impl_Seal)], .flat .dead, .flat .dead, .flat (.int .i64), .rptr [(.int .i64), (.int .i64), (.int .i64), (.int .i64), (.rs .impl_Entry), (.int .i64), (.int .i64), (.rs .i64), (.rs .i64), (.rs .i64)], .flat (.int .i64), .flat .dead, .flat .dead, .flat .dead, .flat .dead, .flat .dead, .flat .dead, .flat .dead, .flat .dead, .flat .dead, .flat .dead, .flat .dead, .flat .dead, .flat .dead, .flat .dead, .flat .dead, .flat .dead, .flat .dead, .flat .dead, .flat .dead, .flat .dead, .flat .dead, .flat .dead, .flat .dead, .flat .dead, .flat .dead, .flat .dead, .flat .dead, .flat .dead, .flat .dead, .flat .dead, .flat .dead, .flat .dead, .flat .dead, .flat .dead, .flat .dead, .flat .dead, .flat .dead, .flat .dead, .flat .dead, .flat .dead, .flat .dead, .flat .dead, .flat .dead, .flat .dead, .flat .dead, .flat .dead, .flat .dead, .flat .dead, .flat .dead, .flat .dead, .flat .dead, .flat .dead, .flat .dead, .flat .dead, .flat .dead, .flat .dead, .flat .dead, .flat .dead, .flat .dead, .flat .dead, .flat .dead, .flat .dead, .flat .dead, .flat .dead, .flat .dead, .flat .dead, .flat .dead, .flat .dead, .flat .dead]
def os_spec_l10Have_2 : List (OP RT) := []
def conv_spec_l10Have_2 (r : Raw den ps_spec_l10Have_2 os_spec_l10Have_2) : ((Sl S_impl_Node) × (Sl S_impl_Mail) × (Sl S_impl_Won) × (Sl S_impl_Seal) × Int × Int × Int × Int × Int × (Sl S_impl_Entry) × Int × Int × (Sl Int) × (Sl Int) × (Sl Int)) × (Int) := ((r.1.1.1, r.1.1.2.1, r.1.1.2.2.1, r.1.1.2.2.2.1, r.1.2.2.2.1, r.1.2.2.2.2.1.1, r.1.2.2.2.2.1.2.1, r.1.2.2.2.2.1.2.2.1, r.1.2.2.2.2.1.2.2.2.1, r.1.2.2.2.2.1.2.2.2.2.1, r.1.2.2.2.2.1.2.2.2.2.2.1, r.1.2.2.2.2.1.2.2.2.2.2.2.1, r.1.2.2.2.2.1.2.2.2.2.2.2.2.1, r.1.2.2.2.2.1.2.2.2.2.2.2.2.2.1, r.1.2.2.2.2.1.2.2.2.2.2.2.2.2.2.1), r.1.2.2.2.2.2.1)
def back_spec_l10Have_2 (c : (Sl S_impl_Node) × (Sl S_impl_Mail) × (Sl S_impl_Won) × (Sl S_impl_Seal) × Int × Int × Int × Int × Int × (Sl S_impl_Entry) × Int × Int × (Sl Int) × (Sl Int) × (Sl Int)) (w : Int) : St RT den := ⟨[(.rptr [(.rs c.1.z .impl_Node c.1.n c.1.f), (.rs c.2.1.z .impl_Mail c.2.1.n c.2.1.f), (.rs c.2.2.1.z .impl_Won c.2.2.1.n c.2.2.1.f), (.rs c.2.2.2.1.z .impl_Seal c.2.2.2.1.n c.2.2.2.1.f)]), .dead, .dead, (.int .i64 c.2.2.2.2.1), (.rptr [(.int .i64 c.2.2.2.2.2.1), (.int .i64 c.2.2.2.2.2.2.1), (.int .i64 c.2.2.2.2.2.2.2.1), (.int .i64 c.2.2.2.2.2.2.2.2.1), (.rs c.2.2.2.2.2.2.2.2.2.1.z .impl_Entry c.2.2.2.2.2.2.2.2.2.1.n c.2.2.2.2.2.2.2.2.2.1.f), (.int .i64 c.2.2.2.2.2.2.2.2.2.2.1), (.int .i64 c.2.2.2.2.2.2.2.2.2.2.2.1), (.rs c.2.2.2.2.2.2.2.2.2.2.2.2.1.z .i64 c.2.2.2.2.2.2.2.2.2.2.2.2.1.n c.2.2.2.2.2.2.2.2.2.2.2.2.1.f), (.rs c.2.2.2.2.2.2.2.2.2.2.2.2.2.1.z .i64 c.2.2.2.2.2.2.2.2.2.2.2.2.2.1.n c.2.2.2.2.2.2.2.2.2.2.2.2.2.1.f), (.rs c.2.2.2.2.2.2.2.2.2.2.2.2.2.2.z .i64 c.2.2.2.2.2.2.2.2.2.2.2.2.2.2.n c.2.2.2.2.2.2.2.2.2.2.2.2.2.2.f)]), (.int .i64 w), .dead, .dead, .dead, .dead, .dead, .dead, .dead, .dead, .dead, .dead, .dead, .dead, .dead, .dead, .dead, .dead, .dead, .dead, .dead, .dead, .dead, .dead, .dead, .dead, .dead, .dead, .dead, .dead, .dead, .dead, .dead, .dead, .dead, .dead, .dead, .dead, .dead, .dead, .dead, .dead, .dead, .dead, .dead, .dead, .dead, .dead, .dead, .dead, .dead, .dead, .dead, .dead, .dead, .dead, .dead, .dead, .dead, .dead, .dead, .dead, .dead, .dead, .dead, .dead, .dead, .dead, .dead, .dead, .dead], []⟩
def Bk_spec_l10Have_2 {ρ : Type} (fu : Nat) (c : (Sl S_impl_Node) × (Sl S_impl_Mail) × (Sl S_impl_Won) × (Sl S_impl_Seal) × Int × Int × Int × Int × Int × (Sl S_impl_Entry) × Int × Int × (Sl Int) × (Sl Int) × (Sl Int)) (k : Ex → St RT den → Option ρ) (w : Int) (go : (Int) → Option ρ) : Option ρ := F_spec_l10Have_B2 fu c.1 c.2.1 c.2.2.1 c.2.2.2.1 c.2.2.2.2.1 c.2.2.2.2.2.1 c.2.2.2.2.2.2.1 c.2.2.2.2.2.2.2.1 c.2.2.2.2.2.2.2.2.1 c.2.2.2.2.2.2.2.2.2.1 c.2.2.2.2.2.2.2.2.2.2.1 c.2.2.2.2.2.2.2.2.2.2.2.1 c.2.2.2.2.2.2.2.2.2.2.2.2.1 c.2.2.2.2.2.2.2.2.2.2.2.2.2.1 c.2.2.2.2.2.2.2.2.2.2.2.2.2.2 (k .ret ⟨[(.rptr [(.rs c.1.z .impl_Node c.1.n c.1.f), (.rs c.2.1.z .impl_Mail c.2.1.n c.2.1.f), (.rs c.2.2.1.z .impl_Won c.2.2.1.n c.2.2.1.f), (.rs c.2.2.2.1.z .impl_Seal c.2.2.2.1.n c.2.2.2.1.f)]), .dead, (.bool false), (.int .i64 c.2.2.2.2.1), .dead, .dead, .dead, .dead, .dead, .dead, .dead, .dead, .dead, .dead, .dead, .dead, .dead, .dead, .dead, .dead, .dead, .dead, .dead, .dead, .dead, .dead, .dead, .dead, .dead, .dead, .dead, .dead, .dead, .dead, .dead, .dead, .dead, .dead, .dead, .dead, .dead, .dead, .dead, .dead, .dead, .dead, .dead, .dead, .dead, .dead, .dead, .dead, .dead, .dead, .dead, .dead, .dead, .dead, .dead, .dead, .dead, .dead, .dead, .dead, .dead, .dead, .dead, .dead, .dead, .dead, .dead, .dead, .dead, .dead, .dead], []⟩) (k (.exit 2) ⟨[(.rptr [(.rs c.1.z .impl_Node c.1.n c.1.f), (.rs c.2.1.z .impl_Mail c.2.1.n c.2.1.f), (.rs c.2.2.1.z .impl_Won c.2.2.1.n c.2.2.1.f), (.rs c.2.2.2.1.z .impl_Seal c.2.2.2.1.n c.2.2.2.1.f)]), .dead, .dead, (.int .i64 c.2.2.2.2.1), .dead, .dead, .dead, .dead, .dead, .dead, .dead, .dead, .dead, .dead, .dead, .dead, .dead, .dead, .dead, .dead, .dead, .dead, .dead, .dead, .dead, .dead, .dead, .dead, .dead, .dead, .dead, .dead, .dead, .dead, .dead, .dead, .dead, .dead, .dead, .dead, .dead, .dead, .dead, .dead, .dead, .dead, .dead, .dead, .dead, .dead, .dead, .dead, .dead, .dead, .dead, .dead, .dead, .dead, .dead, .dead, .dead, .dead, .dead, .dead, .dead, .dead, .dead, .dead, .dead, .dead, .dead, .dead, .dead, .dead, .dead], []⟩) w go
def ps_spec_l10Have_0 : List (Pat RT) := [.rptr [(.rs .impl_Node), (.rs .impl_Mail), (.rs .impl_Won), (.rs .impl_Seal)], .flat .dead, .flat .dead, .flat (.int .i64), .flat .dead, .flat .dead, .flat .dead, .flat .dead, .flat .dead, .flat .dead, .flat .dead, .flat .dead, .flat .dead, .flat .dead, .flat .dead, .flat .dead, .flat .dead, .flat .dead, .flat .dead, .flat .dead, .flat .dead, .flat .dead, .flat .dead, .flat .dead, .flat .dead, .flat .dead, .flat .dead, .flat .dead, .flat .dead, .flat .dead, .flat .dead, .flat .dead, .flat .dead, .flat .dead, .flat .dead, .flat .dead, .flat .dead, .flat .dead, .flat .dead, .flat .dead, .flat .dead, .flat .dead, .flat .dead, .flat .dead, .flat .dead, .flat .dead, .flat .dead, .flat .dead, .flat .dead, .flat .dead, .flat .dead, .flat .dead, .flat .dead, .flat .dead, .flat .dead, .flat .dead, .flat .dead, .flat .dead, .flat .dead, .flat .dead, .flat .dead, .flat .dead, .flat .dead, .flat .dead, .flat .dead, .flat .dead, .flat .dead, .flat .dead, .flat .dead, .flat .dead, .flat .dead, .flat .dead, .flat .dead, .flat .dead, .flat .dead]
def os_spec_l10Have_0 : List (OP RT) := []
def conv_spec_l10Have_0 (r : Raw den ps_spec_l10Have_0 os_spec_l10Have_0) : ((Sl S_impl_Node) × (Sl S_impl_Mail) × (Sl S_impl_Won) × (Sl S_impl_Seal)) × (Int) := ((r.1.1.1, r.1.1.2.1, r.1.1.2.2.1, r.1.1.2.2.2.1), r.1.2.2.2.1)
def back_spec_l10Have_0 (c : (Sl S_impl_Node) × (Sl S_impl_Mail) × (Sl S_impl_Won) × (Sl S_impl_Seal)) (w : Int) : St RT den := ⟨[(.rptr [(.rs c.1.z .impl_Node c.1.n c.1.f), (.rs c.2.1.z .impl_Mail c.2.1.n c.2.1.f), (.rs c.2.2.1.z .impl_Won c.2.2.1.n c.2.2.1.f), (.rs c.2.2.2.z .impl_Seal c.2.2.2.n c.2.2.2.f)]), .dead, .dead, (.int .i64 w), .dead, .dead, .dead, .dead, .dead, .dead, .dead, .dead, .dead, .dead, .dead, .dead, .dead, .dead, .dead, .dead, .dead, .dead, .dead, .dead, .dead, .dead, .dead, .dead, .dead, .dead, .dead, .dead, .dead, .dead, .dead, .dead, .dead, .dead, .dead, .dead, .dead, .dead, .dead, .dead, .dead, .dead, .dead, .dead, .dead, .dead, .dead, .dead, .dead, .dead, .dead, .dead, .dead, .dead, .dead, .dead, .dead, .dead, .dead, .dead, .dead, .dead, .dead, .dead, .dead, .dead, .dead, .dead, .dead, .dead, .dead], []⟩
def Bk_spec_l10Have_0 {ρ : Type} (fu : Nat) (c : (Sl S_impl_Node) × (Sl S_impl_Mail) × (Sl S_impl_Won) × (Sl S_impl_Seal)) (k : Ex → St RT den → Option ρ) (w : Int) (go : (Int) → Option ρ) : Option ρ := F_spec_l10Have_B0 fu c.1 c.2.1 c.2.2.1 c.2.2.2 (k .ret ⟨[.dead, .dead, (.bool false), .dead, .dead, .dead, .dead, .dead, .dead, .dead, .dead, .dead, .dead, .dead, .dead, .dead, .dead, .dead, .dead, .dead, .dead, .dead, .dead, .dead, .dead, .dead, .dead, .dead, .dead, .dead, .dead, .dead, .dead, .dead, .dead, .dead, .dead, .dead, .dead, .dead, .dead, .dead, .dead, .dead, .dead, .dead, .dead, .dead, .dead, .dead, .dead, .dead, .dead, .dead, .dead, .dead, .dead, .dead, .dead, .dead, .dead, .dead, .dead, .dead, .dead, .dead, .dead, .dead, .dead, .dead, .dead, .dead, .dead, .dead, .dead], []⟩) (k (.exit 0) ⟨[.dead, .dead, .dead, .dead, .dead, .dead, .dead, .dead, .dead, .dead, .dead, .dead, .dead, .dead, .dead, .dead, .dead, .dead, .dead, .dead, .dead, .dead, .dead, .dead, .dead, .dead, .dead, .dead, .dead, .dead, .dead, .dead, .dead, .dead, .dead, .dead, .dead, .dead, .dead, .dead, .dead, .dead, .dead, .dead, .dead, .dead, .dead, .dead, .dead, .dead, .dead, .dead, .dead, .dead, .dead, .dead, .dead, .dead, .dead, .dead, .dead, .dead, .dead, .dead, .dead, .dead, .dead, .dead, .dead, .dead, .dead, .dead, .dead, .dead, .dead], []⟩) w go
def lp_spec_l10Have (fu : Nat) : Lp RT den (Bool) := fun b s k => match b with | 0 => handle ps_spec_l10Have_0 os_spec_l10Have_0 conv_spec_l10Have_0 (Bk_spec_l10Have_0 fu) fu s k | 2 => handle ps_spec_l10Have_2 os_spec_l10Have_2 conv_spec_l10Have_2 (Bk_spec_l10Have_2 fu) fu s k | _ => none
theorem ev_spec_l10Have (fu : Nat) (c_0 : S_impl_Cluster) : evFun E (pc_spec_l10Have fu) msk_spec_l10Have (lp_spec_l10Have fu) out_b 62 [(.rptr [(.rs c_0.Nodes.z .impl_Node c_0.Nodes.n c_0.Nodes.f), (.rs c_0.Mails.z .impl_Mail c_0.Mails.n c_0.Mails.f), (.rs c_0.Wins.z .impl_Won c_0.Wins.n c_0.Wins.f), (.rs c_0.Seals.z .impl_Seal c_0.Seals.n c_0.Seals.f)])] = F_spec_l10Have fu c_0 := by kernel_rfl
noncomputable def body_spec_l10Have : Code := Try.f62.body.getD .skip
noncomputable def lc_spec_l10Have_0 : Code := ((loops 0 body_spec_l10Have).getD 0 (0, .skip)).2
theorem round_spec_l10Have_0 (fu : Nat) (it : St RT den → Option (Bool)) (k : Ex → St RT den → Option (Bool)) c w : evCode E (pc_spec_l10Have fu) msk_spec_l10Have (lp_spec_l10Have fu) 0 lc_spec_l10Have_0 (back_spec_l10Have_0 c w) (after (msk_spec_l10Have 0) (msk_spec_l10Have 100000) 0 it k) = Bk_spec_l10Have_0 fu c k w (fun w => it (back_spec_l10Have_0 c w)) := by kernel_rfl
theorem lpok_spec_l10Have_0 (fu : Nat) : ∀ s k r, lp_spec_l10Have fu 0 s k = some r → ∃ fuel, iter (msk_spec_l10Have 0) (msk_spec_l10Have 100000) s.objs.length (evCode E (pc_spec_l10Have fu) msk_spec_l10Have (lp_spec_l10Have fu) 0 lc_spec_l10Have_0) fuel s k = some r :=
  handle_ok (ps := ps_spec_l10Have_0) (os := os_spec_l10Have_0) (conv := conv_spec_l10Have_0) (B := Bk_spec_l10Have_0 fu) (fu := fu) back_spec_l10Have_0 (fun raw => by kernel_rfl) 0 (fun c w => by kernel_rfl) (round_spec_l10Have_0 fu)
noncomputable def lc_spec_l10Have_2 : Code := ((loops 0 body_spec_l10Have).getD 1 (0, .skip)).2
theorem round_spec_l10Have_2 (fu : Nat) (it : St RT den → Option (Bool)) (k : Ex → St RT den → Option (Bool)) c w : evCode E (pc_spec_l10Have fu) msk_spec_l10Have (lp_spec_l10Have fu) 2 lc_spec_l10Have_2 (back_spec_l10Have_2 c w) (after (msk_spec_l10Have 2) (msk_spec_l10Have 100002) 0 it k) = Bk_spec_l10Have_2 fu c k w (fun w => it (back_spec_l10Have_2 c w)) := by kernel_rfl
theorem lpok_spec_l10Have_2 (fu : Nat) : ∀ s k r, lp_spec_l10Have fu 2 s k = some r → ∃ fuel, iter (msk_spec_l10Have 2) (msk_spec_l10Have 100002) s.objs.length (evCode E (pc_spec_l10Have fu) msk_spec_l10Have (lp_spec_l10Have fu) 2 lc_spec_l10Have_2) fuel s k = some r :=
  handle_ok (ps := ps_spec_l10Have_2) (os := os_spec_l10Have_2) (conv := conv_spec_l10Have_2) (B := Bk_spec_l10Have_2 fu) (fu := fu) back_spec_l10Have_2 (fun raw => by kernel_rfl) 0 (fun c w => by kernel_rfl) (round_spec_l10Have_2 fu)
theorem lpok_spec_l10Have (fu : Nat) : LpOk E (pc_spec_l10Have fu) msk_spec_l10Have (lp_spec_l10Have fu) (loops 0 body_spec_l10Have) := loop_all 2 (by kernel_rfl) fun i hi => match i, hi with
  | 0, _ => by
    have h : (loops 0 body_spec_l10Have).getD 0 (0, .skip) = (0, lc_spec_l10Have_0) := by kernel_rfl
    rw [h]; exact lpok_spec_l10Have_0 fu
  | 1, _ => by
    have h : (loops 0 body_spec_l10Have).getD 1 (0, .skip) = (2, lc_spec_l10Have_2) := by kernel_rfl
    rw [h]; exact lpok_spec_l10Have_2 fu
  | i + 2, hi => absurd hi (by omega)
def S_spec_l10Have (fu : Nat) (xs : List (D RT den)) : Option (Out RT den) := match xs with | [.rptr [.rs za0_1 .impl_Node na0_1 fa0_1, .rs za0_2 .impl_Mail na0_2 fa0_2, .rs za0_3 .impl_Won na0_3 fa0_3, .rs za0_4 .impl_Seal na0_4 fa0_4]] => some ⟨Bool, F_spec_l10Have fu (⟨(⟨za0_1, na0_1, fa0_1⟩ : (Sl S_impl_Node)), (⟨za0_2, na0_2, fa0_2⟩ : (Sl S_impl_Mail)), (⟨za0_3, na0_3, fa0_3⟩ : (Sl S_impl_Won)), (⟨za0_4, na0_4, fa0_4⟩ : (Sl S_impl_Seal))⟩ : S_impl_Cluster), enc_b, fun _ => true⟩ | _ => none
theorem hpc_spec_l10Have (fu : Nat) : ∀ f xs o, pc_spec_l10Have fu f xs = some o → ∀ y, o.x = some y → Good E Try.prog f xs (o.g y) := by
  intro f xs o h
  cases h
theorem goodv_spec_l10Have (fu : Nat) (c_0 : S_impl_Cluster) (y : Bool) (hy : F_spec_l10Have fu c_0 = some y) : Good E Try.prog 62 [(.rptr [(.rs c_0.Nodes.z .impl_Node c_0.Nodes.n c_0.Nodes.f), (.rs c_0.Mails.z .impl_Mail c_0.Mails.n c_0.Mails.f), (.rs c_0.Wins.z .impl_Won c_0.Wins.n c_0.Wins.f), (.rs c_0.Seals.z .impl_Seal c_0.Seals.n c_0.Seals.f)])] (enc_b y) :=
  fun_good E_ok (pc_good (hpc_spec_l10Have fu)) (fn := Try.f62) (c := body_spec_l10Have) (out := out_b) (y := y) (by kernel_rfl) (by kernel_rfl) (by kernel_rfl) (lpok_spec_l10Have fu) (fun d hd => out_b_enc d _ hd) ((ev_spec_l10Have fu c_0).trans hy)
theorem good_spec_l10Have (fu : Nat) : ∀ xs o, S_spec_l10Have fu xs = some o → ∀ y, o.x = some y → Good E Try.prog 62 xs (o.g y) := by
  intro xs o h y hy
  unfold S_spec_l10Have at h
  split at h
  · rename_i za0_1 na0_1 fa0_1 za0_2 na0_2 fa0_2 za0_3 na0_3 fa0_3 za0_4 na0_4 fa0_4
    cases h
    exact goodv_spec_l10Have fu (⟨(⟨za0_1, na0_1, fa0_1⟩ : (Sl S_impl_Node)), (⟨za0_2, na0_2, fa0_2⟩ : (Sl S_impl_Mail)), (⟨za0_3, na0_3, fa0_3⟩ : (Sl S_impl_Won)), (⟨za0_4, na0_4, fa0_4⟩ : (Sl S_impl_Seal))⟩ : S_impl_Cluster) y hy
  · cases h

/-! spec.LeadersHave -/
def F_spec_LeadersHave (fu : Nat) (c_0 : S_impl_Cluster) : Option (Bool) :=
  ((((F_spec_l9Fault fu c_0).bind fun y412 => (bif (y412 == 0) then ((F_spec_l10Have fu c_0).bind fun y413 => (some y413)) else (some false))) : Option Bool).bind fun m414 => (some m414))
def pc_spec_LeadersHave (fu : Nat) : Pc RT den := fun f xs => match f with | 48 => S_spec_l9Fault fu xs | 62 => S_spec_l10Have fu xs | _ => none
def msk_spec_LeadersHave (b : Nat) : List Nat := match b with | 200001 => [2] | _ => []
def lp_spec_LeadersHave (fu : Nat) : Lp RT den (Bool) := fun b s k => none
theorem ev_spec_LeadersHave (fu : Nat) (c_0 : S_impl_Cluster) : evFun E (pc_spec_LeadersHave fu) msk_spec_LeadersHave (lp_spec_LeadersHave fu) out_b 27 [(.agg [(.rs c_0.Nodes.z .impl_Node c_0.Nodes.n c_0.Nodes.f), (.rs c_0.Mails.z .impl_Mail c_0.Mails.n c_0.Mails.f), (.rs c_0.Wins.z .impl_Won c_0.Wins.n c_0.Wins.f), (.rs c_0.Seals.z .impl_Seal c_0.Seals.n c_0.Seals.f)])] = F_spec_LeadersHave fu c_0 := by kernel_rfl
noncomputable def body_spec_LeadersHave : Code := Try.f27.body.getD .skip
theorem lpok_spec_LeadersHave (fu : Nat) : LpOk E (pc_spec_LeadersHave fu) msk_spec_LeadersHave (lp_spec_LeadersHave fu) (loops 0 body_spec_LeadersHave) := by
  have h : loops 0 body_spec_LeadersHave = [] := by kernel_rfl
  rw [h]; intro p hp; cases hp
def S_spec_LeadersHave (fu : Nat) (xs : List (D RT den)) : Option (Out RT den) := match xs with | [.agg [.rs za0_1 .impl_Node na0_1 fa0_1, .rs za0_2 .impl_Mail na0_2 fa0_2, .rs za0_3 .impl_Won na0_3 fa0_3, .rs za0_4 .impl_Seal na0_4 fa0_4]] => some ⟨Bool, F_spec_LeadersHave fu (⟨(⟨za0_1, na0_1, fa0_1⟩ : (Sl S_impl_Node)), (⟨za0_2, na0_2, fa0_2⟩ : (Sl S_impl_Mail)), (⟨za0_3, na0_3, fa0_3⟩ : (Sl S_impl_Won)), (⟨za0_4, na0_4, fa0_4⟩ : (Sl S_impl_Seal))⟩ : S_impl_Cluster), enc_b, fun _ => true⟩ | _ => none
theorem hpc_spec_LeadersHave (fu : Nat) : ∀ f xs o, pc_spec_LeadersHave fu f xs = some o → ∀ y, o.x = some y → Good E Try.prog f xs (o.g y) := by
  intro f xs o h
  unfold pc_spec_LeadersHave at h
  split at h
  · exact good_spec_l9Fault fu xs o h
  · exact good_spec_l10Have fu xs o h
  · cases h
theorem goodv_spec_LeadersHave (fu : Nat) (c_0 : S_impl_Cluster) (y : Bool) (hy : F_spec_LeadersHave fu c_0 = some y) : Good E Try.prog 27 [(.agg [(.rs c_0.Nodes.z .impl_Node c_0.Nodes.n c_0.Nodes.f), (.rs c_0.Mails.z .impl_Mail c_0.Mails.n c_0.Mails.f), (.rs c_0.Wins.z .impl_Won c_0.Wins.n c_0.Wins.f), (.rs c_0.Seals.z .impl_Seal c_0.Seals.n c_0.Seals.f)])] (enc_b y) :=
  fun_good E_ok (pc_good (hpc_spec_LeadersHave fu)) (fn := Try.f27) (c := body_spec_LeadersHave) (out := out_b) (y := y) (by kernel_rfl) (by kernel_rfl) (by kernel_rfl) (lpok_spec_LeadersHave fu) (fun d hd => out_b_enc d _ hd) ((ev_spec_LeadersHave fu c_0).trans hy)
theorem good_spec_LeadersHave (fu : Nat) : ∀ xs o, S_spec_LeadersHave fu xs = some o → ∀ y, o.x = some y → Good E Try.prog 27 xs (o.g y) := by
  intro xs o h y hy
  unfold S_spec_LeadersHave at h
  split at h
  · rename_i za0_1 na0_1 fa0_1 za0_2 na0_2 fa0_2 za0_3 na0_3 fa0_3 za0_4 na0_4 fa0_4
    cases h
    exact goodv_spec_LeadersHave fu (⟨(⟨za0_1, na0_1, fa0_1⟩ : (Sl S_impl_Node)), (⟨za0_2, na0_2, fa0_2⟩ : (Sl S_impl_Mail)), (⟨za0_3, na0_3, fa0_3⟩ : (Sl S_impl_Won)), (⟨za0_4, na0_4, fa0_4⟩ : (Sl S_impl_Seal))⟩ : S_impl_Cluster) y hy
  · cases h
end Go.Proofs.Ytgdlionhnifajaa.Pc
