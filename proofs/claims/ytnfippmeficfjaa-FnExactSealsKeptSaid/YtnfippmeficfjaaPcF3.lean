/- The functions' evaluated forms, each a proved summary. Conditions: none. -/
import Derived.Test.YtnfippmeficfjaaPcF2
namespace Go.Proofs.Ytnfippmeficfjaa.Pc
open Go Go.RowKit Go.Proofs Vm
set_option linter.unusedVariables false
set_option linter.unusedSimpArgs false
set_option maxRecDepth 100000
/-! spec.l10Match -/
def F_spec_l10Match_B2 {ρ : Type} (fu : Nat) (c0_0 : (Sl S_impl_Node)) (c0_1 : (Sl S_impl_Mail)) (c0_2 : (Sl S_impl_Won)) (c0_3 : (Sl S_impl_Seal)) (i3_4 : Int) (k0 : Option ρ) (k1 : Option ρ) (k4_5 : Int) (go : Int → Option ρ) : Option ρ :=
  (bif (decide (k4_5 < i3_4)) then ((bif (decide (0 ≤ i3_4) && decide ((Int.toNat i3_4) < c0_0.n)) then some () else none : Option Unit).bind fun _ => ((bif (decide (0 ≤ k4_5) &&
    decide ((Int.toNat k4_5) < c0_0.n)) then some () else none : Option Unit).bind fun _ => ((F_spec_l10Pair fu (c0_0.f (Int.toNat i3_4)).Log (c0_0.f (Int.toNat k4_5)).Log).bind fun y154 =>
    (bif (!y154) then k0 else (go (IntKind.wrap .i64 (k4_5 + 1))))))) else k1)
def F_spec_l10Match_B0 {ρ : Type} (fu : Nat) (c0_0 : (Sl S_impl_Node)) (c0_1 : (Sl S_impl_Mail)) (c0_2 : (Sl S_impl_Won)) (c0_3 : (Sl S_impl_Seal)) (k0 : Option ρ) (k1 : Option ρ) (i3_4 : Int) (go : Int → Option ρ) : Option ρ :=
  (bif (decide (i3_4 < ((c0_0.n : Nat) : Int))) then (L (fun w2 go2 => F_spec_l10Match_B2 fu c0_0 c0_1 c0_2 c0_3 i3_4 (k0) ((go (IntKind.wrap .i64 (i3_4 + 1)))) w2 go2) fu (0 : Int)) else
    k1)
def F_spec_l10Match (fu : Nat) (c_0 : S_impl_Cluster) : Option (Bool) :=
  (L (fun w0 go0 => F_spec_l10Match_B0 fu c_0.Nodes c_0.Mails c_0.Wins c_0.Seals (some false) (some true) w0 go0) fu (0 : Int))
def pc_spec_l10Match (fu : Nat) : Pc RT den := fun f xs => match f with | 60 => S_spec_l10Pair fu xs | _ => none
def msk_spec_l10Match (b : Nat) : List Nat := match b with | 0 => [1, 2, 4, 5, 6, 7, 8, 9, 10, 11, 12, 13, 14, 15, 16, 17, 18, 19, 20, 21, 22, 23, 24, 25, 26, 27, 28, 29, 30, 31, 32, 33, 34, 35, 36] | 100000 => [0, 1, 3, 4, 5, 6, 7, 8, 9, 10, 11, 12, 13, 14, 15, 16, 17, 18, 19, 20, 21, 22, 23, 24, 25, 26, 27, 28, 29, 30, 31, 32, 33, 34, 35, 36] | 2 => [1, 2, 5, 6, 7, 8, 9, 10, 11, 12, 13, 14, 15, 16, 17, 18, 19, 20, 21, 22, 23, 24, 25, 26, 27, 28, 29, 30, 31, 32, 33, 34, 35, 36] | 100002 => [1, 4, 5, 6, 7, 8, 9, 10, 11, 12, 13, 14, 15, 16, 17, 18, 19, 20, 21, 22, 23, 24, 25, 26, 27, 28, 29, 30, 31, 32, 33, 34, 35, 36] | _ => []
def ps_spec_l10Match_2 : List (Pat RT) := [.rptr [(.rs .impl_Node), (.rs .impl_Mail), (.rs .impl_Won), (.rs .impl_Seal)], .flat .dead, .flat .dead, .flat (.int .i64), .flat (.int .i64), .flat .dead, .flat .dead, .flat .dead, .flat .dead, .flat .dead, .flat .dead, .flat .dead, .flat .dead, .flat .dead, .flat .dead, .flat .dead, .flat .dead, .flat .dead, .flat .dead, .flat .dead, .flat .dead, .flat .dead, .flat .dead, .flat .dead, .flat .dead, .flat .dead, .flat .dead, .flat .dead, .flat .dead, .flat .dead, .flat .dead, .flat .dead, .flat .dead, .flat .dead, .flat .dead, .flat .dead, .flat .dead]
def os_spec_l10Match_2 : List (OP RT) := []
def conv_spec_l10Match_2 (r : Raw den ps_spec_l10Match_2 os_spec_l10Match_2) : ((Sl S_impl_Node) × (Sl S_impl_Mail) × (Sl S_impl_Won) × (Sl S_impl_Seal) × Int) × (Int) := ((r.1.1.1, r.1.1.2.1, r.1.1.2.2.1, r.1.1.2.2.2.1, r.1.2.2.2.1), r.1.2.2.2.2.1)
def back_spec_l10Match_2 (c : (Sl S_impl_Node) × (Sl S_impl_Mail) × (Sl S_impl_Won) × (Sl S_impl_Seal) × Int) (w : Int) : St RT den := ⟨[(.rptr [(.rs c.1.z .impl_Node c.1.n c.1.f), (.rs c.2.1.z .impl_Mail c.2.1.n c.2.1.f), (.rs c.2.2.1.z .impl_Won c.2.2.1.n c.2.2.1.f), (.rs c.2.2.2.1.z .impl_Seal c.2.2.2.1.n c.2.2.2.1.f)]), .dead, .dead, (.int .i64 c.2.2.2.2), (.int .i64 w), .dead, .dead, .dead, .dead, .dead, .dead, .dead, .dead, .dead, .dead, .dead, .dead, .dead, .dead, .dead, .dead, .dead, .dead, .dead, .dead, .dead, .dead, .dead, .dead, .dead, .dead, .dead, .dead, .dead, .dead, .dead, .dead], []⟩
def Bk_spec_l10Match_2 {ρ : Type} (fu : Nat) (c : (Sl S_impl_Node) × (Sl S_impl_Mail) × (Sl S_impl_Won) × (Sl S_impl_Seal) × Int) (k : Ex → St RT den → Option ρ) (w : Int) (go : (Int) → Option ρ) : Option ρ := F_spec_l10Match_B2 fu c.1 c.2.1 c.2.2.1 c.2.2.2.1 c.2.2.2.2 (k .ret ⟨[(.rptr [(.rs c.1.z .impl_Node c.1.n c.1.f), (.rs c.2.1.z .impl_Mail c.2.1.n c.2.1.f), (.rs c.2.2.1.z .impl_Won c.2.2.1.n c.2.2.1.f), (.rs c.2.2.2.1.z .impl_Seal c.2.2.2.1.n c.2.2.2.1.f)]), .dead, (.bool false), (.int .i64 c.2.2.2.2), .dead, .dead, .dead, .dead, .dead, .dead, .dead, .dead, .dead, .dead, .dead, .dead, .dead, .dead, .dead, .dead, .dead, .dead, .dead, .dead, .dead, .dead, .dead, .dead, .dead, .dead, .dead, .dead, .dead, .dead, .dead, .dead, .dead], []⟩) (k (.exit 2) ⟨[(.rptr [(.rs c.1.z .impl_Node c.1.n c.1.f), (.rs c.2.1.z .impl_Mail c.2.1.n c.2.1.f), (.rs c.2.2.1.z .impl_Won c.2.2.1.n c.2.2.1.f), (.rs c.2.2.2.1.z .impl_Seal c.2.2.2.1.n c.2.2.2.1.f)]), .dead, .dead, (.int .i64 c.2.2.2.2), .dead, .dead, .dead, .dead, .dead, .dead, .dead, .dead, .dead, .dead, .dead, .dead, .dead, .dead, .dead, .dead, .dead, .dead, .dead, .dead, .dead, .dead, .dead, .dead, .dead, .dead, .dead, .dead, .dead, .dead, .dead, .dead, .dead], []⟩) w go
def ps_spec_l10Match_0 : List (Pat RT) := [.rptr [(.rs .impl_Node), (.rs .impl_Mail), (.rs .impl_Won), (.rs .impl_Seal)], .flat .dead, .flat .dead, .flat (.int .i64), .flat .dead, .flat .dead, .flat .dead, .flat .dead, .flat .dead, .flat .dead, .flat .dead, .flat .dead, .flat .dead, .flat .dead, .flat .dead, .flat .dead, .flat .dead, .flat .dead, .flat .dead, .flat .dead, .flat .dead, .flat .dead, .flat .dead, .flat .dead, .flat .dead, .flat .dead, .flat .dead, .flat .dead, .flat .dead, .flat .dead, .flat .dead, .flat .dead, .flat .dead, .flat .dead, .flat .dead, .flat .dead, .flat .dead]
def os_spec_l10Match_0 : List (OP RT) := []
def conv_spec_l10Match_0 (r : Raw den ps_spec_l10Match_0 os_spec_l10Match_0) : ((Sl S_impl_Node) × (Sl S_impl_Mail) × (Sl S_impl_Won) × (Sl S_impl_Seal)) × (Int) := ((r.1.1.1, r.1.1.2.1, r.1.1.2.2.1, r.1.1.2.2.2.1), r.1.2.2.2.1)
def back_spec_l10Match_0 (c : (Sl S_impl_Node) × (Sl S_impl_Mail) × (Sl S_impl_Won) × (Sl S_impl_Seal)) (w : Int) : St RT den := ⟨[(.rptr [(.rs c.1.z .impl_Node c.1.n c.1.f), (.rs c.2.1.z .impl_Mail c.2.1.n c.2.1.f), (.rs c.2.2.1.z .impl_Won c.2.2.1.n c.2.2.1.f), (.rs c.2.2.2.z .impl_Seal c.2.2.2.n c.2.2.2.f)]), .dead, .dead, (.int .i64 w), .dead, .dead, .dead, .dead, .dead, .dead, .dead, .dead, .dead, .dead, .dead, .dead, .dead, .dead, .dead, .dead, .dead, .dead, .dead, .dead, .dead, .dead, .dead, .dead, .dead, .dead, .dead, .dead, .dead, .dead, .dead, .dead, .dead], []⟩
def Bk_spec_l10Match_0 {ρ : Type} (fu : Nat) (c : (Sl S_impl_Node) × (Sl S_impl_Mail) × (Sl S_impl_Won) × (Sl S_impl_Seal)) (k : Ex → St RT den → Option ρ) (w : Int) (go : (Int) → Option ρ) : Option ρ := F_spec_l10Match_B0 fu c.1 c.2.1 c.2.2.1 c.2.2.2 (k .ret ⟨[.dead, .dead, (.bool false), .dead, .dead, .dead, .dead, .dead, .dead, .dead, .dead, .dead, .dead, .dead, .dead, .dead, .dead, .dead, .dead, .dead, .dead, .dead, .dead, .dead, .dead, .dead, .dead, .dead, .dead, .dead, .dead, .dead, .dead, .dead, .dead, .dead, .dead], []⟩) (k (.exit 0) ⟨[.dead, .dead, .dead, .dead, .dead, .dead, .dead, .dead, .dead, .dead, .dead, .dead, .dead, .dead, .dead, .dead, .dead, .dead, .dead, .dead, .dead, .dead, .dead, .dead, .dead, .dead, .dead, .dead, .dead, .dead, .dead, .dead, .dead, .dead, .dead, .dead, .dead], []⟩) w go
def lp_spec_l10Match (fu : Nat) : Lp RT den (Bool) := fun b s k => match b with | 0 => handle ps_spec_l10Match_0 os_spec_l10Match_0 conv_spec_l10Match_0 (Bk_spec_l10Match_0 fu) fu s k | 2 => handle ps_spec_l10Match_2 os_spec_l10Match_2 conv_spec_l10Match_2 (Bk_spec_l10Match_2 fu) fu s k | _ => none
theorem ev_spec_l10Match (fu : Nat) (c_0 : S_impl_Cluster) : evFun E (pc_spec_l10Match fu) msk_spec_l10Match (lp_spec_l10Match fu) out_bo 27 [(.rptr [(.rs c_0.Nodes.z .impl_Node c_0.Nodes.n c_0.Nodes.f), (.rs c_0.Mails.z .impl_Mail c_0.Mails.n c_0.Mails.f), (.rs c_0.Wins.z .impl_Won c_0.Wins.n c_0.Wins.f), (.rs c_0.Seals.z .impl_Seal c_0.Seals.n c_0.Seals.f)])] = F_spec_l10Match fu c_0 := by kernel_rfl
noncomputable def body_spec_l10Match : Code := Try.f27.body.getD .skip
noncomputable def lc_spec_l10Match_0 : Code := ((loops 0 body_spec_l10Match).getD 0 (0, .skip)).2
theorem round_spec_l10Match_0 (fu : Nat) (it : St RT den → Option (Bool)) (k : Ex → St RT den → Option (Bool)) c w : evCode E (pc_spec_l10Match fu) msk_spec_l10Match (lp_spec_l10Match fu) 0 lc_spec_l10Match_0 (back_spec_l10Match_0 c w) (after (msk_spec_l10Match 0) (msk_spec_l10Match 100000) 0 it k) = Bk_spec_l10Match_0 fu c k w (fun w => it (back_spec_l10Match_0 c w)) := by kernel_rfl
theorem lpok_spec_l10Match_0 (fu : Nat) : ∀ s k r, lp_spec_l10Match fu 0 s k = some r → ∃ fuel, iter (msk_spec_l10Match 0) (msk_spec_l10Match 100000) s.objs.length (evCode E (pc_spec_l10Match fu) msk_spec_l10Match (lp_spec_l10Match fu) 0 lc_spec_l10Match_0) fuel s k = some r :=
  handle_ok (ps := ps_spec_l10Match_0) (os := os_spec_l10Match_0) (conv := conv_spec_l10Match_0) (B := Bk_spec_l10Match_0 fu) (fu := fu) back_spec_l10Match_0 (fun raw => by kernel_rfl) 0 (fun c w => by kernel_rfl) (round_spec_l10Match_0 fu)
noncomputable def lc_spec_l10Match_2 : Code := ((loops 0 body_spec_l10Match).getD 1 (0, .skip)).2
theorem round_spec_l10Match_2 (fu : Nat) (it : St RT den → Option (Bool)) (k : Ex → St RT den → Option (Bool)) c w : evCode E (pc_spec_l10Match fu) msk_spec_l10Match (lp_spec_l10Match fu) 2 lc_spec_l10Match_2 (back_spec_l10Match_2 c w) (after (msk_spec_l10Match 2) (msk_spec_l10Match 100002) 0 it k) = Bk_spec_l10Match_2 fu c k w (fun w => it (back_spec_l10Match_2 c w)) := by kernel_rfl
theorem lpok_spec_l10Match_2 (fu : Nat) : ∀ s k r, lp_spec_l10Match fu 2 s k = some r → ∃ fuel, iter (msk_spec_l10Match 2) (msk_spec_l10Match 100002) s.objs.length (evCode E (pc_spec_l10Match fu) msk_spec_l10Match (lp_spec_l10Match fu) 2 lc_spec_l10Match_2) fuel s k = some r :=
  handle_ok (ps := ps_spec_l10Match_2) (os := os_spec_l10Match_2) (conv := conv_spec_l10Match_2) (B := Bk_spec_l10Match_2 fu) (fu := fu) back_spec_l10Match_2 (fun raw => by kernel_rfl) 0 (fun c w => by kernel_rfl) (round_spec_l10Match_2 fu)
theorem lpok_spec_l10Match (fu : Nat) : LpOk E (pc_spec_l10Match fu) msk_spec_l10Match (lp_spec_l10Match fu) (loops 0 body_spec_l10Match) := loop_all 2 (by kernel_rfl) fun i hi => match i, hi with
  | 0, _ => by
    have h : (loops 0 body_spec_l10Match).getD 0 (0, .skip) = (0, lc_spec_l10Match_0) := by kernel_rfl
    rw [h]; exact lpok_spec_l10Match_0 fu
  | 1, _ => by
    have h : (loops 0 body_spec_l10Match).getD 1 (0, .skip) = (2, lc_spec_l10Match_2) := by kernel_rfl
    rw [h]; exact lpok_spec_l10Match_2 fu
  | i + 2, hi => absurd hi (by omega)
def S_spec_l10Match (fu : Nat) (xs : List (D RT den)) : Option (Out RT den) := match xs with | [.rptr (.rs za0_1 .impl_Node na0_1 fa0_1 :: .rs za0_2 .impl_Mail na0_2 fa0_2 :: .rs za0_3 .impl_Won na0_3 fa0_3 :: .rs za0_4 .impl_Seal na0_4 fa0_4 :: ra0)] => some ⟨Bool, F_spec_l10Match fu (⟨(⟨za0_1, na0_1, fa0_1⟩ : (Sl S_impl_Node)), (⟨za0_2, na0_2, fa0_2⟩ : (Sl S_impl_Mail)), (⟨za0_3, na0_3, fa0_3⟩ : (Sl S_impl_Won)), (⟨za0_4, na0_4, fa0_4⟩ : (Sl S_impl_Seal))⟩ : S_impl_Cluster), enc_bo, fun _ => true⟩ | _ => none
theorem hpc_spec_l10Match (fu : Nat) : ∀ f xs o, pc_spec_l10Match fu f xs = some o → ∀ y, o.x = some y → Good E Try.prog f xs (o.g y) := by
  intro f xs o h
  unfold pc_spec_l10Match at h
  split at h
  · exact good_spec_l10Pair fu xs o h
  · cases h
theorem goodv_spec_l10Match (fu : Nat) (c_0 : S_impl_Cluster) (y : Bool) (hy : F_spec_l10Match fu c_0 = some y) : Good E Try.prog 27 [(.rptr [(.rs c_0.Nodes.z .impl_Node c_0.Nodes.n c_0.Nodes.f), (.rs c_0.Mails.z .impl_Mail c_0.Mails.n c_0.Mails.f), (.rs c_0.Wins.z .impl_Won c_0.Wins.n c_0.Wins.f), (.rs c_0.Seals.z .impl_Seal c_0.Seals.n c_0.Seals.f)])] (enc_bo y) :=
  fun_good E_ok (pc_good (hpc_spec_l10Match fu)) (fn := Try.f27) (c := body_spec_l10Match) (out := out_bo) (y := y) (by kernel_rfl) (by kernel_rfl) (by kernel_rfl) (lpok_spec_l10Match fu) (fun d hd => out_bo_enc d _ hd) ((ev_spec_l10Match fu c_0).trans hy)
theorem good_spec_l10Match (fu : Nat) : ∀ xs o, S_spec_l10Match fu xs = some o → ∀ y, o.x = some y → Good E Try.prog 27 xs (o.g y) := by
  intro xs o h y hy
  unfold S_spec_l10Match at h
  split at h
  · rename_i za0_1 na0_1 fa0_1 za0_2 na0_2 fa0_2 za0_3 na0_3 fa0_3 za0_4 na0_4 fa0_4 ra0
    cases h
    exact (goodv_spec_l10Match fu (⟨(⟨za0_1, na0_1, fa0_1⟩ : (Sl S_impl_Node)), (⟨za0_2, na0_2, fa0_2⟩ : (Sl S_impl_Mail)), (⟨za0_3, na0_3, fa0_3⟩ : (Sl S_impl_Won)), (⟨za0_4, na0_4, fa0_4⟩ : (Sl S_impl_Seal))⟩ : S_impl_Cluster) y hy).sub ⟨Sub.of_eq ra0 rfl, trivial⟩
  · cases h

/-! spec.LogsMatch -/
def F_spec_LogsMatch (fu : Nat) (c_0 : S_impl_Cluster) : Option (Bool) :=
  ((((F_spec_l9Fault fu c_0).bind fun y45 => (bif (y45 == 0) then ((F_spec_l10Match fu c_0).bind fun y46 => (some y46)) else (some false))) : Option Bool).bind fun m47 => (some m47))
def pc_spec_LogsMatch (fu : Nat) : Pc RT den := fun f xs => match f with | 26 => S_spec_l9Fault fu xs | 27 => S_spec_l10Match fu xs | _ => none
def msk_spec_LogsMatch (b : Nat) : List Nat := match b with | 200001 => [2] | _ => []
def lp_spec_LogsMatch (fu : Nat) : Lp RT den (Bool) := fun b s k => none
theorem ev_spec_LogsMatch (fu : Nat) (c_0 : S_impl_Cluster) : evFun E (pc_spec_LogsMatch fu) msk_spec_LogsMatch (lp_spec_LogsMatch fu) out_bo 8 [(.agg [(.rs c_0.Nodes.z .impl_Node c_0.Nodes.n c_0.Nodes.f), (.rs c_0.Mails.z .impl_Mail c_0.Mails.n c_0.Mails.f), (.rs c_0.Wins.z .impl_Won c_0.Wins.n c_0.Wins.f), (.rs c_0.Seals.z .impl_Seal c_0.Seals.n c_0.Seals.f)])] = F_spec_LogsMatch fu c_0 := by kernel_rfl
noncomputable def body_spec_LogsMatch : Code := Try.f8.body.getD .skip
theorem lpok_spec_LogsMatch (fu : Nat) : LpOk E (pc_spec_LogsMatch fu) msk_spec_LogsMatch (lp_spec_LogsMatch fu) (loops 0 body_spec_LogsMatch) := by
  have h : loops 0 body_spec_LogsMatch = [] := by kernel_rfl
  rw [h]; intro p hp; cases hp
def S_spec_LogsMatch (fu : Nat) (xs : List (D RT den)) : Option (Out RT den) := match xs with | [.agg [.rs za0_1 .impl_Node na0_1 fa0_1, .rs za0_2 .impl_Mail na0_2 fa0_2, .rs za0_3 .impl_Won na0_3 fa0_3, .rs za0_4 .impl_Seal na0_4 fa0_4]] => some ⟨Bool, F_spec_LogsMatch fu (⟨(⟨za0_1, na0_1, fa0_1⟩ : (Sl S_impl_Node)), (⟨za0_2, na0_2, fa0_2⟩ : (Sl S_impl_Mail)), (⟨za0_3, na0_3, fa0_3⟩ : (Sl S_impl_Won)), (⟨za0_4, na0_4, fa0_4⟩ : (Sl S_impl_Seal))⟩ : S_impl_Cluster), enc_bo, fun _ => true⟩ | _ => none
theorem hpc_spec_LogsMatch (fu : Nat) : ∀ f xs o, pc_spec_LogsMatch fu f xs = some o → ∀ y, o.x = some y → Good E Try.prog f xs (o.g y) := by
  intro f xs o h
  unfold pc_spec_LogsMatch at h
  split at h
  · exact good_spec_l9Fault fu xs o h
  · exact good_spec_l10Match fu xs o h
  · cases h
theorem goodv_spec_LogsMatch (fu : Nat) (c_0 : S_impl_Cluster) (y : Bool) (hy : F_spec_LogsMatch fu c_0 = some y) : Good E Try.prog 8 [(.agg [(.rs c_0.Nodes.z .impl_Node c_0.Nodes.n c_0.Nodes.f), (.rs c_0.Mails.z .impl_Mail c_0.Mails.n c_0.Mails.f), (.rs c_0.Wins.z .impl_Won c_0.Wins.n c_0.Wins.f), (.rs c_0.Seals.z .impl_Seal c_0.Seals.n c_0.Seals.f)])] (enc_bo y) :=
  fun_good E_ok (pc_good (hpc_spec_LogsMatch fu)) (fn := Try.f8) (c := body_spec_LogsMatch) (out := out_bo) (y := y) (by kernel_rfl) (by kernel_rfl) (by kernel_rfl) (lpok_spec_LogsMatch fu) (fun d hd => out_bo_enc d _ hd) ((ev_spec_LogsMatch fu c_0).trans hy)
theorem good_spec_LogsMatch (fu : Nat) : ∀ xs o, S_spec_LogsMatch fu xs = some o → ∀ y, o.x = some y → Good E Try.prog 8 xs (o.g y) := by
  intro xs o h y hy
  unfold S_spec_LogsMatch at h
  split at h
  · rename_i za0_1 na0_1 fa0_1 za0_2 na0_2 fa0_2 za0_3 na0_3 fa0_3 za0_4 na0_4 fa0_4
    cases h
    exact goodv_spec_LogsMatch fu (⟨(⟨za0_1, na0_1, fa0_1⟩ : (Sl S_impl_Node)), (⟨za0_2, na0_2, fa0_2⟩ : (Sl S_impl_Mail)), (⟨za0_3, na0_3, fa0_3⟩ : (Sl S_impl_Won)), (⟨za0_4, na0_4, fa0_4⟩ : (Sl S_impl_Seal))⟩ : S_impl_Cluster) y hy
  · cases h

/-! impl.size[impl.Node] -/
def F_impl_size_impl_Node (fu : Nat) (list_0 : (Sl S_impl_Node)) : Option (Int) :=
  (some ((list_0.n : Nat) : Int))
def pc_impl_size_impl_Node (fu : Nat) : Pc RT den := fun f xs => none
def msk_impl_size_impl_Node (b : Nat) : List Nat := []
def lp_impl_size_impl_Node (fu : Nat) : Lp RT den (Int) := fun b s k => none
theorem ev_impl_size_impl_Node (fu : Nat) (list_0 : (Sl S_impl_Node)) : evFun E (pc_impl_size_impl_Node fu) msk_impl_size_impl_Node (lp_impl_size_impl_Node fu) out_i64 66 [(.rs list_0.z .impl_Node list_0.n list_0.f)] = F_impl_size_impl_Node fu list_0 := by kernel_rfl
noncomputable def body_impl_size_impl_Node : Code := Try.f66.body.getD .skip
theorem lpok_impl_size_impl_Node (fu : Nat) : LpOk E (pc_impl_size_impl_Node fu) msk_impl_size_impl_Node (lp_impl_size_impl_Node fu) (loops 0 body_impl_size_impl_Node) := by
  have h : loops 0 body_impl_size_impl_Node = [] := by kernel_rfl
  rw [h]; intro p hp; cases hp
def S_impl_size_impl_Node (fu : Nat) (xs : List (D RT den)) : Option (Out RT den) := match xs with | [.rs za0_0 .impl_Node na0_0 fa0_0] => some ⟨Int, F_impl_size_impl_Node fu (⟨za0_0, na0_0, fa0_0⟩ : (Sl S_impl_Node)), enc_i64, fun _ => true⟩ | _ => none
theorem hpc_impl_size_impl_Node (fu : Nat) : ∀ f xs o, pc_impl_size_impl_Node fu f xs = some o → ∀ y, o.x = some y → Good E Try.prog f xs (o.g y) := by
  intro f xs o h
  cases h
theorem goodv_impl_size_impl_Node (fu : Nat) (list_0 : (Sl S_impl_Node)) (y : Int) (hy : F_impl_size_impl_Node fu list_0 = some y) : Good E Try.prog 66 [(.rs list_0.z .impl_Node list_0.n list_0.f)] (enc_i64 y) :=
  fun_good E_ok (pc_good (hpc_impl_size_impl_Node fu)) (fn := Try.f66) (c := body_impl_size_impl_Node) (out := out_i64) (y := y) (by kernel_rfl) (by kernel_rfl) (by kernel_rfl) (lpok_impl_size_impl_Node fu) (fun d hd => out_i64_enc d _ hd) ((ev_impl_size_impl_Node fu list_0).trans hy)
theorem good_impl_size_impl_Node (fu : Nat) : ∀ xs o, S_impl_size_impl_Node fu xs = some o → ∀ y, o.x = some y → Good E Try.prog 66 xs (o.g y) := by
  intro xs o h y hy
  unfold S_impl_size_impl_Node at h
  split at h
  · rename_i za0_0 na0_0 fa0_0
    cases h
    exact goodv_impl_size_impl_Node fu (⟨za0_0, na0_0, fa0_0⟩ : (Sl S_impl_Node)) y hy
  · cases h

/-! impl.in -/
def F_impl_in (fu : Nat) (n_0 : Int) (low_1 : Int) (high_2 : Int) : Option (Bool) :=
  (((bif (decide (n_0 ≥ low_1)) then (some (decide (n_0 ≤ high_2))) else (some false)) : Option Bool).bind fun m239 => (some m239))
def pc_impl_in (fu : Nat) : Pc RT den := fun f xs => none
def msk_impl_in (b : Nat) : List Nat := match b with | 200001 => [6] | _ => []
def lp_impl_in (fu : Nat) : Lp RT den (Bool) := fun b s k => none
theorem ev_impl_in (fu : Nat) (n_0 : Int) (low_1 : Int) (high_2 : Int) : evFun E (pc_impl_in fu) msk_impl_in (lp_impl_in fu) out_bo 65 [(.int .i64 n_0), (.int .i64 low_1), (.int .i64 high_2)] = F_impl_in fu n_0 low_1 high_2 := by kernel_rfl
noncomputable def body_impl_in : Code := Try.f65.body.getD .skip
theorem lpok_impl_in (fu : Nat) : LpOk E (pc_impl_in fu) msk_impl_in (lp_impl_in fu) (loops 0 body_impl_in) := by
  have h : loops 0 body_impl_in = [] := by kernel_rfl
  rw [h]; intro p hp; cases hp
def S_impl_in (fu : Nat) (xs : List (D RT den)) : Option (Out RT den) := match xs with | [.int .i64 a0_0, .int .i64 a1_0, .int .i64 a2_0] => some ⟨Bool, F_impl_in fu a0_0 a1_0 a2_0, enc_bo, fun _ => true⟩ | _ => none
theorem hpc_impl_in (fu : Nat) : ∀ f xs o, pc_impl_in fu f xs = some o → ∀ y, o.x = some y → Good E Try.prog f xs (o.g y) := by
  intro f xs o h
  cases h
theorem goodv_impl_in (fu : Nat) (n_0 : Int) (low_1 : Int) (high_2 : Int) (y : Bool) (hy : F_impl_in fu n_0 low_1 high_2 = some y) : Good E Try.prog 65 [(.int .i64 n_0), (.int .i64 low_1), (.int .i64 high_2)] (enc_bo y) :=
  fun_good E_ok (pc_good (hpc_impl_in fu)) (fn := Try.f65) (c := body_impl_in) (out := out_bo) (y := y) (by kernel_rfl) (by kernel_rfl) (by kernel_rfl) (lpok_impl_in fu) (fun d hd => out_bo_enc d _ hd) ((ev_impl_in fu n_0 low_1 high_2).trans hy)
theorem good_impl_in (fu : Nat) : ∀ xs o, S_impl_in fu xs = some o → ∀ y, o.x = some y → Good E Try.prog 65 xs (o.g y) := by
  intro xs o h y hy
  unfold S_impl_in at h
  split at h
  · rename_i a0_0 a1_0 a2_0
    cases h
    exact goodv_impl_in fu a0_0 a1_0 a2_0 y hy
  · cases h

/-! (*impl.Node).isId -/
def F_impl_Node_isId (fu : Nat) (n_0 : S_impl_Node) (id_1 : Int) : Option (Bool) :=
  ((F_impl_in fu id_1 0 (IntKind.wrap .i64 (n_0.Peers - 1))).bind fun y266 => (some y266))
def pc_impl_Node_isId (fu : Nat) : Pc RT den := fun f xs => match f with | 65 => S_impl_in fu xs | _ => none
def msk_impl_Node_isId (b : Nat) : List Nat := []
def lp_impl_Node_isId (fu : Nat) : Lp RT den (Bool) := fun b s k => none
theorem ev_impl_Node_isId (fu : Nat) (n_0 : S_impl_Node) (id_1 : Int) : evFun E (pc_impl_Node_isId fu) msk_impl_Node_isId (lp_impl_Node_isId fu) out_bo 94 [(.rptr [(.int .i64 n_0.Id), (.int .i64 n_0.Peers), (.int .i64 n_0.Term), (.int .i64 n_0.Voted), (.rs n_0.Log.z .impl_Entry n_0.Log.n n_0.Log.f), (.int .i64 n_0.Role), (.int .i64 n_0.Commit), (.rs n_0.Votes.z .i64 n_0.Votes.n n_0.Votes.f), (.rs n_0.Next.z .i64 n_0.Next.n n_0.Next.f), (.rs n_0.Match.z .i64 n_0.Match.n n_0.Match.f)]), (.int .i64 id_1)] = F_impl_Node_isId fu n_0 id_1 := by kernel_rfl
noncomputable def body_impl_Node_isId : Code := Try.f94.body.getD .skip
theorem lpok_impl_Node_isId (fu : Nat) : LpOk E (pc_impl_Node_isId fu) msk_impl_Node_isId (lp_impl_Node_isId fu) (loops 0 body_impl_Node_isId) := by
  have h : loops 0 body_impl_Node_isId = [] := by kernel_rfl
  rw [h]; intro p hp; cases hp
def S_impl_Node_isId (fu : Nat) (xs : List (D RT den)) : Option (Out RT den) := match xs with | [.rptr (.int .i64 a0_1 :: .int .i64 a0_2 :: .int .i64 a0_3 :: .int .i64 a0_4 :: .rs za0_5 .impl_Entry na0_5 fa0_5 :: .int .i64 a0_6 :: .int .i64 a0_7 :: .rs za0_8 .i64 na0_8 fa0_8 :: .rs za0_9 .i64 na0_9 fa0_9 :: .rs za0_10 .i64 na0_10 fa0_10 :: ra0), .int .i64 a1_0] => some ⟨Bool, F_impl_Node_isId fu (⟨a0_1, a0_2, a0_3, a0_4, (⟨za0_5, na0_5, fa0_5⟩ : (Sl S_impl_Entry)), a0_6, a0_7, (⟨za0_8, na0_8, fa0_8⟩ : (Sl Int)), (⟨za0_9, na0_9, fa0_9⟩ : (Sl Int)), (⟨za0_10, na0_10, fa0_10⟩ : (Sl Int))⟩ : S_impl_Node) a1_0, enc_bo, fun _ => true⟩ | _ => none
theorem hpc_impl_Node_isId (fu : Nat) : ∀ f xs o, pc_impl_Node_isId fu f xs = some o → ∀ y, o.x = some y → Good E Try.prog f xs (o.g y) := by
  intro f xs o h
  unfold pc_impl_Node_isId at h
  split at h
  · exact good_impl_in fu xs o h
  · cases h
theorem goodv_impl_Node_isId (fu : Nat) (n_0 : S_impl_Node) (id_1 : Int) (y : Bool) (hy : F_impl_Node_isId fu n_0 id_1 = some y) : Good E Try.prog 94 [(.rptr [(.int .i64 n_0.Id), (.int .i64 n_0.Peers), (.int .i64 n_0.Term), (.int .i64 n_0.Voted), (.rs n_0.Log.z .impl_Entry n_0.Log.n n_0.Log.f), (.int .i64 n_0.Role), (.int .i64 n_0.Commit), (.rs n_0.Votes.z .i64 n_0.Votes.n n_0.Votes.f), (.rs n_0.Next.z .i64 n_0.Next.n n_0.Next.f), (.rs n_0.Match.z .i64 n_0.Match.n n_0.Match.f)]), (.int .i64 id_1)] (enc_bo y) :=
  fun_good E_ok (pc_good (hpc_impl_Node_isId fu)) (fn := Try.f94) (c := body_impl_Node_isId) (out := out_bo) (y := y) (by kernel_rfl) (by kernel_rfl) (by kernel_rfl) (lpok_impl_Node_isId fu) (fun d hd => out_bo_enc d _ hd) ((ev_impl_Node_isId fu n_0 id_1).trans hy)
theorem good_impl_Node_isId (fu : Nat) : ∀ xs o, S_impl_Node_isId fu xs = some o → ∀ y, o.x = some y → Good E Try.prog 94 xs (o.g y) := by
  intro xs o h y hy
  unfold S_impl_Node_isId at h
  split at h
  · rename_i a0_1 a0_2 a0_3 a0_4 za0_5 na0_5 fa0_5 a0_6 a0_7 za0_8 na0_8 fa0_8 za0_9 na0_9 fa0_9 za0_10 na0_10 fa0_10 ra0 a1_0
    cases h
    exact (goodv_impl_Node_isId fu (⟨a0_1, a0_2, a0_3, a0_4, (⟨za0_5, na0_5, fa0_5⟩ : (Sl S_impl_Entry)), a0_6, a0_7, (⟨za0_8, na0_8, fa0_8⟩ : (Sl Int)), (⟨za0_9, na0_9, fa0_9⟩ : (Sl Int)), (⟨za0_10, na0_10, fa0_10⟩ : (Sl Int))⟩ : S_impl_Node) a1_0 y hy).sub ⟨Sub.of_eq ra0 rfl, .refl _, trivial⟩
  · cases h

/-! impl.needs -/
def F_impl_needs (fu : Nat) (kind_0 : Int) : Option (Bool × Bool × Bool × Bool) :=
  ((F_impl_in fu kind_0 5 8).bind fun y313 => ((F_impl_in fu kind_0 5 6).bind fun y314 => (bif (kind_0 == 1) then (some ((!y314), true, (kind_0 != 4), y313)) else (some ((!y314),
    y313, (kind_0 != 4), y313)))))
def pc_impl_needs (fu : Nat) : Pc RT den := fun f xs => match f with | 65 => S_impl_in fu xs | _ => none
def msk_impl_needs (b : Nat) : List Nat := []
def lp_impl_needs (fu : Nat) : Lp RT den (Bool × Bool × Bool × Bool) := fun b s k => none
theorem ev_impl_needs (fu : Nat) (kind_0 : Int) : evFun E (pc_impl_needs fu) msk_impl_needs (lp_impl_needs fu) out_bo_bo_bo_bo 114 [(.int .i64 kind_0)] = F_impl_needs fu kind_0 := by kernel_rfl
noncomputable def body_impl_needs : Code := Try.f114.body.getD .skip
theorem lpok_impl_needs (fu : Nat) : LpOk E (pc_impl_needs fu) msk_impl_needs (lp_impl_needs fu) (loops 0 body_impl_needs) := by
  have h : loops 0 body_impl_needs = [] := by kernel_rfl
  rw [h]; intro p hp; cases hp
def S_impl_needs (fu : Nat) (xs : List (D RT den)) : Option (Out RT den) := match xs with | [.int .i64 a0_0] => some ⟨Bool × Bool × Bool × Bool, F_impl_needs fu a0_0, enc_bo_bo_bo_bo, fun _ => true⟩ | _ => none
theorem hpc_impl_needs (fu : Nat) : ∀ f xs o, pc_impl_needs fu f xs = some o → ∀ y, o.x = some y → Good E Try.prog f xs (o.g y) := by
  intro f xs o h
  unfold pc_impl_needs at h
  split at h
  · exact good_impl_in fu xs o h
  · cases h
theorem goodv_impl_needs (fu : Nat) (kind_0 : Int) (y : Bool × Bool × Bool × Bool) (hy : F_impl_needs fu kind_0 = some y) : Good E Try.prog 114 [(.int .i64 kind_0)] (enc_bo_bo_bo_bo y) :=
  fun_good E_ok (pc_good (hpc_impl_needs fu)) (fn := Try.f114) (c := body_impl_needs) (out := out_bo_bo_bo_bo) (y := y) (by kernel_rfl) (by kernel_rfl) (by kernel_rfl) (lpok_impl_needs fu) (fun d hd => out_bo_bo_bo_bo_enc d _ hd) ((ev_impl_needs fu kind_0).trans hy)
theorem good_impl_needs (fu : Nat) : ∀ xs o, S_impl_needs fu xs = some o → ∀ y, o.x = some y → Good E Try.prog 114 xs (o.g y) := by
  intro xs o h y hy
  unfold S_impl_needs at h
  split at h
  · rename_i a0_0
    cases h
    exact goodv_impl_needs fu a0_0 y hy
  · cases h

/-! impl.isName -/
def F_impl_isName (fu : Nat) (name_0 : Int) : Option (Bool) :=
  ((F_impl_in fu name_0 1 999).bind fun y315 => (some y315))
def pc_impl_isName (fu : Nat) : Pc RT den := fun f xs => match f with | 65 => S_impl_in fu xs | _ => none
def msk_impl_isName (b : Nat) : List Nat := []
def lp_impl_isName (fu : Nat) : Lp RT den (Bool) := fun b s k => none
theorem ev_impl_isName (fu : Nat) (name_0 : Int) : evFun E (pc_impl_isName fu) msk_impl_isName (lp_impl_isName fu) out_bo 115 [(.int .i64 name_0)] = F_impl_isName fu name_0 := by kernel_rfl
noncomputable def body_impl_isName : Code := Try.f115.body.getD .skip
theorem lpok_impl_isName (fu : Nat) : LpOk E (pc_impl_isName fu) msk_impl_isName (lp_impl_isName fu) (loops 0 body_impl_isName) := by
  have h : loops 0 body_impl_isName = [] := by kernel_rfl
  rw [h]; intro p hp; cases hp
def S_impl_isName (fu : Nat) (xs : List (D RT den)) : Option (Out RT den) := match xs with | [.int .i64 a0_0] => some ⟨Bool, F_impl_isName fu a0_0, enc_bo, fun _ => true⟩ | _ => none
theorem hpc_impl_isName (fu : Nat) : ∀ f xs o, pc_impl_isName fu f xs = some o → ∀ y, o.x = some y → Good E Try.prog f xs (o.g y) := by
  intro f xs o h
  unfold pc_impl_isName at h
  split at h
  · exact good_impl_in fu xs o h
  · cases h
theorem goodv_impl_isName (fu : Nat) (name_0 : Int) (y : Bool) (hy : F_impl_isName fu name_0 = some y) : Good E Try.prog 115 [(.int .i64 name_0)] (enc_bo y) :=
  fun_good E_ok (pc_good (hpc_impl_isName fu)) (fn := Try.f115) (c := body_impl_isName) (out := out_bo) (y := y) (by kernel_rfl) (by kernel_rfl) (by kernel_rfl) (lpok_impl_isName fu) (fun d hd => out_bo_enc d _ hd) ((ev_impl_isName fu name_0).trans hy)
theorem good_impl_isName (fu : Nat) : ∀ xs o, S_impl_isName fu xs = some o → ∀ y, o.x = some y → Good E Try.prog 115 xs (o.g y) := by
  intro xs o h y hy
  unfold S_impl_isName at h
  split at h
  · rename_i a0_0
    cases h
    exact goodv_impl_isName fu a0_0 y hy
  · cases h

/-! impl.isAddress -/
def F_impl_isAddress (fu : Nat) (a_0 : Int) : Option (Bool) :=
  ((F_impl_in fu a_0 0 4294967295).bind fun y316 => (some y316))
def pc_impl_isAddress (fu : Nat) : Pc RT den := fun f xs => match f with | 65 => S_impl_in fu xs | _ => none
def msk_impl_isAddress (b : Nat) : List Nat := []
def lp_impl_isAddress (fu : Nat) : Lp RT den (Bool) := fun b s k => none
theorem ev_impl_isAddress (fu : Nat) (a_0 : Int) : evFun E (pc_impl_isAddress fu) msk_impl_isAddress (lp_impl_isAddress fu) out_bo 116 [(.int .i64 a_0)] = F_impl_isAddress fu a_0 := by kernel_rfl
noncomputable def body_impl_isAddress : Code := Try.f116.body.getD .skip
theorem lpok_impl_isAddress (fu : Nat) : LpOk E (pc_impl_isAddress fu) msk_impl_isAddress (lp_impl_isAddress fu) (loops 0 body_impl_isAddress) := by
  have h : loops 0 body_impl_isAddress = [] := by kernel_rfl
  rw [h]; intro p hp; cases hp
def S_impl_isAddress (fu : Nat) (xs : List (D RT den)) : Option (Out RT den) := match xs with | [.int .i64 a0_0] => some ⟨Bool, F_impl_isAddress fu a0_0, enc_bo, fun _ => true⟩ | _ => none
theorem hpc_impl_isAddress (fu : Nat) : ∀ f xs o, pc_impl_isAddress fu f xs = some o → ∀ y, o.x = some y → Good E Try.prog f xs (o.g y) := by
  intro f xs o h
  unfold pc_impl_isAddress at h
  split at h
  · exact good_impl_in fu xs o h
  · cases h
theorem goodv_impl_isAddress (fu : Nat) (a_0 : Int) (y : Bool) (hy : F_impl_isAddress fu a_0 = some y) : Good E Try.prog 116 [(.int .i64 a_0)] (enc_bo y) :=
  fun_good E_ok (pc_good (hpc_impl_isAddress fu)) (fn := Try.f116) (c := body_impl_isAddress) (out := out_bo) (y := y) (by kernel_rfl) (by kernel_rfl) (by kernel_rfl) (lpok_impl_isAddress fu) (fun d hd => out_bo_enc d _ hd) ((ev_impl_isAddress fu a_0).trans hy)
theorem good_impl_isAddress (fu : Nat) : ∀ xs o, S_impl_isAddress fu xs = some o → ∀ y, o.x = some y → Good E Try.prog 116 xs (o.g y) := by
  intro xs o h y hy
  unfold S_impl_isAddress at h
  split at h
  · rename_i a0_0
    cases h
    exact goodv_impl_isAddress fu a0_0 y hy
  · cases h

/-! impl.isPort -/
def F_impl_isPort (fu : Nat) (n_0 : Int) : Option (Bool) :=
  ((F_impl_in fu n_0 0 65535).bind fun y322 => (some y322))
def pc_impl_isPort (fu : Nat) : Pc RT den := fun f xs => match f with | 65 => S_impl_in fu xs | _ => none
def msk_impl_isPort (b : Nat) : List Nat := []
def lp_impl_isPort (fu : Nat) : Lp RT den (Bool) := fun b s k => none
theorem ev_impl_isPort (fu : Nat) (n_0 : Int) : evFun E (pc_impl_isPort fu) msk_impl_isPort (lp_impl_isPort fu) out_bo 120 [(.int .i64 n_0)] = F_impl_isPort fu n_0 := by kernel_rfl
noncomputable def body_impl_isPort : Code := Try.f120.body.getD .skip
theorem lpok_impl_isPort (fu : Nat) : LpOk E (pc_impl_isPort fu) msk_impl_isPort (lp_impl_isPort fu) (loops 0 body_impl_isPort) := by
  have h : loops 0 body_impl_isPort = [] := by kernel_rfl
  rw [h]; intro p hp; cases hp
def S_impl_isPort (fu : Nat) (xs : List (D RT den)) : Option (Out RT den) := match xs with | [.int .i64 a0_0] => some ⟨Bool, F_impl_isPort fu a0_0, enc_bo, fun _ => true⟩ | _ => none
theorem hpc_impl_isPort (fu : Nat) : ∀ f xs o, pc_impl_isPort fu f xs = some o → ∀ y, o.x = some y → Good E Try.prog f xs (o.g y) := by
  intro f xs o h
  unfold pc_impl_isPort at h
  split at h
  · exact good_impl_in fu xs o h
  · cases h
theorem goodv_impl_isPort (fu : Nat) (n_0 : Int) (y : Bool) (hy : F_impl_isPort fu n_0 = some y) : Good E Try.prog 120 [(.int .i64 n_0)] (enc_bo y) :=
  fun_good E_ok (pc_good (hpc_impl_isPort fu)) (fn := Try.f120) (c := body_impl_isPort) (out := out_bo) (y := y) (by kernel_rfl) (by kernel_rfl) (by kernel_rfl) (lpok_impl_isPort fu) (fun d hd => out_bo_enc d _ hd) ((ev_impl_isPort fu n_0).trans hy)
theorem good_impl_isPort (fu : Nat) : ∀ xs o, S_impl_isPort fu xs = some o → ∀ y, o.x = some y → Good E Try.prog 120 xs (o.g y) := by
  intro xs o h y hy
  unfold S_impl_isPort at h
  split at h
  · rename_i a0_0
    cases h
    exact goodv_impl_isPort fu a0_0 y hy
  · cases h

/-! impl.isNumber -/
def F_impl_isNumber (fu : Nat) (x_0 : S_impl_Cmd) : Option (Bool) :=
  (bif (x_0.Kind == 1) then ((F_impl_in fu x_0.Number 0 9).bind fun y317 => (some y317)) else (bif (x_0.Kind == 2) then ((F_impl_in fu x_0.Number 0 9).bind fun y318 => (some y318)) else
    (bif (x_0.Kind == 3) then ((F_impl_in fu x_0.Number 1 3).bind fun y319 => (some y319)) else (bif (x_0.Kind == 9) then ((F_impl_in fu x_0.Number 0 1).bind fun y320 => (some y320)) else
    ((F_impl_isPort fu x_0.Number).bind fun y321 => (some y321))))))
def pc_impl_isNumber (fu : Nat) : Pc RT den := fun f xs => match f with | 65 => S_impl_in fu xs | 120 => S_impl_isPort fu xs | _ => none
def msk_impl_isNumber (b : Nat) : List Nat := []
def lp_impl_isNumber (fu : Nat) : Lp RT den (Bool) := fun b s k => none
theorem ev_impl_isNumber (fu : Nat) (x_0 : S_impl_Cmd) : evFun E (pc_impl_isNumber fu) msk_impl_isNumber (lp_impl_isNumber fu) out_bo 117 [(.agg [(.int .i64 x_0.Kind), (.int .i64 x_0.Expect), (.int .i64 x_0.Name), (.int .i64 x_0.Addr), (.int .i64 x_0.Number), (.int .i64 x_0.Proto)])] = F_impl_isNumber fu x_0 := by kernel_rfl
noncomputable def body_impl_isNumber : Code := Try.f117.body.getD .skip
theorem lpok_impl_isNumber (fu : Nat) : LpOk E (pc_impl_isNumber fu) msk_impl_isNumber (lp_impl_isNumber fu) (loops 0 body_impl_isNumber) := by
  have h : loops 0 body_impl_isNumber = [] := by kernel_rfl
  rw [h]; intro p hp; cases hp
def S_impl_isNumber (fu : Nat) (xs : List (D RT den)) : Option (Out RT den) := match xs with | [.agg [.int .i64 a0_1, .int .i64 a0_2, .int .i64 a0_3, .int .i64 a0_4, .int .i64 a0_5, .int .i64 a0_6]] => some ⟨Bool, F_impl_isNumber fu (⟨a0_1, a0_2, a0_3, a0_4, a0_5, a0_6⟩ : S_impl_Cmd), enc_bo, fun _ => true⟩ | _ => none
theorem hpc_impl_isNumber (fu : Nat) : ∀ f xs o, pc_impl_isNumber fu f xs = some o → ∀ y, o.x = some y → Good E Try.prog f xs (o.g y) := by
  intro f xs o h
  unfold pc_impl_isNumber at h
  split at h
  · exact good_impl_in fu xs o h
  · exact good_impl_isPort fu xs o h
  · cases h
theorem goodv_impl_isNumber (fu : Nat) (x_0 : S_impl_Cmd) (y : Bool) (hy : F_impl_isNumber fu x_0 = some y) : Good E Try.prog 117 [(.agg [(.int .i64 x_0.Kind), (.int .i64 x_0.Expect), (.int .i64 x_0.Name), (.int .i64 x_0.Addr), (.int .i64 x_0.Number), (.int .i64 x_0.Proto)])] (enc_bo y) :=
  fun_good E_ok (pc_good (hpc_impl_isNumber fu)) (fn := Try.f117) (c := body_impl_isNumber) (out := out_bo) (y := y) (by kernel_rfl) (by kernel_rfl) (by kernel_rfl) (lpok_impl_isNumber fu) (fun d hd => out_bo_enc d _ hd) ((ev_impl_isNumber fu x_0).trans hy)
theorem good_impl_isNumber (fu : Nat) : ∀ xs o, S_impl_isNumber fu xs = some o → ∀ y, o.x = some y → Good E Try.prog 117 xs (o.g y) := by
  intro xs o h y hy
  unfold S_impl_isNumber at h
  split at h
  · rename_i a0_1 a0_2 a0_3 a0_4 a0_5 a0_6
    cases h
    exact goodv_impl_isNumber fu (⟨a0_1, a0_2, a0_3, a0_4, a0_5, a0_6⟩ : S_impl_Cmd) y hy
  · cases h

/-! impl.isProto -/
def F_impl_isProto (fu : Nat) (n_0 : Int) : Option (Bool) :=
  (((bif (n_0 == 6) then (some true) else (some (n_0 == 17))) : Option Bool).bind fun m323 => (some m323))
def pc_impl_isProto (fu : Nat) : Pc RT den := fun f xs => none
def msk_impl_isProto (b : Nat) : List Nat := match b with | 200001 => [2] | _ => []
def lp_impl_isProto (fu : Nat) : Lp RT den (Bool) := fun b s k => none
theorem ev_impl_isProto (fu : Nat) (n_0 : Int) : evFun E (pc_impl_isProto fu) msk_impl_isProto (lp_impl_isProto fu) out_bo 118 [(.int .i64 n_0)] = F_impl_isProto fu n_0 := by kernel_rfl
noncomputable def body_impl_isProto : Code := Try.f118.body.getD .skip
theorem lpok_impl_isProto (fu : Nat) : LpOk E (pc_impl_isProto fu) msk_impl_isProto (lp_impl_isProto fu) (loops 0 body_impl_isProto) := by
  have h : loops 0 body_impl_isProto = [] := by kernel_rfl
  rw [h]; intro p hp; cases hp
def S_impl_isProto (fu : Nat) (xs : List (D RT den)) : Option (Out RT den) := match xs with | [.int .i64 a0_0] => some ⟨Bool, F_impl_isProto fu a0_0, enc_bo, fun _ => true⟩ | _ => none
theorem hpc_impl_isProto (fu : Nat) : ∀ f xs o, pc_impl_isProto fu f xs = some o → ∀ y, o.x = some y → Good E Try.prog f xs (o.g y) := by
  intro f xs o h
  cases h
theorem goodv_impl_isProto (fu : Nat) (n_0 : Int) (y : Bool) (hy : F_impl_isProto fu n_0 = some y) : Good E Try.prog 118 [(.int .i64 n_0)] (enc_bo y) :=
  fun_good E_ok (pc_good (hpc_impl_isProto fu)) (fn := Try.f118) (c := body_impl_isProto) (out := out_bo) (y := y) (by kernel_rfl) (by kernel_rfl) (by kernel_rfl) (lpok_impl_isProto fu) (fun d hd => out_bo_enc d _ hd) ((ev_impl_isProto fu n_0).trans hy)
theorem good_impl_isProto (fu : Nat) : ∀ xs o, S_impl_isProto fu xs = some o → ∀ y, o.x = some y → Good E Try.prog 118 xs (o.g y) := by
  intro xs o h y hy
  unfold S_impl_isProto at h
  split at h
  · rename_i a0_0
    cases h
    exact goodv_impl_isProto fu a0_0 y hy
  · cases h

/-! impl.CmdFault -/
def F_impl_CmdFault (fu : Nat) (x_0 : S_impl_Cmd) : Option (Int) :=
  ((F_impl_in fu x_0.Kind 1 9).bind fun y293 => (bif (!y293) then (some 1) else ((F_impl_needs fu x_0.Kind).bind fun y294 => ((((F_impl_in fu x_0.Expect (-1) 1000000).bind fun y295 =>
    (bif (!y295) then (some true) else (bif y294.1 then ((F_impl_isName fu x_0.Name).bind fun y296 => (bif (!y296) then (some true) else (bif y294.2.1 then ((F_impl_isAddress fu x_0.Addr).bind fun y297 =>
    (bif (!y297) then (some true) else (bif y294.2.2.1 then ((F_impl_isNumber fu x_0).bind fun y298 => (bif (!y298) then (some true) else (bif y294.2.2.2 then ((F_impl_isProto fu x_0.Proto).bind fun y299 =>
    (some (!y299))) else (some false)))) else (bif y294.2.2.2 then ((F_impl_isProto fu x_0.Proto).bind fun y300 => (some (!y300))) else (some false))))) else (bif y294.2.2.1 then
    ((F_impl_isNumber fu x_0).bind fun y301 => (bif (!y301) then (some true) else (bif y294.2.2.2 then ((F_impl_isProto fu x_0.Proto).bind fun y302 => (some (!y302))) else (some false)))) else
    (bif y294.2.2.2 then ((F_impl_isProto fu x_0.Proto).bind fun y303 => (some (!y303))) else (some false)))))) else (bif y294.2.1 then ((F_impl_isAddress fu x_0.Addr).bind fun y304 =>
    (bif (!y304) then (some true) else (bif y294.2.2.1 then ((F_impl_isNumber fu x_0).bind fun y305 => (bif (!y305) then (some true) else (bif y294.2.2.2 then ((F_impl_isProto fu x_0.Proto).bind fun y306 =>
    (some (!y306))) else (some false)))) else (bif y294.2.2.2 then ((F_impl_isProto fu x_0.Proto).bind fun y307 => (some (!y307))) else (some false))))) else (bif y294.2.2.1 then
    ((F_impl_isNumber fu x_0).bind fun y308 => (bif (!y308) then (some true) else (bif y294.2.2.2 then ((F_impl_isProto fu x_0.Proto).bind fun y309 => (some (!y309))) else (some false)))) else
    (bif y294.2.2.2 then ((F_impl_isProto fu x_0.Proto).bind fun y310 => (some (!y310))) else (some false))))))) : Option Bool).bind fun m311 => (bif m311 then (some 3) else (((bif (!y294.1) then
    (bif (x_0.Name != 0) then (some true) else (bif (!y294.2.1) then (bif (x_0.Addr != 0) then (some true) else (bif (!y294.2.2.1) then (bif (x_0.Number != 0) then (some true) else
    (bif (!y294.2.2.2) then (some (x_0.Proto != 0)) else (some false))) else (bif (!y294.2.2.2) then (some (x_0.Proto != 0)) else (some false)))) else (bif (!y294.2.2.1) then (bif (x_0.Number != 0) then
    (some true) else (bif (!y294.2.2.2) then (some (x_0.Proto != 0)) else (some false))) else (bif (!y294.2.2.2) then (some (x_0.Proto != 0)) else (some false))))) else (bif (!y294.2.1) then
    (bif (x_0.Addr != 0) then (some true) else (bif (!y294.2.2.1) then (bif (x_0.Number != 0) then (some true) else (bif (!y294.2.2.2) then (some (x_0.Proto != 0)) else (some false))) else
    (bif (!y294.2.2.2) then (some (x_0.Proto != 0)) else (some false)))) else (bif (!y294.2.2.1) then (bif (x_0.Number != 0) then (some true) else (bif (!y294.2.2.2) then (some (x_0.Proto != 0)) else
    (some false))) else (bif (!y294.2.2.2) then (some (x_0.Proto != 0)) else (some false))))) : Option Bool).bind fun m312 => (bif m312 then (some 1) else (some 0))))))))
def pc_impl_CmdFault (fu : Nat) : Pc RT den := fun f xs => match f with | 65 => S_impl_in fu xs | 114 => S_impl_needs fu xs | 115 => S_impl_isName fu xs | 116 => S_impl_isAddress fu xs | 117 => S_impl_isNumber fu xs | 118 => S_impl_isProto fu xs | _ => none
def msk_impl_CmdFault (b : Nat) : List Nat := match b with | 200004 => [19] | 200006 => [59] | _ => []
def lp_impl_CmdFault (fu : Nat) : Lp RT den (Int) := fun b s k => none
theorem ev_impl_CmdFault (fu : Nat) (x_0 : S_impl_Cmd) : evFun E (pc_impl_CmdFault fu) msk_impl_CmdFault (lp_impl_CmdFault fu) out_i64 101 [(.agg [(.int .i64 x_0.Kind), (.int .i64 x_0.Expect), (.int .i64 x_0.Name), (.int .i64 x_0.Addr), (.int .i64 x_0.Number), (.int .i64 x_0.Proto)])] = F_impl_CmdFault fu x_0 := by kernel_rfl
noncomputable def body_impl_CmdFault : Code := Try.f101.body.getD .skip
theorem lpok_impl_CmdFault (fu : Nat) : LpOk E (pc_impl_CmdFault fu) msk_impl_CmdFault (lp_impl_CmdFault fu) (loops 0 body_impl_CmdFault) := by
  have h : loops 0 body_impl_CmdFault = [] := by kernel_rfl
  rw [h]; intro p hp; cases hp
def S_impl_CmdFault (fu : Nat) (xs : List (D RT den)) : Option (Out RT den) := match xs with | [.agg [.int .i64 a0_1, .int .i64 a0_2, .int .i64 a0_3, .int .i64 a0_4, .int .i64 a0_5, .int .i64 a0_6]] => some ⟨Int, F_impl_CmdFault fu (⟨a0_1, a0_2, a0_3, a0_4, a0_5, a0_6⟩ : S_impl_Cmd), enc_i64, fun _ => true⟩ | _ => none
theorem hpc_impl_CmdFault (fu : Nat) : ∀ f xs o, pc_impl_CmdFault fu f xs = some o → ∀ y, o.x = some y → Good E Try.prog f xs (o.g y) := by
  intro f xs o h
  unfold pc_impl_CmdFault at h
  split at h
  · exact good_impl_in fu xs o h
  · exact good_impl_needs fu xs o h
  · exact good_impl_isName fu xs o h
  · exact good_impl_isAddress fu xs o h
  · exact good_impl_isNumber fu xs o h
  · exact good_impl_isProto fu xs o h
  · cases h
theorem goodv_impl_CmdFault (fu : Nat) (x_0 : S_impl_Cmd) (y : Int) (hy : F_impl_CmdFault fu x_0 = some y) : Good E Try.prog 101 [(.agg [(.int .i64 x_0.Kind), (.int .i64 x_0.Expect), (.int .i64 x_0.Name), (.int .i64 x_0.Addr), (.int .i64 x_0.Number), (.int .i64 x_0.Proto)])] (enc_i64 y) :=
  fun_good E_ok (pc_good (hpc_impl_CmdFault fu)) (fn := Try.f101) (c := body_impl_CmdFault) (out := out_i64) (y := y) (by kernel_rfl) (by kernel_rfl) (by kernel_rfl) (lpok_impl_CmdFault fu) (fun d hd => out_i64_enc d _ hd) ((ev_impl_CmdFault fu x_0).trans hy)
theorem good_impl_CmdFault (fu : Nat) : ∀ xs o, S_impl_CmdFault fu xs = some o → ∀ y, o.x = some y → Good E Try.prog 101 xs (o.g y) := by
  intro xs o h y hy
  unfold S_impl_CmdFault at h
  split at h
  · rename_i a0_1 a0_2 a0_3 a0_4 a0_5 a0_6
    cases h
    exact goodv_impl_CmdFault fu (⟨a0_1, a0_2, a0_3, a0_4, a0_5, a0_6⟩ : S_impl_Cmd) y hy
  · cases h

/-! impl.EntryFault -/
def F_impl_EntryFault (fu : Nat) (x_0 : S_impl_Entry) : Option (Int) :=
  ((((F_impl_in fu x_0.Term 1 100000).bind fun y288 => (bif (!y288) then (some true) else ((F_impl_in fu x_0.Client 0 999).bind fun y289 => (bif (!y289) then (some true) else
    ((F_impl_in fu x_0.Seq 0 1000000).bind fun y290 => (some (!y290))))))) : Option Bool).bind fun m291 => (bif m291 then (some 3) else (bif (!((x_0.Client == 0) == (x_0.Seq == 0))) then
    (some 1) else (bif (x_0.Client != 0) then ((F_impl_CmdFault fu x_0.Cmd).bind fun y292 => (some y292)) else (bif (!((x_0.Cmd.Kind == 0) && ((x_0.Cmd.Expect == 0) &&
    ((x_0.Cmd.Name == 0) && ((x_0.Cmd.Addr == 0) && ((x_0.Cmd.Number == 0) && ((x_0.Cmd.Proto == 0) && true))))))) then (some 1) else (some 0))))))
def pc_impl_EntryFault (fu : Nat) : Pc RT den := fun f xs => match f with | 65 => S_impl_in fu xs | 101 => S_impl_CmdFault fu xs | _ => none
def msk_impl_EntryFault (b : Nat) : List Nat := match b with | 200001 => [3] | _ => []
def lp_impl_EntryFault (fu : Nat) : Lp RT den (Int) := fun b s k => none
theorem ev_impl_EntryFault (fu : Nat) (x_0 : S_impl_Entry) : evFun E (pc_impl_EntryFault fu) msk_impl_EntryFault (lp_impl_EntryFault fu) out_i64 70 [(.agg [(.int .i64 x_0.Term), (.int .i64 x_0.Client), (.int .i64 x_0.Seq), (.int .i64 x_0.Cmd.Kind), (.int .i64 x_0.Cmd.Expect), (.int .i64 x_0.Cmd.Name), (.int .i64 x_0.Cmd.Addr), (.int .i64 x_0.Cmd.Number), (.int .i64 x_0.Cmd.Proto)])] = F_impl_EntryFault fu x_0 := by kernel_rfl
noncomputable def body_impl_EntryFault : Code := Try.f70.body.getD .skip
theorem lpok_impl_EntryFault (fu : Nat) : LpOk E (pc_impl_EntryFault fu) msk_impl_EntryFault (lp_impl_EntryFault fu) (loops 0 body_impl_EntryFault) := by
  have h : loops 0 body_impl_EntryFault = [] := by kernel_rfl
  rw [h]; intro p hp; cases hp
def S_impl_EntryFault (fu : Nat) (xs : List (D RT den)) : Option (Out RT den) := match xs with | [.agg [.int .i64 a0_1, .int .i64 a0_2, .int .i64 a0_3, .int .i64 a0_5, .int .i64 a0_6, .int .i64 a0_7, .int .i64 a0_8, .int .i64 a0_9, .int .i64 a0_10]] => some ⟨Int, F_impl_EntryFault fu (⟨a0_1, a0_2, a0_3, (⟨a0_5, a0_6, a0_7, a0_8, a0_9, a0_10⟩ : S_impl_Cmd)⟩ : S_impl_Entry), enc_i64, fun _ => true⟩ | _ => none
theorem hpc_impl_EntryFault (fu : Nat) : ∀ f xs o, pc_impl_EntryFault fu f xs = some o → ∀ y, o.x = some y → Good E Try.prog f xs (o.g y) := by
  intro f xs o h
  unfold pc_impl_EntryFault at h
  split at h
  · exact good_impl_in fu xs o h
  · exact good_impl_CmdFault fu xs o h
  · cases h
theorem goodv_impl_EntryFault (fu : Nat) (x_0 : S_impl_Entry) (y : Int) (hy : F_impl_EntryFault fu x_0 = some y) : Good E Try.prog 70 [(.agg [(.int .i64 x_0.Term), (.int .i64 x_0.Client), (.int .i64 x_0.Seq), (.int .i64 x_0.Cmd.Kind), (.int .i64 x_0.Cmd.Expect), (.int .i64 x_0.Cmd.Name), (.int .i64 x_0.Cmd.Addr), (.int .i64 x_0.Cmd.Number), (.int .i64 x_0.Cmd.Proto)])] (enc_i64 y) :=
  fun_good E_ok (pc_good (hpc_impl_EntryFault fu)) (fn := Try.f70) (c := body_impl_EntryFault) (out := out_i64) (y := y) (by kernel_rfl) (by kernel_rfl) (by kernel_rfl) (lpok_impl_EntryFault fu) (fun d hd => out_i64_enc d _ hd) ((ev_impl_EntryFault fu x_0).trans hy)
theorem good_impl_EntryFault (fu : Nat) : ∀ xs o, S_impl_EntryFault fu xs = some o → ∀ y, o.x = some y → Good E Try.prog 70 xs (o.g y) := by
  intro xs o h y hy
  unfold S_impl_EntryFault at h
  split at h
  · rename_i a0_1 a0_2 a0_3 a0_5 a0_6 a0_7 a0_8 a0_9 a0_10
    cases h
    exact goodv_impl_EntryFault fu (⟨a0_1, a0_2, a0_3, (⟨a0_5, a0_6, a0_7, a0_8, a0_9, a0_10⟩ : S_impl_Cmd)⟩ : S_impl_Entry) y hy
  · cases h

/-! impl.LogFault -/
def F_impl_LogFault_B0 {ρ : Type} (fu : Nat) (log0_0 : (Sl S_impl_Entry)) (t9_1 : (Sl S_impl_Entry)) (t10_2 : Int) (k0 : Int → Int → Int → Int → Int → Int → Int → Int → Int → Int → Option ρ) (k1 : Int → Int → Int → Int → Int → Int → Int → Int → Int → Option ρ) (k2 : Option ρ) (t11_3 : Int) (go : Int → Option ρ) : Option ρ :=
  (bif (decide (t11_3 < t10_2)) then ((bif (decide (0 ≤ t11_3) && decide ((Int.toNat t11_3) < t9_1.n)) then some () else none : Option Unit).bind fun _ => ((F_impl_EntryFault fu (t9_1.f (Int.toNat t11_3))).bind fun y267 =>
    (bif (y267 != 0) then (k0 y267 (t9_1.f (Int.toNat t11_3)).Term (t9_1.f (Int.toNat t11_3)).Client (t9_1.f (Int.toNat t11_3)).Seq (t9_1.f (Int.toNat t11_3)).Cmd.Kind (t9_1.f (Int.toNat t11_3)).Cmd.Expect (t9_1.f (Int.toNat t11_3)).Cmd.Name (t9_1.f (Int.toNat t11_3)).Cmd.Addr (t9_1.f (Int.toNat t11_3)).Cmd.Number (t9_1.f (Int.toNat t11_3)).Cmd.Proto) else
    (((bif (decide (t11_3 > 0)) then ((bif (decide (0 ≤ (IntKind.wrap .i64 (t11_3 - 1))) && decide ((Int.toNat (IntKind.wrap .i64 (t11_3 - 1))) < log0_0.n)) then some () else none : Option Unit).bind fun _ =>
    (some (decide ((t9_1.f (Int.toNat t11_3)).Term < (log0_0.f (Int.toNat (IntKind.wrap .i64 (t11_3 - 1)))).Term)))) else (some false)) : Option Bool).bind fun m268 => (bif m268 then
    (k1 (t9_1.f (Int.toNat t11_3)).Term (t9_1.f (Int.toNat t11_3)).Client (t9_1.f (Int.toNat t11_3)).Seq (t9_1.f (Int.toNat t11_3)).Cmd.Kind (t9_1.f (Int.toNat t11_3)).Cmd.Expect (t9_1.f (Int.toNat t11_3)).Cmd.Name (t9_1.f (Int.toNat t11_3)).Cmd.Addr (t9_1.f (Int.toNat t11_3)).Cmd.Number (t9_1.f (Int.toNat t11_3)).Cmd.Proto) else
    (go (IntKind.wrap .i64 (t11_3 + 1)))))))) else k2)
def F_impl_LogFault (fu : Nat) (log_0 : (Sl S_impl_Entry)) : Option (Int) :=
  (bif (decide (((log_0.n : Nat) : Int) > 40)) then (some 2) else (L (fun w0 go0 => F_impl_LogFault_B0 fu log_0 log_0 ((log_0.n : Nat) : Int) (fun z269 z270 z271 z272 z273 z274 z275 z276 z277 z278 =>
    (some z269)) (fun z279 z280 z281 z282 z283 z284 z285 z286 z287 => (some 1)) (some 0) w0 go0) fu (0 : Int)))
def pc_impl_LogFault (fu : Nat) : Pc RT den := fun f xs => match f with | 70 => S_impl_EntryFault fu xs | _ => none
def msk_impl_LogFault (b : Nat) : List Nat := match b with | 0 => [1, 2, 3, 4, 5, 6, 7, 8, 12, 13, 14, 15, 16, 17, 18, 19, 20, 21, 22, 23, 24, 25, 26, 27, 28, 29, 30, 31, 32, 33, 34] | 100000 => [0, 1, 3, 4, 5, 6, 7, 8, 9, 10, 11, 12, 13, 14, 15, 16, 17, 18, 19, 20, 21, 22, 23, 24, 25, 26, 27, 28, 29, 30, 31, 32, 33, 34] | 200009 => [33] | _ => []
def ps_impl_LogFault_0 : List (Pat RT) := [.flat (.rs .impl_Entry), .flat .dead, .flat .dead, .flat .dead, .flat .dead, .flat .dead, .flat .dead, .flat .dead, .flat .dead, .flat (.rs .impl_Entry), .flat (.int .i64), .flat (.int .i64), .flat .dead, .flat .dead, .flat .dead, .flat .dead, .flat .dead, .flat .dead, .flat .dead, .flat .dead, .flat .dead, .flat .dead, .flat .dead, .flat .dead, .flat .dead, .flat .dead, .flat .dead, .flat .dead, .flat .dead, .flat .dead, .flat .dead, .flat .dead, .flat .dead, .flat .dead, .flat .dead]
def os_impl_LogFault_0 : List (OP RT) := []
def conv_impl_LogFault_0 (r : Raw den ps_impl_LogFault_0 os_impl_LogFault_0) : ((Sl S_impl_Entry) × (Sl S_impl_Entry) × Int) × (Int) := ((r.1.1, r.1.2.2.2.2.2.2.2.2.2.1, r.1.2.2.2.2.2.2.2.2.2.2.1), r.1.2.2.2.2.2.2.2.2.2.2.2.1)
def back_impl_LogFault_0 (c : (Sl S_impl_Entry) × (Sl S_impl_Entry) × Int) (w : Int) : St RT den := ⟨[(.rs c.1.z .impl_Entry c.1.n c.1.f), .dead, .dead, .dead, .dead, .dead, .dead, .dead, .dead, (.rs c.2.1.z .impl_Entry c.2.1.n c.2.1.f), (.int .i64 c.2.2), (.int .i64 w), .dead, .dead, .dead, .dead, .dead, .dead, .dead, .dead, .dead, .dead, .dead, .dead, .dead, .dead, .dead, .dead, .dead, .dead, .dead, .dead, .dead, .dead, .dead], []⟩
def Bk_impl_LogFault_0 {ρ : Type} (fu : Nat) (c : (Sl S_impl_Entry) × (Sl S_impl_Entry) × Int) (k : Ex → St RT den → Option ρ) (w : Int) (go : (Int) → Option ρ) : Option ρ := F_impl_LogFault_B0 fu c.1 c.2.1 c.2.2 (fun a0 a1 a2 a3 a4 a5 a6 a7 a8 a9 => k .ret ⟨[.dead, .dead, (.int .i64 a0), .dead, .dead, .dead, .dead, .dead, .dead, .dead, .dead, .dead, .dead, .dead, .dead, .dead, .dead, .dead, .dead, .dead, .dead, .dead, .dead, .dead, .dead, .dead, .dead, .dead, .dead, .dead, .dead, .dead, .dead, .dead, .dead], [(.box [(.int .i64 a1), (.int .i64 a2), (.int .i64 a3), (.int .i64 a4), (.int .i64 a5), (.int .i64 a6), (.int .i64 a7), (.int .i64 a8), (.int .i64 a9)])]⟩) (fun a0 a1 a2 a3 a4 a5 a6 a7 a8 => k .ret ⟨[.dead, .dead, (.int .i64 1), .dead, .dead, .dead, .dead, .dead, .dead, .dead, .dead, .dead, .dead, .dead, .dead, .dead, .dead, .dead, .dead, .dead, .dead, .dead, .dead, .dead, .dead, .dead, .dead, .dead, .dead, .dead, .dead, .dead, .dead, .dead, .dead], [(.box [(.int .i64 a0), (.int .i64 a1), (.int .i64 a2), (.int .i64 a3), (.int .i64 a4), (.int .i64 a5), (.int .i64 a6), (.int .i64 a7), (.int .i64 a8)])]⟩) (k (.exit 0) ⟨[.dead, .dead, .dead, .dead, .dead, .dead, .dead, .dead, .dead, .dead, .dead, .dead, .dead, .dead, .dead, .dead, .dead, .dead, .dead, .dead, .dead, .dead, .dead, .dead, .dead, .dead, .dead, .dead, .dead, .dead, .dead, .dead, .dead, .dead, .dead], []⟩) w go
def lp_impl_LogFault (fu : Nat) : Lp RT den (Int) := fun b s k => match b with | 0 => handle ps_impl_LogFault_0 os_impl_LogFault_0 conv_impl_LogFault_0 (Bk_impl_LogFault_0 fu) fu s k | _ => none
theorem ev_impl_LogFault (fu : Nat) (log_0 : (Sl S_impl_Entry)) : evFun E (pc_impl_LogFault fu) msk_impl_LogFault (lp_impl_LogFault fu) out_i64 95 [(.rs log_0.z .impl_Entry log_0.n log_0.f)] = F_impl_LogFault fu log_0 := by kernel_rfl
noncomputable def body_impl_LogFault : Code := Try.f95.body.getD .skip
noncomputable def lc_impl_LogFault_0 : Code := ((loops 0 body_impl_LogFault).getD 0 (0, .skip)).2
theorem round_impl_LogFault_0 (fu : Nat) (it : St RT den → Option (Int)) (k : Ex → St RT den → Option (Int)) c w : evCode E (pc_impl_LogFault fu) msk_impl_LogFault (lp_impl_LogFault fu) 0 lc_impl_LogFault_0 (back_impl_LogFault_0 c w) (after (msk_impl_LogFault 0) (msk_impl_LogFault 100000) 0 it k) = Bk_impl_LogFault_0 fu c k w (fun w => it (back_impl_LogFault_0 c w)) := by kernel_rfl
theorem lpok_impl_LogFault_0 (fu : Nat) : ∀ s k r, lp_impl_LogFault fu 0 s k = some r → ∃ fuel, iter (msk_impl_LogFault 0) (msk_impl_LogFault 100000) s.objs.length (evCode E (pc_impl_LogFault fu) msk_impl_LogFault (lp_impl_LogFault fu) 0 lc_impl_LogFault_0) fuel s k = some r :=
  handle_ok (ps := ps_impl_LogFault_0) (os := os_impl_LogFault_0) (conv := conv_impl_LogFault_0) (B := Bk_impl_LogFault_0 fu) (fu := fu) back_impl_LogFault_0 (fun raw => by kernel_rfl) 0 (fun c w => by kernel_rfl) (round_impl_LogFault_0 fu)
theorem lpok_impl_LogFault (fu : Nat) : LpOk E (pc_impl_LogFault fu) msk_impl_LogFault (lp_impl_LogFault fu) (loops 0 body_impl_LogFault) := loop_all 1 (by kernel_rfl) fun i hi => match i, hi with
  | 0, _ => by
    have h : (loops 0 body_impl_LogFault).getD 0 (0, .skip) = (0, lc_impl_LogFault_0) := by kernel_rfl
    rw [h]; exact lpok_impl_LogFault_0 fu
  | i + 1, hi => absurd hi (by omega)
def S_impl_LogFault (fu : Nat) (xs : List (D RT den)) : Option (Out RT den) := match xs with | [.rs za0_0 .impl_Entry na0_0 fa0_0] => some ⟨Int, F_impl_LogFault fu (⟨za0_0, na0_0, fa0_0⟩ : (Sl S_impl_Entry)), enc_i64, fun _ => true⟩ | _ => none
theorem hpc_impl_LogFault (fu : Nat) : ∀ f xs o, pc_impl_LogFault fu f xs = some o → ∀ y, o.x = some y → Good E Try.prog f xs (o.g y) := by
  intro f xs o h
  unfold pc_impl_LogFault at h
  split at h
  · exact good_impl_EntryFault fu xs o h
  · cases h
theorem goodv_impl_LogFault (fu : Nat) (log_0 : (Sl S_impl_Entry)) (y : Int) (hy : F_impl_LogFault fu log_0 = some y) : Good E Try.prog 95 [(.rs log_0.z .impl_Entry log_0.n log_0.f)] (enc_i64 y) :=
  fun_good E_ok (pc_good (hpc_impl_LogFault fu)) (fn := Try.f95) (c := body_impl_LogFault) (out := out_i64) (y := y) (by kernel_rfl) (by kernel_rfl) (by kernel_rfl) (lpok_impl_LogFault fu) (fun d hd => out_i64_enc d _ hd) ((ev_impl_LogFault fu log_0).trans hy)
theorem good_impl_LogFault (fu : Nat) : ∀ xs o, S_impl_LogFault fu xs = some o → ∀ y, o.x = some y → Good E Try.prog 95 xs (o.g y) := by
  intro xs o h y hy
  unfold S_impl_LogFault at h
  split at h
  · rename_i za0_0 na0_0 fa0_0
    cases h
    exact goodv_impl_LogFault fu (⟨za0_0, na0_0, fa0_0⟩ : (Sl S_impl_Entry)) y hy
  · cases h

/-! impl.size[impl.Entry] -/
def F_impl_size_impl_Entry (fu : Nat) (list_0 : (Sl S_impl_Entry)) : Option (Int) :=
  (some ((list_0.n : Nat) : Int))
def pc_impl_size_impl_Entry (fu : Nat) : Pc RT den := fun f xs => none
def msk_impl_size_impl_Entry (b : Nat) : List Nat := []
def lp_impl_size_impl_Entry (fu : Nat) : Lp RT den (Int) := fun b s k => none
theorem ev_impl_size_impl_Entry (fu : Nat) (list_0 : (Sl S_impl_Entry)) : evFun E (pc_impl_size_impl_Entry fu) msk_impl_size_impl_Entry (lp_impl_size_impl_Entry fu) out_i64 72 [(.rs list_0.z .impl_Entry list_0.n list_0.f)] = F_impl_size_impl_Entry fu list_0 := by kernel_rfl
noncomputable def body_impl_size_impl_Entry : Code := Try.f72.body.getD .skip
theorem lpok_impl_size_impl_Entry (fu : Nat) : LpOk E (pc_impl_size_impl_Entry fu) msk_impl_size_impl_Entry (lp_impl_size_impl_Entry fu) (loops 0 body_impl_size_impl_Entry) := by
  have h : loops 0 body_impl_size_impl_Entry = [] := by kernel_rfl
  rw [h]; intro p hp; cases hp
def S_impl_size_impl_Entry (fu : Nat) (xs : List (D RT den)) : Option (Out RT den) := match xs with | [.rs za0_0 .impl_Entry na0_0 fa0_0] => some ⟨Int, F_impl_size_impl_Entry fu (⟨za0_0, na0_0, fa0_0⟩ : (Sl S_impl_Entry)), enc_i64, fun _ => true⟩ | _ => none
theorem hpc_impl_size_impl_Entry (fu : Nat) : ∀ f xs o, pc_impl_size_impl_Entry fu f xs = some o → ∀ y, o.x = some y → Good E Try.prog f xs (o.g y) := by
  intro f xs o h
  cases h
theorem goodv_impl_size_impl_Entry (fu : Nat) (list_0 : (Sl S_impl_Entry)) (y : Int) (hy : F_impl_size_impl_Entry fu list_0 = some y) : Good E Try.prog 72 [(.rs list_0.z .impl_Entry list_0.n list_0.f)] (enc_i64 y) :=
  fun_good E_ok (pc_good (hpc_impl_size_impl_Entry fu)) (fn := Try.f72) (c := body_impl_size_impl_Entry) (out := out_i64) (y := y) (by kernel_rfl) (by kernel_rfl) (by kernel_rfl) (lpok_impl_size_impl_Entry fu) (fun d hd => out_i64_enc d _ hd) ((ev_impl_size_impl_Entry fu list_0).trans hy)
theorem good_impl_size_impl_Entry (fu : Nat) : ∀ xs o, S_impl_size_impl_Entry fu xs = some o → ∀ y, o.x = some y → Good E Try.prog 72 xs (o.g y) := by
  intro xs o h y hy
  unfold S_impl_size_impl_Entry at h
  split at h
  · rename_i za0_0 na0_0 fa0_0
    cases h
    exact goodv_impl_size_impl_Entry fu (⟨za0_0, na0_0, fa0_0⟩ : (Sl S_impl_Entry)) y hy
  · cases h

/-! impl.last -/
def F_impl_last (fu : Nat) (log_0 : (Sl S_impl_Entry)) : Option (S_impl_Entry) :=
  (bif (((log_0.n : Nat) : Int) == 0) then (some (⟨0, 0, 0, (⟨0, 0, 0, 0, 0, 0⟩ : S_impl_Cmd)⟩ : S_impl_Entry)) else ((bif (decide (0 ≤ (IntKind.wrap .i64 (((log_0.n : Nat) : Int) - 1))) &&
    decide ((Int.toNat (IntKind.wrap .i64 (((log_0.n : Nat) : Int) - 1))) < log_0.n)) then some () else none : Option Unit).bind fun _ => (some (log_0.f (Int.toNat (IntKind.wrap .i64 (((log_0.n : Nat) : Int) - 1)))))))
def pc_impl_last (fu : Nat) : Pc RT den := fun f xs => none
def msk_impl_last (b : Nat) : List Nat := []
def lp_impl_last (fu : Nat) : Lp RT den (S_impl_Entry) := fun b s k => none
theorem ev_impl_last (fu : Nat) (log_0 : (Sl S_impl_Entry)) : evFun E (pc_impl_last fu) msk_impl_last (lp_impl_last fu) out_impl_Entry 96 [(.rs log_0.z .impl_Entry log_0.n log_0.f)] = F_impl_last fu log_0 := by kernel_rfl
noncomputable def body_impl_last : Code := Try.f96.body.getD .skip
theorem lpok_impl_last (fu : Nat) : LpOk E (pc_impl_last fu) msk_impl_last (lp_impl_last fu) (loops 0 body_impl_last) := by
  have h : loops 0 body_impl_last = [] := by kernel_rfl
  rw [h]; intro p hp; cases hp
def S_impl_last (fu : Nat) (xs : List (D RT den)) : Option (Out RT den) := match xs with | [.rs za0_0 .impl_Entry na0_0 fa0_0] => some ⟨S_impl_Entry, F_impl_last fu (⟨za0_0, na0_0, fa0_0⟩ : (Sl S_impl_Entry)), enc_impl_Entry, fun _ => true⟩ | _ => none
theorem hpc_impl_last (fu : Nat) : ∀ f xs o, pc_impl_last fu f xs = some o → ∀ y, o.x = some y → Good E Try.prog f xs (o.g y) := by
  intro f xs o h
  cases h
theorem goodv_impl_last (fu : Nat) (log_0 : (Sl S_impl_Entry)) (y : S_impl_Entry) (hy : F_impl_last fu log_0 = some y) : Good E Try.prog 96 [(.rs log_0.z .impl_Entry log_0.n log_0.f)] (enc_impl_Entry y) :=
  fun_good E_ok (pc_good (hpc_impl_last fu)) (fn := Try.f96) (c := body_impl_last) (out := out_impl_Entry) (y := y) (by kernel_rfl) (by kernel_rfl) (by kernel_rfl) (lpok_impl_last fu) (fun d hd => out_impl_Entry_enc d _ hd) ((ev_impl_last fu log_0).trans hy)
theorem good_impl_last (fu : Nat) : ∀ xs o, S_impl_last fu xs = some o → ∀ y, o.x = some y → Good E Try.prog 96 xs (o.g y) := by
  intro xs o h y hy
  unfold S_impl_last at h
  split at h
  · rename_i za0_0 na0_0 fa0_0
    cases h
    exact goodv_impl_last fu (⟨za0_0, na0_0, fa0_0⟩ : (Sl S_impl_Entry)) y hy
  · cases h

/-! impl.size[int64] -/
def F_impl_size_int64 (fu : Nat) (list_0 : (Sl Int)) : Option (Int) :=
  (some ((list_0.n : Nat) : Int))
def pc_impl_size_int64 (fu : Nat) : Pc RT den := fun f xs => none
def msk_impl_size_int64 (b : Nat) : List Nat := []
def lp_impl_size_int64 (fu : Nat) : Lp RT den (Int) := fun b s k => none
theorem ev_impl_size_int64 (fu : Nat) (list_0 : (Sl Int)) : evFun E (pc_impl_size_int64 fu) msk_impl_size_int64 (lp_impl_size_int64 fu) out_i64 97 [(.rs list_0.z .i64 list_0.n list_0.f)] = F_impl_size_int64 fu list_0 := by kernel_rfl
noncomputable def body_impl_size_int64 : Code := Try.f97.body.getD .skip
theorem lpok_impl_size_int64 (fu : Nat) : LpOk E (pc_impl_size_int64 fu) msk_impl_size_int64 (lp_impl_size_int64 fu) (loops 0 body_impl_size_int64) := by
  have h : loops 0 body_impl_size_int64 = [] := by kernel_rfl
  rw [h]; intro p hp; cases hp
def S_impl_size_int64 (fu : Nat) (xs : List (D RT den)) : Option (Out RT den) := match xs with | [.rs za0_0 .i64 na0_0 fa0_0] => some ⟨Int, F_impl_size_int64 fu (⟨za0_0, na0_0, fa0_0⟩ : (Sl Int)), enc_i64, fun _ => true⟩ | _ => none
theorem hpc_impl_size_int64 (fu : Nat) : ∀ f xs o, pc_impl_size_int64 fu f xs = some o → ∀ y, o.x = some y → Good E Try.prog f xs (o.g y) := by
  intro f xs o h
  cases h
theorem goodv_impl_size_int64 (fu : Nat) (list_0 : (Sl Int)) (y : Int) (hy : F_impl_size_int64 fu list_0 = some y) : Good E Try.prog 97 [(.rs list_0.z .i64 list_0.n list_0.f)] (enc_i64 y) :=
  fun_good E_ok (pc_good (hpc_impl_size_int64 fu)) (fn := Try.f97) (c := body_impl_size_int64) (out := out_i64) (y := y) (by kernel_rfl) (by kernel_rfl) (by kernel_rfl) (lpok_impl_size_int64 fu) (fun d hd => out_i64_enc d _ hd) ((ev_impl_size_int64 fu list_0).trans hy)
theorem good_impl_size_int64 (fu : Nat) : ∀ xs o, S_impl_size_int64 fu xs = some o → ∀ y, o.x = some y → Good E Try.prog 97 xs (o.g y) := by
  intro xs o h y hy
  unfold S_impl_size_int64 at h
  split at h
  · rename_i za0_0 na0_0 fa0_0
    cases h
    exact goodv_impl_size_int64 fu (⟨za0_0, na0_0, fa0_0⟩ : (Sl Int)) y hy
  · cases h

/-! impl.NodeFault'1 -/
def F_impl_NodeFault_c1 (fu : Nat) (k_0 : Int) (x_1_1 : Int) : Option (Bool) :=
  ((F_impl_in fu k_0 1 (IntKind.wrap .i64 (x_1_1 + 1))).bind fun y327 => (some (!y327)))
def pc_impl_NodeFault_c1 (fu : Nat) : Pc RT den := fun f xs => match f with | 65 => S_impl_in fu xs | _ => none
def msk_impl_NodeFault_c1 (b : Nat) : List Nat := []
def lp_impl_NodeFault_c1 (fu : Nat) : Lp RT den (Bool) := fun b s k => none
theorem ev_impl_NodeFault_c1 (fu : Nat) (k_0 : Int) (x_1_1 : Int) : evFun E (pc_impl_NodeFault_c1 fu) msk_impl_NodeFault_c1 (lp_impl_NodeFault_c1 fu) out_bo 99 [(.int .i64 k_0), (.rptr [(.int .i64 x_1_1)])] = F_impl_NodeFault_c1 fu k_0 x_1_1 := by kernel_rfl
noncomputable def body_impl_NodeFault_c1 : Code := Try.f99.body.getD .skip
theorem lpok_impl_NodeFault_c1 (fu : Nat) : LpOk E (pc_impl_NodeFault_c1 fu) msk_impl_NodeFault_c1 (lp_impl_NodeFault_c1 fu) (loops 0 body_impl_NodeFault_c1) := by
  have h : loops 0 body_impl_NodeFault_c1 = [] := by kernel_rfl
  rw [h]; intro p hp; cases hp
def S_impl_NodeFault_c1 (fu : Nat) (xs : List (D RT den)) : Option (Out RT den) := match xs with | [.int .i64 a0_0, .rptr [.int .i64 a1_0]] => some ⟨Bool, F_impl_NodeFault_c1 fu a0_0 a1_0, enc_bo, fun _ => true⟩ | _ => none
theorem hpc_impl_NodeFault_c1 (fu : Nat) : ∀ f xs o, pc_impl_NodeFault_c1 fu f xs = some o → ∀ y, o.x = some y → Good E Try.prog f xs (o.g y) := by
  intro f xs o h
  unfold pc_impl_NodeFault_c1 at h
  split at h
  · exact good_impl_in fu xs o h
  · cases h
theorem goodv_impl_NodeFault_c1 (fu : Nat) (k_0 : Int) (x_1_1 : Int) (y : Bool) (hy : F_impl_NodeFault_c1 fu k_0 x_1_1 = some y) : Good E Try.prog 99 [(.int .i64 k_0), (.rptr [(.int .i64 x_1_1)])] (enc_bo y) :=
  fun_good E_ok (pc_good (hpc_impl_NodeFault_c1 fu)) (fn := Try.f99) (c := body_impl_NodeFault_c1) (out := out_bo) (y := y) (by kernel_rfl) (by kernel_rfl) (by kernel_rfl) (lpok_impl_NodeFault_c1 fu) (fun d hd => out_bo_enc d _ hd) ((ev_impl_NodeFault_c1 fu k_0 x_1_1).trans hy)
theorem good_impl_NodeFault_c1 (fu : Nat) : ∀ xs o, S_impl_NodeFault_c1 fu xs = some o → ∀ y, o.x = some y → Good E Try.prog 99 xs (o.g y) := by
  intro xs o h y hy
  unfold S_impl_NodeFault_c1 at h
  split at h
  · rename_i a0_0 a1_0
    cases h
    exact goodv_impl_NodeFault_c1 fu a0_0 a1_0 y hy
  · cases h

/-! slices.IndexFunc[[]int64,int64] -/
def F_slices_IndexFunc_int64_int64_w_impl_NodeFault_c1_B0 {ρ : Type} (fu : Nat) (s0_0 : (Sl Int)) (f1_1 : Int) (t7_2 : Int) (k0 : Int → Option ρ) (k1 : Option ρ) (t8_3 : Int) (go : Int → Option ρ) : Option ρ :=
  (bif (decide (t8_3 < t7_2)) then ((bif (decide (0 ≤ t8_3) && decide ((Int.toNat t8_3) < s0_0.n)) then some () else none : Option Unit).bind fun _ => ((F_impl_NodeFault_c1 fu (s0_0.f (Int.toNat t8_3)) f1_1).bind fun y325 =>
    (bif y325 then (k0 t8_3) else (go (IntKind.wrap .i64 (t8_3 + 1)))))) else k1)
def F_slices_IndexFunc_int64_int64_w_impl_NodeFault_c1 (fu : Nat) (s_0 : (Sl Int)) (f_1_1 : Int) : Option (Int) :=
  (L (fun w0 go0 => F_slices_IndexFunc_int64_int64_w_impl_NodeFault_c1_B0 fu s_0 f_1_1 ((s_0.n : Nat) : Int) (fun z326 => (some z326)) (some (-1)) w0 go0) fu (0 : Int))
def pc_slices_IndexFunc_int64_int64_w_impl_NodeFault_c1 (fu : Nat) : Pc RT den := fun f xs => match f with | 99 => S_impl_NodeFault_c1 fu xs | _ => none
def msk_slices_IndexFunc_int64_int64_w_impl_NodeFault_c1 (b : Nat) : List Nat := match b with | 0 => [2, 3, 4, 5, 6, 9, 10, 11, 12, 13, 14, 15, 16, 17, 18] | 100000 => [0, 1, 2, 3, 5, 6, 7, 8, 9, 10, 11, 12, 13, 14, 15, 16, 17, 18] | _ => []
def ps_slices_IndexFunc_int64_int64_w_impl_NodeFault_c1_0 : List (Pat RT) := [.flat (.rs .i64), .fn 99 [.rptr [(.int .i64)]], .flat .dead, .flat .dead, .flat .dead, .flat .dead, .flat .dead, .flat (.int .i64), .flat (.int .i64), .flat .dead, .flat .dead, .flat .dead, .flat .dead, .flat .dead, .flat .dead, .flat .dead, .flat .dead, .flat .dead, .flat .dead]
def os_slices_IndexFunc_int64_int64_w_impl_NodeFault_c1_0 : List (OP RT) := []
def conv_slices_IndexFunc_int64_int64_w_impl_NodeFault_c1_0 (r : Raw den ps_slices_IndexFunc_int64_int64_w_impl_NodeFault_c1_0 os_slices_IndexFunc_int64_int64_w_impl_NodeFault_c1_0) : ((Sl Int) × Int × Int) × (Int) := ((r.1.1, r.1.2.1.1.1, r.1.2.2.2.2.2.2.2.1), r.1.2.2.2.2.2.2.2.2.1)
def back_slices_IndexFunc_int64_int64_w_impl_NodeFault_c1_0 (c : (Sl Int) × Int × Int) (w : Int) : St RT den := ⟨[(.rs c.1.z .i64 c.1.n c.1.f), (.fn 99 [(.rptr [(.int .i64 c.2.1)])]), .dead, .dead, .dead, .dead, .dead, (.int .i64 c.2.2), (.int .i64 w), .dead, .dead, .dead, .dead, .dead, .dead, .dead, .dead, .dead, .dead], []⟩
def Bk_slices_IndexFunc_int64_int64_w_impl_NodeFault_c1_0 {ρ : Type} (fu : Nat) (c : (Sl Int) × Int × Int) (k : Ex → St RT den → Option ρ) (w : Int) (go : (Int) → Option ρ) : Option ρ := F_slices_IndexFunc_int64_int64_w_impl_NodeFault_c1_B0 fu c.1 c.2.1 c.2.2 (fun a0 => k .ret ⟨[.dead, .dead, .dead, .dead, (.int .i64 a0), .dead, .dead, .dead, .dead, .dead, .dead, .dead, .dead, .dead, .dead, .dead, .dead, .dead, .dead], []⟩) (k (.exit 0) ⟨[.dead, .dead, .dead, .dead, .dead, .dead, .dead, .dead, .dead, .dead, .dead, .dead, .dead, .dead, .dead, .dead, .dead, .dead, .dead], []⟩) w go
def lp_slices_IndexFunc_int64_int64_w_impl_NodeFault_c1 (fu : Nat) : Lp RT den (Int) := fun b s k => match b with | 0 => handle ps_slices_IndexFunc_int64_int64_w_impl_NodeFault_c1_0 os_slices_IndexFunc_int64_int64_w_impl_NodeFault_c1_0 conv_slices_IndexFunc_int64_int64_w_impl_NodeFault_c1_0 (Bk_slices_IndexFunc_int64_int64_w_impl_NodeFault_c1_0 fu) fu s k | _ => none
theorem ev_slices_IndexFunc_int64_int64_w_impl_NodeFault_c1 (fu : Nat) (s_0 : (Sl Int)) (f_1_1 : Int) : evFun E (pc_slices_IndexFunc_int64_int64_w_impl_NodeFault_c1 fu) msk_slices_IndexFunc_int64_int64_w_impl_NodeFault_c1 (lp_slices_IndexFunc_int64_int64_w_impl_NodeFault_c1 fu) out_i64 113 [(.rs s_0.z .i64 s_0.n s_0.f), (.fn 99 [(.rptr [(.int .i64 f_1_1)])])] = F_slices_IndexFunc_int64_int64_w_impl_NodeFault_c1 fu s_0 f_1_1 := by kernel_rfl
noncomputable def body_slices_IndexFunc_int64_int64_w_impl_NodeFault_c1 : Code := Try.f113.body.getD .skip
noncomputable def lc_slices_IndexFunc_int64_int64_w_impl_NodeFault_c1_0 : Code := ((loops 0 body_slices_IndexFunc_int64_int64_w_impl_NodeFault_c1).getD 0 (0, .skip)).2
theorem round_slices_IndexFunc_int64_int64_w_impl_NodeFault_c1_0 (fu : Nat) (it : St RT den → Option (Int)) (k : Ex → St RT den → Option (Int)) c w : evCode E (pc_slices_IndexFunc_int64_int64_w_impl_NodeFault_c1 fu) msk_slices_IndexFunc_int64_int64_w_impl_NodeFault_c1 (lp_slices_IndexFunc_int64_int64_w_impl_NodeFault_c1 fu) 0 lc_slices_IndexFunc_int64_int64_w_impl_NodeFault_c1_0 (back_slices_IndexFunc_int64_int64_w_impl_NodeFault_c1_0 c w) (after (msk_slices_IndexFunc_int64_int64_w_impl_NodeFault_c1 0) (msk_slices_IndexFunc_int64_int64_w_impl_NodeFault_c1 100000) 0 it k) = Bk_slices_IndexFunc_int64_int64_w_impl_NodeFault_c1_0 fu c k w (fun w => it (back_slices_IndexFunc_int64_int64_w_impl_NodeFault_c1_0 c w)) := by kernel_rfl
theorem lpok_slices_IndexFunc_int64_int64_w_impl_NodeFault_c1_0 (fu : Nat) : ∀ s k r, lp_slices_IndexFunc_int64_int64_w_impl_NodeFault_c1 fu 0 s k = some r → ∃ fuel, iter (msk_slices_IndexFunc_int64_int64_w_impl_NodeFault_c1 0) (msk_slices_IndexFunc_int64_int64_w_impl_NodeFault_c1 100000) s.objs.length (evCode E (pc_slices_IndexFunc_int64_int64_w_impl_NodeFault_c1 fu) msk_slices_IndexFunc_int64_int64_w_impl_NodeFault_c1 (lp_slices_IndexFunc_int64_int64_w_impl_NodeFault_c1 fu) 0 lc_slices_IndexFunc_int64_int64_w_impl_NodeFault_c1_0) fuel s k = some r :=
  handle_ok (ps := ps_slices_IndexFunc_int64_int64_w_impl_NodeFault_c1_0) (os := os_slices_IndexFunc_int64_int64_w_impl_NodeFault_c1_0) (conv := conv_slices_IndexFunc_int64_int64_w_impl_NodeFault_c1_0) (B := Bk_slices_IndexFunc_int64_int64_w_impl_NodeFault_c1_0 fu) (fu := fu) back_slices_IndexFunc_int64_int64_w_impl_NodeFault_c1_0 (fun raw => by kernel_rfl) 0 (fun c w => by kernel_rfl) (round_slices_IndexFunc_int64_int64_w_impl_NodeFault_c1_0 fu)
theorem lpok_slices_IndexFunc_int64_int64_w_impl_NodeFault_c1 (fu : Nat) : LpOk E (pc_slices_IndexFunc_int64_int64_w_impl_NodeFault_c1 fu) msk_slices_IndexFunc_int64_int64_w_impl_NodeFault_c1 (lp_slices_IndexFunc_int64_int64_w_impl_NodeFault_c1 fu) (loops 0 body_slices_IndexFunc_int64_int64_w_impl_NodeFault_c1) := loop_all 1 (by kernel_rfl) fun i hi => match i, hi with
  | 0, _ => by
    have h : (loops 0 body_slices_IndexFunc_int64_int64_w_impl_NodeFault_c1).getD 0 (0, .skip) = (0, lc_slices_IndexFunc_int64_int64_w_impl_NodeFault_c1_0) := by kernel_rfl
    rw [h]; exact lpok_slices_IndexFunc_int64_int64_w_impl_NodeFault_c1_0 fu
  | i + 1, hi => absurd hi (by omega)
def S_slices_IndexFunc_int64_int64_w_impl_NodeFault_c1 (fu : Nat) (xs : List (D RT den)) : Option (Out RT den) := match xs with | [.rs za0_0 .i64 na0_0 fa0_0, .fn 99 [.rptr [.int .i64 a1_0]]] => some ⟨Int, F_slices_IndexFunc_int64_int64_w_impl_NodeFault_c1 fu (⟨za0_0, na0_0, fa0_0⟩ : (Sl Int)) a1_0, enc_i64, fun _ => true⟩ | _ => none
theorem hpc_slices_IndexFunc_int64_int64_w_impl_NodeFault_c1 (fu : Nat) : ∀ f xs o, pc_slices_IndexFunc_int64_int64_w_impl_NodeFault_c1 fu f xs = some o → ∀ y, o.x = some y → Good E Try.prog f xs (o.g y) := by
  intro f xs o h
  unfold pc_slices_IndexFunc_int64_int64_w_impl_NodeFault_c1 at h
  split at h
  · exact good_impl_NodeFault_c1 fu xs o h
  · cases h
theorem goodv_slices_IndexFunc_int64_int64_w_impl_NodeFault_c1 (fu : Nat) (s_0 : (Sl Int)) (f_1_1 : Int) (y : Int) (hy : F_slices_IndexFunc_int64_int64_w_impl_NodeFault_c1 fu s_0 f_1_1 = some y) : Good E Try.prog 113 [(.rs s_0.z .i64 s_0.n s_0.f), (.fn 99 [(.rptr [(.int .i64 f_1_1)])])] (enc_i64 y) :=
  fun_good E_ok (pc_good (hpc_slices_IndexFunc_int64_int64_w_impl_NodeFault_c1 fu)) (fn := Try.f113) (c := body_slices_IndexFunc_int64_int64_w_impl_NodeFault_c1) (out := out_i64) (y := y) (by kernel_rfl) (by kernel_rfl) (by kernel_rfl) (lpok_slices_IndexFunc_int64_int64_w_impl_NodeFault_c1 fu) (fun d hd => out_i64_enc d _ hd) ((ev_slices_IndexFunc_int64_int64_w_impl_NodeFault_c1 fu s_0 f_1_1).trans hy)
theorem good_slices_IndexFunc_int64_int64_w_impl_NodeFault_c1 (fu : Nat) : ∀ xs o, S_slices_IndexFunc_int64_int64_w_impl_NodeFault_c1 fu xs = some o → ∀ y, o.x = some y → Good E Try.prog 113 xs (o.g y) := by
  intro xs o h y hy
  unfold S_slices_IndexFunc_int64_int64_w_impl_NodeFault_c1 at h
  split at h
  · rename_i za0_0 na0_0 fa0_0 a1_0
    cases h
    exact goodv_slices_IndexFunc_int64_int64_w_impl_NodeFault_c1 fu (⟨za0_0, na0_0, fa0_0⟩ : (Sl Int)) a1_0 y hy
  · cases h

/-! slices.ContainsFunc[[]int64,int64] -/
def F_slices_ContainsFunc_int64_int64_w_impl_NodeFault_c1 (fu : Nat) (s_0 : (Sl Int)) (f_1_1 : Int) : Option (Bool) :=
  ((F_slices_IndexFunc_int64_int64_w_impl_NodeFault_c1 fu s_0 f_1_1).bind fun y324 => (some (decide (y324 ≥ 0))))
def pc_slices_ContainsFunc_int64_int64_w_impl_NodeFault_c1 (fu : Nat) : Pc RT den := fun f xs => match f with | 113 => S_slices_IndexFunc_int64_int64_w_impl_NodeFault_c1 fu xs | _ => none
def msk_slices_ContainsFunc_int64_int64_w_impl_NodeFault_c1 (b : Nat) : List Nat := []
def lp_slices_ContainsFunc_int64_int64_w_impl_NodeFault_c1 (fu : Nat) : Lp RT den (Bool) := fun b s k => none
theorem ev_slices_ContainsFunc_int64_int64_w_impl_NodeFault_c1 (fu : Nat) (s_0 : (Sl Int)) (f_1_1 : Int) : evFun E (pc_slices_ContainsFunc_int64_int64_w_impl_NodeFault_c1 fu) msk_slices_ContainsFunc_int64_int64_w_impl_NodeFault_c1 (lp_slices_ContainsFunc_int64_int64_w_impl_NodeFault_c1 fu) out_bo 98 [(.rs s_0.z .i64 s_0.n s_0.f), (.fn 99 [(.rptr [(.int .i64 f_1_1)])])] = F_slices_ContainsFunc_int64_int64_w_impl_NodeFault_c1 fu s_0 f_1_1 := by kernel_rfl
noncomputable def body_slices_ContainsFunc_int64_int64_w_impl_NodeFault_c1 : Code := Try.f98.body.getD .skip
theorem lpok_slices_ContainsFunc_int64_int64_w_impl_NodeFault_c1 (fu : Nat) : LpOk E (pc_slices_ContainsFunc_int64_int64_w_impl_NodeFault_c1 fu) msk_slices_ContainsFunc_int64_int64_w_impl_NodeFault_c1 (lp_slices_ContainsFunc_int64_int64_w_impl_NodeFault_c1 fu) (loops 0 body_slices_ContainsFunc_int64_int64_w_impl_NodeFault_c1) := by
  have h : loops 0 body_slices_ContainsFunc_int64_int64_w_impl_NodeFault_c1 = [] := by kernel_rfl
  rw [h]; intro p hp; cases hp
def S_slices_ContainsFunc_int64_int64_w_impl_NodeFault_c1 (fu : Nat) (xs : List (D RT den)) : Option (Out RT den) := match xs with | [.rs za0_0 .i64 na0_0 fa0_0, .fn 99 [.rptr [.int .i64 a1_0]]] => some ⟨Bool, F_slices_ContainsFunc_int64_int64_w_impl_NodeFault_c1 fu (⟨za0_0, na0_0, fa0_0⟩ : (Sl Int)) a1_0, enc_bo, fun _ => true⟩ | _ => none
theorem hpc_slices_ContainsFunc_int64_int64_w_impl_NodeFault_c1 (fu : Nat) : ∀ f xs o, pc_slices_ContainsFunc_int64_int64_w_impl_NodeFault_c1 fu f xs = some o → ∀ y, o.x = some y → Good E Try.prog f xs (o.g y) := by
  intro f xs o h
  unfold pc_slices_ContainsFunc_int64_int64_w_impl_NodeFault_c1 at h
  split at h
  · exact good_slices_IndexFunc_int64_int64_w_impl_NodeFault_c1 fu xs o h
  · cases h
theorem goodv_slices_ContainsFunc_int64_int64_w_impl_NodeFault_c1 (fu : Nat) (s_0 : (Sl Int)) (f_1_1 : Int) (y : Bool) (hy : F_slices_ContainsFunc_int64_int64_w_impl_NodeFault_c1 fu s_0 f_1_1 = some y) : Good E Try.prog 98 [(.rs s_0.z .i64 s_0.n s_0.f), (.fn 99 [(.rptr [(.int .i64 f_1_1)])])] (enc_bo y) :=
  fun_good E_ok (pc_good (hpc_slices_ContainsFunc_int64_int64_w_impl_NodeFault_c1 fu)) (fn := Try.f98) (c := body_slices_ContainsFunc_int64_int64_w_impl_NodeFault_c1) (out := out_bo) (y := y) (by kernel_rfl) (by kernel_rfl) (by kernel_rfl) (lpok_slices_ContainsFunc_int64_int64_w_impl_NodeFault_c1 fu) (fun d hd => out_bo_enc d _ hd) ((ev_slices_ContainsFunc_int64_int64_w_impl_NodeFault_c1 fu s_0 f_1_1).trans hy)
theorem good_slices_ContainsFunc_int64_int64_w_impl_NodeFault_c1 (fu : Nat) : ∀ xs o, S_slices_ContainsFunc_int64_int64_w_impl_NodeFault_c1 fu xs = some o → ∀ y, o.x = some y → Good E Try.prog 98 xs (o.g y) := by
  intro xs o h y hy
  unfold S_slices_ContainsFunc_int64_int64_w_impl_NodeFault_c1 at h
  split at h
  · rename_i za0_0 na0_0 fa0_0 a1_0
    cases h
    exact goodv_slices_ContainsFunc_int64_int64_w_impl_NodeFault_c1 fu (⟨za0_0, na0_0, fa0_0⟩ : (Sl Int)) a1_0 y hy
  · cases h

/-! impl.NodeFault'2 -/
def F_impl_NodeFault_c2 (fu : Nat) (k_0 : Int) (x_1_1 : Int) : Option (Bool) :=
  ((F_impl_in fu k_0 0 x_1_1).bind fun y331 => (some (!y331)))
def pc_impl_NodeFault_c2 (fu : Nat) : Pc RT den := fun f xs => match f with | 65 => S_impl_in fu xs | _ => none
def msk_impl_NodeFault_c2 (b : Nat) : List Nat := []
def lp_impl_NodeFault_c2 (fu : Nat) : Lp RT den (Bool) := fun b s k => none
theorem ev_impl_NodeFault_c2 (fu : Nat) (k_0 : Int) (x_1_1 : Int) : evFun E (pc_impl_NodeFault_c2 fu) msk_impl_NodeFault_c2 (lp_impl_NodeFault_c2 fu) out_bo 100 [(.int .i64 k_0), (.rptr [(.int .i64 x_1_1)])] = F_impl_NodeFault_c2 fu k_0 x_1_1 := by kernel_rfl
noncomputable def body_impl_NodeFault_c2 : Code := Try.f100.body.getD .skip
theorem lpok_impl_NodeFault_c2 (fu : Nat) : LpOk E (pc_impl_NodeFault_c2 fu) msk_impl_NodeFault_c2 (lp_impl_NodeFault_c2 fu) (loops 0 body_impl_NodeFault_c2) := by
  have h : loops 0 body_impl_NodeFault_c2 = [] := by kernel_rfl
  rw [h]; intro p hp; cases hp
def S_impl_NodeFault_c2 (fu : Nat) (xs : List (D RT den)) : Option (Out RT den) := match xs with | [.int .i64 a0_0, .rptr [.int .i64 a1_0]] => some ⟨Bool, F_impl_NodeFault_c2 fu a0_0 a1_0, enc_bo, fun _ => true⟩ | _ => none
theorem hpc_impl_NodeFault_c2 (fu : Nat) : ∀ f xs o, pc_impl_NodeFault_c2 fu f xs = some o → ∀ y, o.x = some y → Good E Try.prog f xs (o.g y) := by
  intro f xs o h
  unfold pc_impl_NodeFault_c2 at h
  split at h
  · exact good_impl_in fu xs o h
  · cases h
theorem goodv_impl_NodeFault_c2 (fu : Nat) (k_0 : Int) (x_1_1 : Int) (y : Bool) (hy : F_impl_NodeFault_c2 fu k_0 x_1_1 = some y) : Good E Try.prog 100 [(.int .i64 k_0), (.rptr [(.int .i64 x_1_1)])] (enc_bo y) :=
  fun_good E_ok (pc_good (hpc_impl_NodeFault_c2 fu)) (fn := Try.f100) (c := body_impl_NodeFault_c2) (out := out_bo) (y := y) (by kernel_rfl) (by kernel_rfl) (by kernel_rfl) (lpok_impl_NodeFault_c2 fu) (fun d hd => out_bo_enc d _ hd) ((ev_impl_NodeFault_c2 fu k_0 x_1_1).trans hy)
theorem good_impl_NodeFault_c2 (fu : Nat) : ∀ xs o, S_impl_NodeFault_c2 fu xs = some o → ∀ y, o.x = some y → Good E Try.prog 100 xs (o.g y) := by
  intro xs o h y hy
  unfold S_impl_NodeFault_c2 at h
  split at h
  · rename_i a0_0 a1_0
    cases h
    exact goodv_impl_NodeFault_c2 fu a0_0 a1_0 y hy
  · cases h

/-! slices.IndexFunc[[]int64,int64] -/
def F_slices_IndexFunc_int64_int64_w_impl_NodeFault_c2_B0 {ρ : Type} (fu : Nat) (s0_0 : (Sl Int)) (f1_1 : Int) (t7_2 : Int) (k0 : Int → Option ρ) (k1 : Option ρ) (t8_3 : Int) (go : Int → Option ρ) : Option ρ :=
  (bif (decide (t8_3 < t7_2)) then ((bif (decide (0 ≤ t8_3) && decide ((Int.toNat t8_3) < s0_0.n)) then some () else none : Option Unit).bind fun _ => ((F_impl_NodeFault_c2 fu (s0_0.f (Int.toNat t8_3)) f1_1).bind fun y329 =>
    (bif y329 then (k0 t8_3) else (go (IntKind.wrap .i64 (t8_3 + 1)))))) else k1)
def F_slices_IndexFunc_int64_int64_w_impl_NodeFault_c2 (fu : Nat) (s_0 : (Sl Int)) (f_1_1 : Int) : Option (Int) :=
  (L (fun w0 go0 => F_slices_IndexFunc_int64_int64_w_impl_NodeFault_c2_B0 fu s_0 f_1_1 ((s_0.n : Nat) : Int) (fun z330 => (some z330)) (some (-1)) w0 go0) fu (0 : Int))
def pc_slices_IndexFunc_int64_int64_w_impl_NodeFault_c2 (fu : Nat) : Pc RT den := fun f xs => match f with | 100 => S_impl_NodeFault_c2 fu xs | _ => none
def msk_slices_IndexFunc_int64_int64_w_impl_NodeFault_c2 (b : Nat) : List Nat := match b with | 0 => [2, 3, 4, 5, 6, 9, 10, 11, 12, 13, 14, 15, 16, 17, 18] | 100000 => [0, 1, 2, 3, 5, 6, 7, 8, 9, 10, 11, 12, 13, 14, 15, 16, 17, 18] | _ => []
def ps_slices_IndexFunc_int64_int64_w_impl_NodeFault_c2_0 : List (Pat RT) := [.flat (.rs .i64), .fn 100 [.rptr [(.int .i64)]], .flat .dead, .flat .dead, .flat .dead, .flat .dead, .flat .dead, .flat (.int .i64), .flat (.int .i64), .flat .dead, .flat .dead, .flat .dead, .flat .dead, .flat .dead, .flat .dead, .flat .dead, .flat .dead, .flat .dead, .flat .dead]
def os_slices_IndexFunc_int64_int64_w_impl_NodeFault_c2_0 : List (OP RT) := []
def conv_slices_IndexFunc_int64_int64_w_impl_NodeFault_c2_0 (r : Raw den ps_slices_IndexFunc_int64_int64_w_impl_NodeFault_c2_0 os_slices_IndexFunc_int64_int64_w_impl_NodeFault_c2_0) : ((Sl Int) × Int × Int) × (Int) := ((r.1.1, r.1.2.1.1.1, r.1.2.2.2.2.2.2.2.1), r.1.2.2.2.2.2.2.2.2.1)
def back_slices_IndexFunc_int64_int64_w_impl_NodeFault_c2_0 (c : (Sl Int) × Int × Int) (w : Int) : St RT den := ⟨[(.rs c.1.z .i64 c.1.n c.1.f), (.fn 100 [(.rptr [(.int .i64 c.2.1)])]), .dead, .dead, .dead, .dead, .dead, (.int .i64 c.2.2), (.int .i64 w), .dead, .dead, .dead, .dead, .dead, .dead, .dead, .dead, .dead, .dead], []⟩
def Bk_slices_IndexFunc_int64_int64_w_impl_NodeFault_c2_0 {ρ : Type} (fu : Nat) (c : (Sl Int) × Int × Int) (k : Ex → St RT den → Option ρ) (w : Int) (go : (Int) → Option ρ) : Option ρ := F_slices_IndexFunc_int64_int64_w_impl_NodeFault_c2_B0 fu c.1 c.2.1 c.2.2 (fun a0 => k .ret ⟨[.dead, .dead, .dead, .dead, (.int .i64 a0), .dead, .dead, .dead, .dead, .dead, .dead, .dead, .dead, .dead, .dead, .dead, .dead, .dead, .dead], []⟩) (k (.exit 0) ⟨[.dead, .dead, .dead, .dead, .dead, .dead, .dead, .dead, .dead, .dead, .dead, .dead, .dead, .dead, .dead, .dead, .dead, .dead, .dead], []⟩) w go
def lp_slices_IndexFunc_int64_int64_w_impl_NodeFault_c2 (fu : Nat) : Lp RT den (Int) := fun b s k => match b with | 0 => handle ps_slices_IndexFunc_int64_int64_w_impl_NodeFault_c2_0 os_slices_IndexFunc_int64_int64_w_impl_NodeFault_c2_0 conv_slices_IndexFunc_int64_int64_w_impl_NodeFault_c2_0 (Bk_slices_IndexFunc_int64_int64_w_impl_NodeFault_c2_0 fu) fu s k | _ => none
theorem ev_slices_IndexFunc_int64_int64_w_impl_NodeFault_c2 (fu : Nat) (s_0 : (Sl Int)) (f_1_1 : Int) : evFun E (pc_slices_IndexFunc_int64_int64_w_impl_NodeFault_c2 fu) msk_slices_IndexFunc_int64_int64_w_impl_NodeFault_c2 (lp_slices_IndexFunc_int64_int64_w_impl_NodeFault_c2 fu) out_i64 113 [(.rs s_0.z .i64 s_0.n s_0.f), (.fn 100 [(.rptr [(.int .i64 f_1_1)])])] = F_slices_IndexFunc_int64_int64_w_impl_NodeFault_c2 fu s_0 f_1_1 := by kernel_rfl
noncomputable def body_slices_IndexFunc_int64_int64_w_impl_NodeFault_c2 : Code := Try.f113.body.getD .skip
noncomputable def lc_slices_IndexFunc_int64_int64_w_impl_NodeFault_c2_0 : Code := ((loops 0 body_slices_IndexFunc_int64_int64_w_impl_NodeFault_c2).getD 0 (0, .skip)).2
theorem round_slices_IndexFunc_int64_int64_w_impl_NodeFault_c2_0 (fu : Nat) (it : St RT den → Option (Int)) (k : Ex → St RT den → Option (Int)) c w : evCode E (pc_slices_IndexFunc_int64_int64_w_impl_NodeFault_c2 fu) msk_slices_IndexFunc_int64_int64_w_impl_NodeFault_c2 (lp_slices_IndexFunc_int64_int64_w_impl_NodeFault_c2 fu) 0 lc_slices_IndexFunc_int64_int64_w_impl_NodeFault_c2_0 (back_slices_IndexFunc_int64_int64_w_impl_NodeFault_c2_0 c w) (after (msk_slices_IndexFunc_int64_int64_w_impl_NodeFault_c2 0) (msk_slices_IndexFunc_int64_int64_w_impl_NodeFault_c2 100000) 0 it k) = Bk_slices_IndexFunc_int64_int64_w_impl_NodeFault_c2_0 fu c k w (fun w => it (back_slices_IndexFunc_int64_int64_w_impl_NodeFault_c2_0 c w)) := by kernel_rfl
theorem lpok_slices_IndexFunc_int64_int64_w_impl_NodeFault_c2_0 (fu : Nat) : ∀ s k r, lp_slices_IndexFunc_int64_int64_w_impl_NodeFault_c2 fu 0 s k = some r → ∃ fuel, iter (msk_slices_IndexFunc_int64_int64_w_impl_NodeFault_c2 0) (msk_slices_IndexFunc_int64_int64_w_impl_NodeFault_c2 100000) s.objs.length (evCode E (pc_slices_IndexFunc_int64_int64_w_impl_NodeFault_c2 fu) msk_slices_IndexFunc_int64_int64_w_impl_NodeFault_c2 (lp_slices_IndexFunc_int64_int64_w_impl_NodeFault_c2 fu) 0 lc_slices_IndexFunc_int64_int64_w_impl_NodeFault_c2_0) fuel s k = some r :=
  handle_ok (ps := ps_slices_IndexFunc_int64_int64_w_impl_NodeFault_c2_0) (os := os_slices_IndexFunc_int64_int64_w_impl_NodeFault_c2_0) (conv := conv_slices_IndexFunc_int64_int64_w_impl_NodeFault_c2_0) (B := Bk_slices_IndexFunc_int64_int64_w_impl_NodeFault_c2_0 fu) (fu := fu) back_slices_IndexFunc_int64_int64_w_impl_NodeFault_c2_0 (fun raw => by kernel_rfl) 0 (fun c w => by kernel_rfl) (round_slices_IndexFunc_int64_int64_w_impl_NodeFault_c2_0 fu)
theorem lpok_slices_IndexFunc_int64_int64_w_impl_NodeFault_c2 (fu : Nat) : LpOk E (pc_slices_IndexFunc_int64_int64_w_impl_NodeFault_c2 fu) msk_slices_IndexFunc_int64_int64_w_impl_NodeFault_c2 (lp_slices_IndexFunc_int64_int64_w_impl_NodeFault_c2 fu) (loops 0 body_slices_IndexFunc_int64_int64_w_impl_NodeFault_c2) := loop_all 1 (by kernel_rfl) fun i hi => match i, hi with
  | 0, _ => by
    have h : (loops 0 body_slices_IndexFunc_int64_int64_w_impl_NodeFault_c2).getD 0 (0, .skip) = (0, lc_slices_IndexFunc_int64_int64_w_impl_NodeFault_c2_0) := by kernel_rfl
    rw [h]; exact lpok_slices_IndexFunc_int64_int64_w_impl_NodeFault_c2_0 fu
  | i + 1, hi => absurd hi (by omega)
def S_slices_IndexFunc_int64_int64_w_impl_NodeFault_c2 (fu : Nat) (xs : List (D RT den)) : Option (Out RT den) := match xs with | [.rs za0_0 .i64 na0_0 fa0_0, .fn 100 [.rptr [.int .i64 a1_0]]] => some ⟨Int, F_slices_IndexFunc_int64_int64_w_impl_NodeFault_c2 fu (⟨za0_0, na0_0, fa0_0⟩ : (Sl Int)) a1_0, enc_i64, fun _ => true⟩ | _ => none
theorem hpc_slices_IndexFunc_int64_int64_w_impl_NodeFault_c2 (fu : Nat) : ∀ f xs o, pc_slices_IndexFunc_int64_int64_w_impl_NodeFault_c2 fu f xs = some o → ∀ y, o.x = some y → Good E Try.prog f xs (o.g y) := by
  intro f xs o h
  unfold pc_slices_IndexFunc_int64_int64_w_impl_NodeFault_c2 at h
  split at h
  · exact good_impl_NodeFault_c2 fu xs o h
  · cases h
theorem goodv_slices_IndexFunc_int64_int64_w_impl_NodeFault_c2 (fu : Nat) (s_0 : (Sl Int)) (f_1_1 : Int) (y : Int) (hy : F_slices_IndexFunc_int64_int64_w_impl_NodeFault_c2 fu s_0 f_1_1 = some y) : Good E Try.prog 113 [(.rs s_0.z .i64 s_0.n s_0.f), (.fn 100 [(.rptr [(.int .i64 f_1_1)])])] (enc_i64 y) :=
  fun_good E_ok (pc_good (hpc_slices_IndexFunc_int64_int64_w_impl_NodeFault_c2 fu)) (fn := Try.f113) (c := body_slices_IndexFunc_int64_int64_w_impl_NodeFault_c2) (out := out_i64) (y := y) (by kernel_rfl) (by kernel_rfl) (by kernel_rfl) (lpok_slices_IndexFunc_int64_int64_w_impl_NodeFault_c2 fu) (fun d hd => out_i64_enc d _ hd) ((ev_slices_IndexFunc_int64_int64_w_impl_NodeFault_c2 fu s_0 f_1_1).trans hy)
theorem good_slices_IndexFunc_int64_int64_w_impl_NodeFault_c2 (fu : Nat) : ∀ xs o, S_slices_IndexFunc_int64_int64_w_impl_NodeFault_c2 fu xs = some o → ∀ y, o.x = some y → Good E Try.prog 113 xs (o.g y) := by
  intro xs o h y hy
  unfold S_slices_IndexFunc_int64_int64_w_impl_NodeFault_c2 at h
  split at h
  · rename_i za0_0 na0_0 fa0_0 a1_0
    cases h
    exact goodv_slices_IndexFunc_int64_int64_w_impl_NodeFault_c2 fu (⟨za0_0, na0_0, fa0_0⟩ : (Sl Int)) a1_0 y hy
  · cases h
end Go.Proofs.Ytnfippmeficfjaa.Pc
