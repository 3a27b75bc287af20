/- The functions' evaluated forms, each a proved summary. Conditions: none. -/
import Derived.Test.YtmdjkdgjmbfegaaPnF1
namespace Go.Proofs.Ytmdjkdgjmbfegaa.Pn
open Go Go.RowKit Go.Proofs Vm
set_option linter.unusedVariables false
set_option linter.unusedSimpArgs false
set_option maxRecDepth 100000
/-! laws.eqClusterResult -/
def F_laws_eqClusterResult (fu : Nat) (a_0 : S_impl_ClusterResult) (b_1 : S_impl_ClusterResult) : Option (Bool) :=
  (bif (a_0.Code != b_1.Code) then (some false) else ((F_laws_eqCluster fu a_0.Cluster b_1.Cluster).bind fun y57 => (bif (!y57) then (some false) else (some true))))
def pcf_laws_eqClusterResult (fu : Nat) (f : Nat) (xs : List (D RT den)) : Option (Out RT den) := match f with | 75 => S_laws_eqCluster fu xs | _ => none
def pcx_laws_eqClusterResult (fu : Nat) (f : Nat) (xs : List (D RT den)) (ins : List (Ob RT den)) : Option (OutX RT den) := none
def pc_laws_eqClusterResult (fu : Nat) : Pc RT den := ⟨pcf_laws_eqClusterResult fu, fun _ => false, fun _ => false, pcx_laws_eqClusterResult fu⟩
def msk_laws_eqClusterResult (b : Nat) : List Nat := []
def lp_laws_eqClusterResult (fu : Nat) : Lp RT den (Bool) := fun b s k => none
theorem ev_laws_eqClusterResult (fu : Nat) (a_0 : S_impl_ClusterResult) (b_1 : S_impl_ClusterResult) : evFun E (pc_laws_eqClusterResult fu) msk_laws_eqClusterResult (lp_laws_eqClusterResult fu) out_bo 38 [(.agg [(.int .i64 a_0.Code), (.rs a_0.Cluster.Nodes.z .impl_Node a_0.Cluster.Nodes.n a_0.Cluster.Nodes.f), (.rs a_0.Cluster.Mails.z .impl_Mail a_0.Cluster.Mails.n a_0.Cluster.Mails.f), (.rs a_0.Cluster.Wins.z .impl_Won a_0.Cluster.Wins.n a_0.Cluster.Wins.f), (.rs a_0.Cluster.Seals.z .impl_Seal a_0.Cluster.Seals.n a_0.Cluster.Seals.f)]), (.agg [(.int .i64 b_1.Code), (.rs b_1.Cluster.Nodes.z .impl_Node b_1.Cluster.Nodes.n b_1.Cluster.Nodes.f), (.rs b_1.Cluster.Mails.z .impl_Mail b_1.Cluster.Mails.n b_1.Cluster.Mails.f), (.rs b_1.Cluster.Wins.z .impl_Won b_1.Cluster.Wins.n b_1.Cluster.Wins.f), (.rs b_1.Cluster.Seals.z .impl_Seal b_1.Cluster.Seals.n b_1.Cluster.Seals.f)])] = F_laws_eqClusterResult fu a_0 b_1 := by kernel_rfl
noncomputable def body_laws_eqClusterResult : Code := Try.f38.body.getD .skip
theorem lpok_laws_eqClusterResult (fu : Nat) : LpOk E (pc_laws_eqClusterResult fu) msk_laws_eqClusterResult (lp_laws_eqClusterResult fu) (loops 0 body_laws_eqClusterResult) := by
  have h : loops 0 body_laws_eqClusterResult = [] := by kernel_rfl
  rw [h]; intro p hp; cases hp
def S_laws_eqClusterResult (fu : Nat) (xs : List (D RT den)) : Option (Out RT den) := match xs with | [.agg [.int .i64 a0_1, .rs za0_3 .impl_Node na0_3 fa0_3, .rs za0_4 .impl_Mail na0_4 fa0_4, .rs za0_5 .impl_Won na0_5 fa0_5, .rs za0_6 .impl_Seal na0_6 fa0_6], .agg [.int .i64 a1_1, .rs za1_3 .impl_Node na1_3 fa1_3, .rs za1_4 .impl_Mail na1_4 fa1_4, .rs za1_5 .impl_Won na1_5 fa1_5, .rs za1_6 .impl_Seal na1_6 fa1_6]] => some ⟨Bool, F_laws_eqClusterResult fu (⟨a0_1, (⟨(⟨za0_3, na0_3, fa0_3⟩ : (Sl S_impl_Node_0)), (⟨za0_4, na0_4, fa0_4⟩ : (Sl S_impl_Mail)), (⟨za0_5, na0_5, fa0_5⟩ : (Sl S_impl_Won)), (⟨za0_6, na0_6, fa0_6⟩ : (Sl S_impl_Seal))⟩ : S_impl_Cluster)⟩ : S_impl_ClusterResult) (⟨a1_1, (⟨(⟨za1_3, na1_3, fa1_3⟩ : (Sl S_impl_Node_0)), (⟨za1_4, na1_4, fa1_4⟩ : (Sl S_impl_Mail)), (⟨za1_5, na1_5, fa1_5⟩ : (Sl S_impl_Won)), (⟨za1_6, na1_6, fa1_6⟩ : (Sl S_impl_Seal))⟩ : S_impl_Cluster)⟩ : S_impl_ClusterResult), enc_bo, fun _ => true⟩ | _ => none
theorem hpc_laws_eqClusterResult (fu : Nat) : ∀ f xs o, pcf_laws_eqClusterResult fu f xs = some o → ∀ y, o.x = some y → Good E Try.prog f xs (o.g y) := by
  intro f xs o h
  unfold pcf_laws_eqClusterResult at h
  split at h
  · exact good_laws_eqCluster fu xs o h
  · cases h
theorem hpx_laws_eqClusterResult (fu : Nat) : ∀ f xs ins o, pcx_laws_eqClusterResult fu f xs ins = some o → ∀ y, o.x = some y → GoodX E Try.prog f xs ins (o.g y).1 (o.g y).2 := by
  intro f xs ins o h
  cases h
theorem goodv_laws_eqClusterResult (fu : Nat) (a_0 : S_impl_ClusterResult) (b_1 : S_impl_ClusterResult) (y : Bool) (hy : F_laws_eqClusterResult fu a_0 b_1 = some y) : Good E Try.prog 38 [(.agg [(.int .i64 a_0.Code), (.rs a_0.Cluster.Nodes.z .impl_Node a_0.Cluster.Nodes.n a_0.Cluster.Nodes.f), (.rs a_0.Cluster.Mails.z .impl_Mail a_0.Cluster.Mails.n a_0.Cluster.Mails.f), (.rs a_0.Cluster.Wins.z .impl_Won a_0.Cluster.Wins.n a_0.Cluster.Wins.f), (.rs a_0.Cluster.Seals.z .impl_Seal a_0.Cluster.Seals.n a_0.Cluster.Seals.f)]), (.agg [(.int .i64 b_1.Code), (.rs b_1.Cluster.Nodes.z .impl_Node b_1.Cluster.Nodes.n b_1.Cluster.Nodes.f), (.rs b_1.Cluster.Mails.z .impl_Mail b_1.Cluster.Mails.n b_1.Cluster.Mails.f), (.rs b_1.Cluster.Wins.z .impl_Won b_1.Cluster.Wins.n b_1.Cluster.Wins.f), (.rs b_1.Cluster.Seals.z .impl_Seal b_1.Cluster.Seals.n b_1.Cluster.Seals.f)])] (enc_bo y) :=
  fun_good E_ok (pc_good (pc := pc_laws_eqClusterResult fu) (hpc_laws_eqClusterResult fu) (hpx_laws_eqClusterResult fu)) (fn := Try.f38) (c := body_laws_eqClusterResult) (out := out_bo) (y := y) (by kernel_rfl) (by kernel_rfl) (by kernel_rfl) (lpok_laws_eqClusterResult fu) (fun d hd => out_bo_enc d _ hd) ((ev_laws_eqClusterResult fu a_0 b_1).trans hy)
theorem good_laws_eqClusterResult (fu : Nat) : ∀ xs o, S_laws_eqClusterResult fu xs = some o → ∀ y, o.x = some y → Good E Try.prog 38 xs (o.g y) := by
  intro xs o h y hy
  unfold S_laws_eqClusterResult at h
  split at h
  · rename_i a0_1 za0_3 na0_3 fa0_3 za0_4 na0_4 fa0_4 za0_5 na0_5 fa0_5 za0_6 na0_6 fa0_6 a1_1 za1_3 na1_3 fa1_3 za1_4 na1_4 fa1_4 za1_5 na1_5 fa1_5 za1_6 na1_6 fa1_6
    cases h
    exact goodv_laws_eqClusterResult fu (⟨a0_1, (⟨(⟨za0_3, na0_3, fa0_3⟩ : (Sl S_impl_Node_0)), (⟨za0_4, na0_4, fa0_4⟩ : (Sl S_impl_Mail)), (⟨za0_5, na0_5, fa0_5⟩ : (Sl S_impl_Won)), (⟨za0_6, na0_6, fa0_6⟩ : (Sl S_impl_Seal))⟩ : S_impl_Cluster)⟩ : S_impl_ClusterResult) (⟨a1_1, (⟨(⟨za1_3, na1_3, fa1_3⟩ : (Sl S_impl_Node_0)), (⟨za1_4, na1_4, fa1_4⟩ : (Sl S_impl_Mail)), (⟨za1_5, na1_5, fa1_5⟩ : (Sl S_impl_Won)), (⟨za1_6, na1_6, fa1_6⟩ : (Sl S_impl_Seal))⟩ : S_impl_Cluster)⟩ : S_impl_ClusterResult) y hy
  · cases h

/-! laws.heldEntryS -/
def F_laws_heldEntryS_B0 {ρ : Type} (fu : Nat) (a0_0 : (Sl S_impl_Entry)) (k0 : Int → Option ρ) (k1 : Int → Option ρ) (k1_1 : Int) (i5_2 : Int) (go : Int → Int → Option ρ) : Option ρ :=
  (bif (decide (i5_2 < ((a0_0.n : Nat) : Int))) then ((bif (decide (0 ≤ i5_2) && decide ((Int.toNat i5_2) < a0_0.n)) then some () else none : Option Unit).bind fun _ => (bif ((a0_0.f (Int.toNat i5_2)).Term != k1_1) then
    (k0 k1_1) else ((bif (decide (0 ≤ i5_2) && decide ((Int.toNat i5_2) < a0_0.n)) then some () else none : Option Unit).bind fun _ => (bif ((a0_0.f (Int.toNat i5_2)).Client != (IntKind.wrap .i64 (k1_1 + 1))) then
    (k0 (IntKind.wrap .i64 (k1_1 + 1))) else ((bif (decide (0 ≤ i5_2) && decide ((Int.toNat i5_2) < a0_0.n)) then some () else none : Option Unit).bind fun _ => (bif ((a0_0.f (Int.toNat i5_2)).Seq != (IntKind.wrap .i64 ((IntKind.wrap .i64 (k1_1 + 1)) + 1))) then
    (k0 (IntKind.wrap .i64 ((IntKind.wrap .i64 (k1_1 + 1)) + 1))) else ((bif (decide (0 ≤ i5_2) && decide ((Int.toNat i5_2) < a0_0.n)) then some () else none : Option Unit).bind fun _ =>
    (bif ((a0_0.f (Int.toNat i5_2)).Cmd.Kind != (IntKind.wrap .i64 ((IntKind.wrap .i64 ((IntKind.wrap .i64 (k1_1 + 1)) + 1)) + 1))) then (k0 (IntKind.wrap .i64 ((IntKind.wrap .i64 ((IntKind.wrap .i64 (k1_1 + 1)) + 1)) + 1))) else
    ((bif (decide (0 ≤ i5_2) && decide ((Int.toNat i5_2) < a0_0.n)) then some () else none : Option Unit).bind fun _ => (bif ((a0_0.f (Int.toNat i5_2)).Cmd.Expect != (IntKind.wrap .i64 ((IntKind.wrap .i64 ((IntKind.wrap .i64 ((IntKind.wrap .i64 (k1_1 + 1)) + 1)) + 1)) + 1))) then
    (k0 (IntKind.wrap .i64 ((IntKind.wrap .i64 ((IntKind.wrap .i64 ((IntKind.wrap .i64 (k1_1 + 1)) + 1)) + 1)) + 1))) else ((bif (decide (0 ≤ i5_2) && decide ((Int.toNat i5_2) < a0_0.n)) then
    some () else none : Option Unit).bind fun _ => (bif ((a0_0.f (Int.toNat i5_2)).Cmd.Name != (IntKind.wrap .i64 ((IntKind.wrap .i64 ((IntKind.wrap .i64 ((IntKind.wrap .i64 ((IntKind.wrap .i64 (k1_1 + 1)) + 1)) + 1)) + 1)) + 1))) then
    (k0 (IntKind.wrap .i64 ((IntKind.wrap .i64 ((IntKind.wrap .i64 ((IntKind.wrap .i64 ((IntKind.wrap .i64 (k1_1 + 1)) + 1)) + 1)) + 1)) + 1))) else ((bif (decide (0 ≤ i5_2) &&
    decide ((Int.toNat i5_2) < a0_0.n)) then some () else none : Option Unit).bind fun _ => (bif ((a0_0.f (Int.toNat i5_2)).Cmd.Addr != (IntKind.wrap .i64 ((IntKind.wrap .i64 ((IntKind.wrap .i64 ((IntKind.wrap .i64 ((IntKind.wrap .i64 ((IntKind.wrap .i64 (k1_1 + 1)) + 1)) + 1)) + 1)) + 1)) + 1))) then
    (k0 (IntKind.wrap .i64 ((IntKind.wrap .i64 ((IntKind.wrap .i64 ((IntKind.wrap .i64 ((IntKind.wrap .i64 ((IntKind.wrap .i64 (k1_1 + 1)) + 1)) + 1)) + 1)) + 1)) + 1))) else ((bif (decide (0 ≤ i5_2) &&
    decide ((Int.toNat i5_2) < a0_0.n)) then some () else none : Option Unit).bind fun _ => (bif ((a0_0.f (Int.toNat i5_2)).Cmd.Number != (IntKind.wrap .i64 ((IntKind.wrap .i64 ((IntKind.wrap .i64 ((IntKind.wrap .i64 ((IntKind.wrap .i64 ((IntKind.wrap .i64 ((IntKind.wrap .i64 (k1_1 + 1)) + 1)) + 1)) + 1)) + 1)) + 1)) + 1))) then
    (k0 (IntKind.wrap .i64 ((IntKind.wrap .i64 ((IntKind.wrap .i64 ((IntKind.wrap .i64 ((IntKind.wrap .i64 ((IntKind.wrap .i64 ((IntKind.wrap .i64 (k1_1 + 1)) + 1)) + 1)) + 1)) + 1)) + 1)) + 1))) else
    ((bif (decide (0 ≤ i5_2) && decide ((Int.toNat i5_2) < a0_0.n)) then some () else none : Option Unit).bind fun _ => (bif ((a0_0.f (Int.toNat i5_2)).Cmd.Proto != (IntKind.wrap .i64 ((IntKind.wrap .i64 ((IntKind.wrap .i64 ((IntKind.wrap .i64 ((IntKind.wrap .i64 ((IntKind.wrap .i64 ((IntKind.wrap .i64 ((IntKind.wrap .i64 (k1_1 + 1)) + 1)) + 1)) + 1)) + 1)) + 1)) + 1)) + 1))) then
    (k0 (IntKind.wrap .i64 ((IntKind.wrap .i64 ((IntKind.wrap .i64 ((IntKind.wrap .i64 ((IntKind.wrap .i64 ((IntKind.wrap .i64 ((IntKind.wrap .i64 ((IntKind.wrap .i64 (k1_1 + 1)) + 1)) + 1)) + 1)) + 1)) + 1)) + 1)) + 1))) else
    (go (IntKind.wrap .i64 ((IntKind.wrap .i64 ((IntKind.wrap .i64 ((IntKind.wrap .i64 ((IntKind.wrap .i64 ((IntKind.wrap .i64 ((IntKind.wrap .i64 ((IntKind.wrap .i64 ((IntKind.wrap .i64 (k1_1 + 1)) + 1)) + 1)) + 1)) + 1)) + 1)) + 1)) + 1)) + 1)) (IntKind.wrap .i64 (i5_2 + 1))))))))))))))))))))) else
    (k1 k1_1))
def F_laws_heldEntryS (fu : Nat) (a_0 : (Sl S_impl_Entry)) (k_1 : Int) : Option (Int) :=
  (L (fun w0 go0 => F_laws_heldEntryS_B0 fu a_0 (fun z85 => (some (-1))) (fun z86 => (some z86)) w0.1 w0.2 (fun q0 q1 => go0 (q0, q1))) fu ((k_1, 0) : Int × Int))
def pcf_laws_heldEntryS (fu : Nat) (f : Nat) (xs : List (D RT den)) : Option (Out RT den) := none
def pcx_laws_heldEntryS (fu : Nat) (f : Nat) (xs : List (D RT den)) (ins : List (Ob RT den)) : Option (OutX RT den) := none
def pc_laws_heldEntryS (fu : Nat) : Pc RT den := ⟨pcf_laws_heldEntryS fu, fun _ => false, fun _ => false, pcx_laws_heldEntryS fu⟩
def msk_laws_heldEntryS (b : Nat) : List Nat := match b with | 0 => [2, 3, 4, 6, 7, 8, 9, 10, 11, 12, 13, 14, 15, 16, 17, 18, 19, 20, 21, 22, 23, 24, 25, 26, 27, 28, 29, 30, 31, 32, 33, 34, 35, 36, 37, 38, 39, 40, 41, 42, 43, 44, 45, 46, 47, 48, 49, 50, 51, 52, 53, 54, 55, 56, 57, 58, 59, 60, 61, 62, 63, 64, 65, 66, 67, 68, 69, 70, 71, 72, 73, 74, 75, 76, 77, 78, 79, 80, 81, 82, 83, 84, 85, 86, 87, 88, 89, 90, 91, 92, 93, 94, 95, 96, 97, 98, 99] | 100000 => [0, 2, 3, 5, 6, 7, 8, 9, 10, 11, 12, 13, 14, 15, 16, 17, 18, 19, 20, 21, 22, 23, 24, 25, 26, 27, 28, 29, 30, 31, 32, 33, 34, 35, 36, 37, 38, 39, 40, 41, 42, 43, 44, 45, 46, 47, 48, 49, 50, 51, 52, 53, 54, 55, 56, 57, 58, 59, 60, 61, 62, 63, 64, 65, 66, 67, 68, 69, 70, 71, 72, 73, 74, 75, 76, 77, 78, 79, 80, 81, 82, 83, 84, 85, 86, 87, 88, 89, 90, 91, 92, 93, 94, 95, 96, 97, 98, 99] | _ => []
def ps_laws_heldEntryS_0 : List (Pat RT) := [.flat (.rs .impl_Entry), .flat (.int .i64), .flat .dead, .flat .dead, .flat .dead, .flat (.int .i64), .flat .dead, .flat .dead, .flat .dead, .flat .dead, .flat .dead, .flat .dead, .flat .dead, .flat .dead, .flat .dead, .flat .dead, .flat .dead, .flat .dead, .flat .dead, .flat .dead, .flat .dead, .flat .dead, .flat .dead, .flat .dead, .flat .dead, .flat .dead, .flat .dead, .flat .dead, .flat .dead, .flat .dead, .flat .dead, .flat .dead, .flat .dead, .flat .dead, .flat .dead, .flat .dead, .flat .dead, .flat .dead, .flat .dead, .flat .dead, .flat .dead, .flat .dead, .flat .dead, .flat .dead, .flat .dead, .flat .dead, .flat .dead, .flat .dead, .flat .dead, .flat .dead, .flat .dead, .flat .dead, .flat .dead, .flat .dead, .flat .dead, .flat .dead, .flat .dead, .flat .dead, .flat .dead, .flat .dead, .flat .dead, .flat .dead, .flat .dead, .flat .dead, .flat .dead, .flat .dead, .flat .dead, .flat .dead, .flat .dead, .flat .dead, .flat .dead, .flat .dead, .flat .dead, .flat .dead, .flat .dead, .flat .dead, .flat .dead, .flat .dead, .flat .dead, .flat .dead, .flat .dead, .flat .dead, .flat .dead, .flat .dead, .flat .dead, .flat .dead, .flat .dead, .flat .dead, .flat .dead, .flat .dead, .flat .dead, .flat .dead, .flat .dead, .flat .dead, .flat .dead, .flat .dead, .flat .dead, .flat .dead, .flat .dead, .flat .dead]
def os_laws_heldEntryS_0 : List (OP RT) := []
def conv_laws_heldEntryS_0 (r : Raw den ps_laws_heldEntryS_0 os_laws_heldEntryS_0) : ((Sl S_impl_Entry)) × (Int × Int) := (r.1.1, (r.1.2.1, r.1.2.2.2.2.2.1))
def back_laws_heldEntryS_0 (c : (Sl S_impl_Entry)) (w : Int × Int) : St RT den := ⟨[(.rs c.z .impl_Entry c.n c.f), (.int .i64 w.1), .dead, .dead, .dead, (.int .i64 w.2), .dead, .dead, .dead, .dead, .dead, .dead, .dead, .dead, .dead, .dead, .dead, .dead, .dead, .dead, .dead, .dead, .dead, .dead, .dead, .dead, .dead, .dead, .dead, .dead, .dead, .dead, .dead, .dead, .dead, .dead, .dead, .dead, .dead, .dead, .dead, .dead, .dead, .dead, .dead, .dead, .dead, .dead, .dead, .dead, .dead, .dead, .dead, .dead, .dead, .dead, .dead, .dead, .dead, .dead, .dead, .dead, .dead, .dead, .dead, .dead, .dead, .dead, .dead, .dead, .dead, .dead, .dead, .dead, .dead, .dead, .dead, .dead, .dead, .dead, .dead, .dead, .dead, .dead, .dead, .dead, .dead, .dead, .dead, .dead, .dead, .dead, .dead, .dead, .dead, .dead, .dead, .dead, .dead, .dead], []⟩
def Bk_laws_heldEntryS_0 {ρ : Type} (fu : Nat) (c : (Sl S_impl_Entry)) (k : Ex → St RT den → Option ρ) (w : Int × Int) (go : (Int × Int) → Option ρ) : Option ρ := F_laws_heldEntryS_B0 fu c (fun a0 => k .ret ⟨[.dead, (.int .i64 a0), .dead, .dead, (.int .i64 (-1)), .dead, .dead, .dead, .dead, .dead, .dead, .dead, .dead, .dead, .dead, .dead, .dead, .dead, .dead, .dead, .dead, .dead, .dead, .dead, .dead, .dead, .dead, .dead, .dead, .dead, .dead, .dead, .dead, .dead, .dead, .dead, .dead, .dead, .dead, .dead, .dead, .dead, .dead, .dead, .dead, .dead, .dead, .dead, .dead, .dead, .dead, .dead, .dead, .dead, .dead, .dead, .dead, .dead, .dead, .dead, .dead, .dead, .dead, .dead, .dead, .dead, .dead, .dead, .dead, .dead, .dead, .dead, .dead, .dead, .dead, .dead, .dead, .dead, .dead, .dead, .dead, .dead, .dead, .dead, .dead, .dead, .dead, .dead, .dead, .dead, .dead, .dead, .dead, .dead, .dead, .dead, .dead, .dead, .dead, .dead], []⟩) (fun a0 => k (.exit 0) ⟨[.dead, (.int .i64 a0), .dead, .dead, .dead, .dead, .dead, .dead, .dead, .dead, .dead, .dead, .dead, .dead, .dead, .dead, .dead, .dead, .dead, .dead, .dead, .dead, .dead, .dead, .dead, .dead, .dead, .dead, .dead, .dead, .dead, .dead, .dead, .dead, .dead, .dead, .dead, .dead, .dead, .dead, .dead, .dead, .dead, .dead, .dead, .dead, .dead, .dead, .dead, .dead, .dead, .dead, .dead, .dead, .dead, .dead, .dead, .dead, .dead, .dead, .dead, .dead, .dead, .dead, .dead, .dead, .dead, .dead, .dead, .dead, .dead, .dead, .dead, .dead, .dead, .dead, .dead, .dead, .dead, .dead, .dead, .dead, .dead, .dead, .dead, .dead, .dead, .dead, .dead, .dead, .dead, .dead, .dead, .dead, .dead, .dead, .dead, .dead, .dead, .dead], []⟩) w.1 w.2 (fun q0 q1 => go (q0, q1))
def lp_laws_heldEntryS (fu : Nat) : Lp RT den (Int) := fun b s k => match b with | 0 => handle ps_laws_heldEntryS_0 os_laws_heldEntryS_0 conv_laws_heldEntryS_0 (Bk_laws_heldEntryS_0 fu) fu s k | _ => none
theorem ev_laws_heldEntryS (fu : Nat) (a_0 : (Sl S_impl_Entry)) (k_1 : Int) : evFun E (pc_laws_heldEntryS fu) msk_laws_heldEntryS (lp_laws_heldEntryS fu) out_i64 48 [(.rs a_0.z .impl_Entry a_0.n a_0.f), (.int .i64 k_1)] = F_laws_heldEntryS fu a_0 k_1 := by kernel_rfl
noncomputable def body_laws_heldEntryS : Code := Try.f48.body.getD .skip
noncomputable def lc_laws_heldEntryS_0 : Code := ((loops 0 body_laws_heldEntryS).getD 0 (0, .skip)).2
theorem round_laws_heldEntryS_0 (fu : Nat) (it : St RT den → Option (Int)) (k : Ex → St RT den → Option (Int)) c w : evCode E (pc_laws_heldEntryS fu) msk_laws_heldEntryS (lp_laws_heldEntryS fu) 0 lc_laws_heldEntryS_0 (back_laws_heldEntryS_0 c w) (after (msk_laws_heldEntryS 0) (msk_laws_heldEntryS 100000) 0 it k) = Bk_laws_heldEntryS_0 fu c k w (fun w => it (back_laws_heldEntryS_0 c w)) := by kernel_rfl
theorem lpok_laws_heldEntryS_0 (fu : Nat) : ∀ s k r, lp_laws_heldEntryS fu 0 s k = some r → ∃ fuel, iter (msk_laws_heldEntryS 0) (msk_laws_heldEntryS 100000) s.objs.length (evCode E (pc_laws_heldEntryS fu) msk_laws_heldEntryS (lp_laws_heldEntryS fu) 0 lc_laws_heldEntryS_0) fuel s k = some r :=
  handle_ok (ps := ps_laws_heldEntryS_0) (os := os_laws_heldEntryS_0) (conv := conv_laws_heldEntryS_0) (B := Bk_laws_heldEntryS_0 fu) (fu := fu) back_laws_heldEntryS_0 (fun raw => by kernel_rfl) 0 (fun c w => by kernel_rfl) (round_laws_heldEntryS_0 fu)
theorem lpok_laws_heldEntryS (fu : Nat) : LpOk E (pc_laws_heldEntryS fu) msk_laws_heldEntryS (lp_laws_heldEntryS fu) (loops 0 body_laws_heldEntryS) := loop_all 1 (by kernel_rfl) fun i hi => match i, hi with
  | 0, _ => by
    have h : (loops 0 body_laws_heldEntryS).getD 0 (0, .skip) = (0, lc_laws_heldEntryS_0) := by kernel_rfl
    rw [h]; exact lpok_laws_heldEntryS_0 fu
  | i + 1, hi => absurd hi (by omega)
def S_laws_heldEntryS (fu : Nat) (xs : List (D RT den)) : Option (Out RT den) := match xs with | [.rs za0_0 .impl_Entry na0_0 fa0_0, .int .i64 a1_0] => some ⟨Int, F_laws_heldEntryS fu (⟨za0_0, na0_0, fa0_0⟩ : (Sl S_impl_Entry)) a1_0, enc_i64, fun _ => true⟩ | _ => none
theorem hpc_laws_heldEntryS (fu : Nat) : ∀ f xs o, pcf_laws_heldEntryS fu f xs = some o → ∀ y, o.x = some y → Good E Try.prog f xs (o.g y) := by
  intro f xs o h
  cases h
theorem hpx_laws_heldEntryS (fu : Nat) : ∀ f xs ins o, pcx_laws_heldEntryS fu f xs ins = some o → ∀ y, o.x = some y → GoodX E Try.prog f xs ins (o.g y).1 (o.g y).2 := by
  intro f xs ins o h
  cases h
theorem goodv_laws_heldEntryS (fu : Nat) (a_0 : (Sl S_impl_Entry)) (k_1 : Int) (y : Int) (hy : F_laws_heldEntryS fu a_0 k_1 = some y) : Good E Try.prog 48 [(.rs a_0.z .impl_Entry a_0.n a_0.f), (.int .i64 k_1)] (enc_i64 y) :=
  fun_good E_ok (pc_good (pc := pc_laws_heldEntryS fu) (hpc_laws_heldEntryS fu) (hpx_laws_heldEntryS fu)) (fn := Try.f48) (c := body_laws_heldEntryS) (out := out_i64) (y := y) (by kernel_rfl) (by kernel_rfl) (by kernel_rfl) (lpok_laws_heldEntryS fu) (fun d hd => out_i64_enc d _ hd) ((ev_laws_heldEntryS fu a_0 k_1).trans hy)
theorem good_laws_heldEntryS (fu : Nat) : ∀ xs o, S_laws_heldEntryS fu xs = some o → ∀ y, o.x = some y → Good E Try.prog 48 xs (o.g y) := by
  intro xs o h y hy
  unfold S_laws_heldEntryS at h
  split at h
  · rename_i za0_0 na0_0 fa0_0 a1_0
    cases h
    exact goodv_laws_heldEntryS fu (⟨za0_0, na0_0, fa0_0⟩ : (Sl S_impl_Entry)) a1_0 y hy
  · cases h

/-! laws.heldInt64S -/
def F_laws_heldInt64S_B0 {ρ : Type} (fu : Nat) (a0_0 : (Sl Int)) (k0 : Int → Option ρ) (k1 : Int → Option ρ) (k1_1 : Int) (i5_2 : Int) (go : Int → Int → Option ρ) : Option ρ :=
  (bif (decide (i5_2 < ((a0_0.n : Nat) : Int))) then ((bif (decide (0 ≤ i5_2) && decide ((Int.toNat i5_2) < a0_0.n)) then some () else none : Option Unit).bind fun _ => (bif ((a0_0.f (Int.toNat i5_2)) != k1_1) then
    (k0 k1_1) else (go (IntKind.wrap .i64 (k1_1 + 1)) (IntKind.wrap .i64 (i5_2 + 1))))) else (k1 k1_1))
def F_laws_heldInt64S (fu : Nat) (a_0 : (Sl Int)) (k_1 : Int) : Option (Int) :=
  (L (fun w0 go0 => F_laws_heldInt64S_B0 fu a_0 (fun z87 => (some (-1))) (fun z88 => (some z88)) w0.1 w0.2 (fun q0 q1 => go0 (q0, q1))) fu ((k_1, 0) : Int × Int))
def pcf_laws_heldInt64S (fu : Nat) (f : Nat) (xs : List (D RT den)) : Option (Out RT den) := none
def pcx_laws_heldInt64S (fu : Nat) (f : Nat) (xs : List (D RT den)) (ins : List (Ob RT den)) : Option (OutX RT den) := none
def pc_laws_heldInt64S (fu : Nat) : Pc RT den := ⟨pcf_laws_heldInt64S fu, fun _ => false, fun _ => false, pcx_laws_heldInt64S fu⟩
def msk_laws_heldInt64S (b : Nat) : List Nat := match b with | 0 => [2, 3, 4, 6, 7, 8, 9, 10, 11, 12, 13, 14, 15, 16, 17, 18, 19, 20] | 100000 => [0, 2, 3, 5, 6, 7, 8, 9, 10, 11, 12, 13, 14, 15, 16, 17, 18, 19, 20] | _ => []
def ps_laws_heldInt64S_0 : List (Pat RT) := [.flat (.rs .i64), .flat (.int .i64), .flat .dead, .flat .dead, .flat .dead, .flat (.int .i64), .flat .dead, .flat .dead, .flat .dead, .flat .dead, .flat .dead, .flat .dead, .flat .dead, .flat .dead, .flat .dead, .flat .dead, .flat .dead, .flat .dead, .flat .dead, .flat .dead, .flat .dead]
def os_laws_heldInt64S_0 : List (OP RT) := []
def conv_laws_heldInt64S_0 (r : Raw den ps_laws_heldInt64S_0 os_laws_heldInt64S_0) : ((Sl Int)) × (Int × Int) := (r.1.1, (r.1.2.1, r.1.2.2.2.2.2.1))
def back_laws_heldInt64S_0 (c : (Sl Int)) (w : Int × Int) : St RT den := ⟨[(.rs c.z .i64 c.n c.f), (.int .i64 w.1), .dead, .dead, .dead, (.int .i64 w.2), .dead, .dead, .dead, .dead, .dead, .dead, .dead, .dead, .dead, .dead, .dead, .dead, .dead, .dead, .dead], []⟩
def Bk_laws_heldInt64S_0 {ρ : Type} (fu : Nat) (c : (Sl Int)) (k : Ex → St RT den → Option ρ) (w : Int × Int) (go : (Int × Int) → Option ρ) : Option ρ := F_laws_heldInt64S_B0 fu c (fun a0 => k .ret ⟨[.dead, (.int .i64 a0), .dead, .dead, (.int .i64 (-1)), .dead, .dead, .dead, .dead, .dead, .dead, .dead, .dead, .dead, .dead, .dead, .dead, .dead, .dead, .dead, .dead], []⟩) (fun a0 => k (.exit 0) ⟨[.dead, (.int .i64 a0), .dead, .dead, .dead, .dead, .dead, .dead, .dead, .dead, .dead, .dead, .dead, .dead, .dead, .dead, .dead, .dead, .dead, .dead, .dead], []⟩) w.1 w.2 (fun q0 q1 => go (q0, q1))
def lp_laws_heldInt64S (fu : Nat) : Lp RT den (Int) := fun b s k => match b with | 0 => handle ps_laws_heldInt64S_0 os_laws_heldInt64S_0 conv_laws_heldInt64S_0 (Bk_laws_heldInt64S_0 fu) fu s k | _ => none
theorem ev_laws_heldInt64S (fu : Nat) (a_0 : (Sl Int)) (k_1 : Int) : evFun E (pc_laws_heldInt64S fu) msk_laws_heldInt64S (lp_laws_heldInt64S fu) out_i64 88 [(.rs a_0.z .i64 a_0.n a_0.f), (.int .i64 k_1)] = F_laws_heldInt64S fu a_0 k_1 := by kernel_rfl
noncomputable def body_laws_heldInt64S : Code := Try.f88.body.getD .skip
noncomputable def lc_laws_heldInt64S_0 : Code := ((loops 0 body_laws_heldInt64S).getD 0 (0, .skip)).2
theorem round_laws_heldInt64S_0 (fu : Nat) (it : St RT den → Option (Int)) (k : Ex → St RT den → Option (Int)) c w : evCode E (pc_laws_heldInt64S fu) msk_laws_heldInt64S (lp_laws_heldInt64S fu) 0 lc_laws_heldInt64S_0 (back_laws_heldInt64S_0 c w) (after (msk_laws_heldInt64S 0) (msk_laws_heldInt64S 100000) 0 it k) = Bk_laws_heldInt64S_0 fu c k w (fun w => it (back_laws_heldInt64S_0 c w)) := by kernel_rfl
theorem lpok_laws_heldInt64S_0 (fu : Nat) : ∀ s k r, lp_laws_heldInt64S fu 0 s k = some r → ∃ fuel, iter (msk_laws_heldInt64S 0) (msk_laws_heldInt64S 100000) s.objs.length (evCode E (pc_laws_heldInt64S fu) msk_laws_heldInt64S (lp_laws_heldInt64S fu) 0 lc_laws_heldInt64S_0) fuel s k = some r :=
  handle_ok (ps := ps_laws_heldInt64S_0) (os := os_laws_heldInt64S_0) (conv := conv_laws_heldInt64S_0) (B := Bk_laws_heldInt64S_0 fu) (fu := fu) back_laws_heldInt64S_0 (fun raw => by kernel_rfl) 0 (fun c w => by kernel_rfl) (round_laws_heldInt64S_0 fu)
theorem lpok_laws_heldInt64S (fu : Nat) : LpOk E (pc_laws_heldInt64S fu) msk_laws_heldInt64S (lp_laws_heldInt64S fu) (loops 0 body_laws_heldInt64S) := loop_all 1 (by kernel_rfl) fun i hi => match i, hi with
  | 0, _ => by
    have h : (loops 0 body_laws_heldInt64S).getD 0 (0, .skip) = (0, lc_laws_heldInt64S_0) := by kernel_rfl
    rw [h]; exact lpok_laws_heldInt64S_0 fu
  | i + 1, hi => absurd hi (by omega)
def S_laws_heldInt64S (fu : Nat) (xs : List (D RT den)) : Option (Out RT den) := match xs with | [.rs za0_0 .i64 na0_0 fa0_0, .int .i64 a1_0] => some ⟨Int, F_laws_heldInt64S fu (⟨za0_0, na0_0, fa0_0⟩ : (Sl Int)) a1_0, enc_i64, fun _ => true⟩ | _ => none
theorem hpc_laws_heldInt64S (fu : Nat) : ∀ f xs o, pcf_laws_heldInt64S fu f xs = some o → ∀ y, o.x = some y → Good E Try.prog f xs (o.g y) := by
  intro f xs o h
  cases h
theorem hpx_laws_heldInt64S (fu : Nat) : ∀ f xs ins o, pcx_laws_heldInt64S fu f xs ins = some o → ∀ y, o.x = some y → GoodX E Try.prog f xs ins (o.g y).1 (o.g y).2 := by
  intro f xs ins o h
  cases h
theorem goodv_laws_heldInt64S (fu : Nat) (a_0 : (Sl Int)) (k_1 : Int) (y : Int) (hy : F_laws_heldInt64S fu a_0 k_1 = some y) : Good E Try.prog 88 [(.rs a_0.z .i64 a_0.n a_0.f), (.int .i64 k_1)] (enc_i64 y) :=
  fun_good E_ok (pc_good (pc := pc_laws_heldInt64S fu) (hpc_laws_heldInt64S fu) (hpx_laws_heldInt64S fu)) (fn := Try.f88) (c := body_laws_heldInt64S) (out := out_i64) (y := y) (by kernel_rfl) (by kernel_rfl) (by kernel_rfl) (lpok_laws_heldInt64S fu) (fun d hd => out_i64_enc d _ hd) ((ev_laws_heldInt64S fu a_0 k_1).trans hy)
theorem good_laws_heldInt64S (fu : Nat) : ∀ xs o, S_laws_heldInt64S fu xs = some o → ∀ y, o.x = some y → Good E Try.prog 88 xs (o.g y) := by
  intro xs o h y hy
  unfold S_laws_heldInt64S at h
  split at h
  · rename_i za0_0 na0_0 fa0_0 a1_0
    cases h
    exact goodv_laws_heldInt64S fu (⟨za0_0, na0_0, fa0_0⟩ : (Sl Int)) a1_0 y hy
  · cases h

/-! laws.heldNodeS -/
def F_laws_heldNodeS_B0 {ρ : Type} (fu : Nat) (a0_0 : (Sl S_impl_Node_0)) (k0 : Int → Option ρ) (k1 : Int → Option ρ) (k1_1 : Int) (i5_2 : Int) (go : Int → Int → Option ρ) : Option ρ :=
  (bif (decide (i5_2 < ((a0_0.n : Nat) : Int))) then ((bif (decide (0 ≤ i5_2) && decide ((Int.toNat i5_2) < a0_0.n)) then some () else none : Option Unit).bind fun _ => (bif ((a0_0.f (Int.toNat i5_2)).Id != k1_1) then
    (k0 k1_1) else ((bif (decide (0 ≤ i5_2) && decide ((Int.toNat i5_2) < a0_0.n)) then some () else none : Option Unit).bind fun _ => (bif ((a0_0.f (Int.toNat i5_2)).Peers != (IntKind.wrap .i64 (k1_1 + 1))) then
    (k0 (IntKind.wrap .i64 (k1_1 + 1))) else ((bif (decide (0 ≤ i5_2) && decide ((Int.toNat i5_2) < a0_0.n)) then some () else none : Option Unit).bind fun _ => (bif ((a0_0.f (Int.toNat i5_2)).Term != (IntKind.wrap .i64 ((IntKind.wrap .i64 (k1_1 + 1)) + 1))) then
    (k0 (IntKind.wrap .i64 ((IntKind.wrap .i64 (k1_1 + 1)) + 1))) else ((bif (decide (0 ≤ i5_2) && decide ((Int.toNat i5_2) < a0_0.n)) then some () else none : Option Unit).bind fun _ =>
    (bif ((a0_0.f (Int.toNat i5_2)).Voted != (IntKind.wrap .i64 ((IntKind.wrap .i64 ((IntKind.wrap .i64 (k1_1 + 1)) + 1)) + 1))) then (k0 (IntKind.wrap .i64 ((IntKind.wrap .i64 ((IntKind.wrap .i64 (k1_1 + 1)) + 1)) + 1))) else
    ((bif (decide (0 ≤ i5_2) && decide ((Int.toNat i5_2) < a0_0.n)) then some () else none : Option Unit).bind fun _ => ((F_laws_heldEntryS fu (⟨(some true), 0, (fun _ => dflt .impl_Entry)⟩ : (Sl S_impl_Entry)) (IntKind.wrap .i64 ((IntKind.wrap .i64 ((IntKind.wrap .i64 ((IntKind.wrap .i64 (k1_1 + 1)) + 1)) + 1)) + 1))).bind fun y79 =>
    (bif (decide (y79 < 0)) then (k0 y79) else ((bif (decide (0 ≤ i5_2) && decide ((Int.toNat i5_2) < a0_0.n)) then some () else none : Option Unit).bind fun _ => (bif ((a0_0.f (Int.toNat i5_2)).Role != y79) then
    (k0 y79) else ((bif (decide (0 ≤ i5_2) && decide ((Int.toNat i5_2) < a0_0.n)) then some () else none : Option Unit).bind fun _ => (bif ((a0_0.f (Int.toNat i5_2)).Commit != (IntKind.wrap .i64 (y79 + 1))) then
    (k0 (IntKind.wrap .i64 (y79 + 1))) else ((bif (decide (0 ≤ i5_2) && decide ((Int.toNat i5_2) < a0_0.n)) then some () else none : Option Unit).bind fun _ => ((F_laws_heldInt64S fu (⟨(some true),
    0, (fun _ => dflt .i64)⟩ : (Sl Int)) (IntKind.wrap .i64 ((IntKind.wrap .i64 (y79 + 1)) + 1))).bind fun y80 => (bif (decide (y80 < 0)) then (k0 y80) else ((bif (decide (0 ≤ i5_2) &&
    decide ((Int.toNat i5_2) < a0_0.n)) then some () else none : Option Unit).bind fun _ => ((F_laws_heldInt64S fu (⟨(some true), 0, (fun _ => dflt .i64)⟩ : (Sl Int)) y80).bind fun y81 =>
    (bif (decide (y81 < 0)) then (k0 y81) else ((bif (decide (0 ≤ i5_2) && decide ((Int.toNat i5_2) < a0_0.n)) then some () else none : Option Unit).bind fun _ =>
    ((F_laws_heldInt64S fu (⟨(some true), 0, (fun _ => dflt .i64)⟩ : (Sl Int)) y81).bind fun y82 => (bif (decide (y82 < 0)) then (k0 y82) else (go y82 (IntKind.wrap .i64 (i5_2 + 1))))))))))))))))))))))))))) else
    (k1 k1_1))
def F_laws_heldNodeS (fu : Nat) (a_0 : (Sl S_impl_Node_0)) (k_1 : Int) : Option (Int) :=
  (L (fun w0 go0 => F_laws_heldNodeS_B0 fu a_0 (fun z83 => (some (-1))) (fun z84 => (some z84)) w0.1 w0.2 (fun q0 q1 => go0 (q0, q1))) fu ((k_1, 0) : Int × Int))
def pcf_laws_heldNodeS (fu : Nat) (f : Nat) (xs : List (D RT den)) : Option (Out RT den) := match f with | 48 => S_laws_heldEntryS fu xs | 88 => S_laws_heldInt64S fu xs | _ => none
def pcx_laws_heldNodeS (fu : Nat) (f : Nat) (xs : List (D RT den)) (ins : List (Ob RT den)) : Option (OutX RT den) := none
def pc_laws_heldNodeS (fu : Nat) : Pc RT den := ⟨pcf_laws_heldNodeS fu, fun _ => false, fun _ => false, pcx_laws_heldNodeS fu⟩
def msk_laws_heldNodeS (b : Nat) : List Nat := match b with | 0 => [2, 3, 4, 6, 7, 8, 9, 10, 11, 12, 13, 14, 15, 16, 17, 18, 19, 20, 21, 22, 23, 24, 25, 26, 27, 28, 29, 30, 31, 32, 33, 34, 35, 36, 37, 38, 39, 40, 41, 42, 43, 44, 45, 46, 47, 48, 49, 50, 51, 52, 53, 54, 55, 56, 57, 58, 59, 60, 61, 62, 63, 64, 65, 66, 67, 68, 69, 70, 71, 72, 73, 74, 75, 76, 77, 78, 79, 80, 81, 82, 83, 84, 85, 86, 87, 88, 89, 90, 91, 92, 93, 94, 95, 96, 97, 98, 99, 100, 101, 102] | 100000 => [0, 2, 3, 5, 6, 7, 8, 9, 10, 11, 12, 13, 14, 15, 16, 17, 18, 19, 20, 21, 22, 23, 24, 25, 26, 27, 28, 29, 30, 31, 32, 33, 34, 35, 36, 37, 38, 39, 40, 41, 42, 43, 44, 45, 46, 47, 48, 49, 50, 51, 52, 53, 54, 55, 56, 57, 58, 59, 60, 61, 62, 63, 64, 65, 66, 67, 68, 69, 70, 71, 72, 73, 74, 75, 76, 77, 78, 79, 80, 81, 82, 83, 84, 85, 86, 87, 88, 89, 90, 91, 92, 93, 94, 95, 96, 97, 98, 99, 100, 101, 102] | _ => []
def ps_laws_heldNodeS_0 : List (Pat RT) := [.flat (.rs .impl_Node), .flat (.int .i64), .flat .dead, .flat .dead, .flat .dead, .flat (.int .i64), .flat .dead, .flat .dead, .flat .dead, .flat .dead, .flat .dead, .flat .dead, .flat .dead, .flat .dead, .flat .dead, .flat .dead, .flat .dead, .flat .dead, .flat .dead, .flat .dead, .flat .dead, .flat .dead, .flat .dead, .flat .dead, .flat .dead, .flat .dead, .flat .dead, .flat .dead, .flat .dead, .flat .dead, .flat .dead, .flat .dead, .flat .dead, .flat .dead, .flat .dead, .flat .dead, .flat .dead, .flat .dead, .flat .dead, .flat .dead, .flat .dead, .flat .dead, .flat .dead, .flat .dead, .flat .dead, .flat .dead, .flat .dead, .flat .dead, .flat .dead, .flat .dead, .flat .dead, .flat .dead, .flat .dead, .flat .dead, .flat .dead, .flat .dead, .flat .dead, .flat .dead, .flat .dead, .flat .dead, .flat .dead, .flat .dead, .flat .dead, .flat .dead, .flat .dead, .flat .dead, .flat .dead, .flat .dead, .flat .dead, .flat .dead, .flat .dead, .flat .dead, .flat .dead, .flat .dead, .flat .dead, .flat .dead, .flat .dead, .flat .dead, .flat .dead, .flat .dead, .flat .dead, .flat .dead, .flat .dead, .flat .dead, .flat .dead, .flat .dead, .flat .dead, .flat .dead, .flat .dead, .flat .dead, .flat .dead, .flat .dead, .flat .dead, .flat .dead, .flat .dead, .flat .dead, .flat .dead, .flat .dead, .flat .dead, .flat .dead, .flat .dead, .flat .dead, .flat .dead]
def os_laws_heldNodeS_0 : List (OP RT) := []
def conv_laws_heldNodeS_0 (r : Raw den ps_laws_heldNodeS_0 os_laws_heldNodeS_0) : ((Sl S_impl_Node_0)) × (Int × Int) := (r.1.1, (r.1.2.1, r.1.2.2.2.2.2.1))
def back_laws_heldNodeS_0 (c : (Sl S_impl_Node_0)) (w : Int × Int) : St RT den := ⟨[(.rs c.z .impl_Node c.n c.f), (.int .i64 w.1), .dead, .dead, .dead, (.int .i64 w.2), .dead, .dead, .dead, .dead, .dead, .dead, .dead, .dead, .dead, .dead, .dead, .dead, .dead, .dead, .dead, .dead, .dead, .dead, .dead, .dead, .dead, .dead, .dead, .dead, .dead, .dead, .dead, .dead, .dead, .dead, .dead, .dead, .dead, .dead, .dead, .dead, .dead, .dead, .dead, .dead, .dead, .dead, .dead, .dead, .dead, .dead, .dead, .dead, .dead, .dead, .dead, .dead, .dead, .dead, .dead, .dead, .dead, .dead, .dead, .dead, .dead, .dead, .dead, .dead, .dead, .dead, .dead, .dead, .dead, .dead, .dead, .dead, .dead, .dead, .dead, .dead, .dead, .dead, .dead, .dead, .dead, .dead, .dead, .dead, .dead, .dead, .dead, .dead, .dead, .dead, .dead, .dead, .dead, .dead, .dead, .dead, .dead], []⟩
def Bk_laws_heldNodeS_0 {ρ : Type} (fu : Nat) (c : (Sl S_impl_Node_0)) (k : Ex → St RT den → Option ρ) (w : Int × Int) (go : (Int × Int) → Option ρ) : Option ρ := F_laws_heldNodeS_B0 fu c (fun a0 => k .ret ⟨[.dead, (.int .i64 a0), .dead, .dead, (.int .i64 (-1)), .dead, .dead, .dead, .dead, .dead, .dead, .dead, .dead, .dead, .dead, .dead, .dead, .dead, .dead, .dead, .dead, .dead, .dead, .dead, .dead, .dead, .dead, .dead, .dead, .dead, .dead, .dead, .dead, .dead, .dead, .dead, .dead, .dead, .dead, .dead, .dead, .dead, .dead, .dead, .dead, .dead, .dead, .dead, .dead, .dead, .dead, .dead, .dead, .dead, .dead, .dead, .dead, .dead, .dead, .dead, .dead, .dead, .dead, .dead, .dead, .dead, .dead, .dead, .dead, .dead, .dead, .dead, .dead, .dead, .dead, .dead, .dead, .dead, .dead, .dead, .dead, .dead, .dead, .dead, .dead, .dead, .dead, .dead, .dead, .dead, .dead, .dead, .dead, .dead, .dead, .dead, .dead, .dead, .dead, .dead, .dead, .dead, .dead], []⟩) (fun a0 => k (.exit 0) ⟨[.dead, (.int .i64 a0), .dead, .dead, .dead, .dead, .dead, .dead, .dead, .dead, .dead, .dead, .dead, .dead, .dead, .dead, .dead, .dead, .dead, .dead, .dead, .dead, .dead, .dead, .dead, .dead, .dead, .dead, .dead, .dead, .dead, .dead, .dead, .dead, .dead, .dead, .dead, .dead, .dead, .dead, .dead, .dead, .dead, .dead, .dead, .dead, .dead, .dead, .dead, .dead, .dead, .dead, .dead, .dead, .dead, .dead, .dead, .dead, .dead, .dead, .dead, .dead, .dead, .dead, .dead, .dead, .dead, .dead, .dead, .dead, .dead, .dead, .dead, .dead, .dead, .dead, .dead, .dead, .dead, .dead, .dead, .dead, .dead, .dead, .dead, .dead, .dead, .dead, .dead, .dead, .dead, .dead, .dead, .dead, .dead, .dead, .dead, .dead, .dead, .dead, .dead, .dead, .dead], []⟩) w.1 w.2 (fun q0 q1 => go (q0, q1))
def lp_laws_heldNodeS (fu : Nat) : Lp RT den (Int) := fun b s k => match b with | 0 => handle ps_laws_heldNodeS_0 os_laws_heldNodeS_0 conv_laws_heldNodeS_0 (Bk_laws_heldNodeS_0 fu) fu s k | _ => none
theorem ev_laws_heldNodeS (fu : Nat) (a_0 : (Sl S_impl_Node_0)) (k_1 : Int) : evFun E (pc_laws_heldNodeS fu) msk_laws_heldNodeS (lp_laws_heldNodeS fu) out_i64 103 [(.rs a_0.z .impl_Node a_0.n a_0.f), (.int .i64 k_1)] = F_laws_heldNodeS fu a_0 k_1 := by kernel_rfl
noncomputable def body_laws_heldNodeS : Code := Try.f103.body.getD .skip
noncomputable def lc_laws_heldNodeS_0 : Code := ((loops 0 body_laws_heldNodeS).getD 0 (0, .skip)).2
theorem round_laws_heldNodeS_0 (fu : Nat) (it : St RT den → Option (Int)) (k : Ex → St RT den → Option (Int)) c w : evCode E (pc_laws_heldNodeS fu) msk_laws_heldNodeS (lp_laws_heldNodeS fu) 0 lc_laws_heldNodeS_0 (back_laws_heldNodeS_0 c w) (after (msk_laws_heldNodeS 0) (msk_laws_heldNodeS 100000) 0 it k) = Bk_laws_heldNodeS_0 fu c k w (fun w => it (back_laws_heldNodeS_0 c w)) := by kernel_rfl
theorem lpok_laws_heldNodeS_0 (fu : Nat) : ∀ s k r, lp_laws_heldNodeS fu 0 s k = some r → ∃ fuel, iter (msk_laws_heldNodeS 0) (msk_laws_heldNodeS 100000) s.objs.length (evCode E (pc_laws_heldNodeS fu) msk_laws_heldNodeS (lp_laws_heldNodeS fu) 0 lc_laws_heldNodeS_0) fuel s k = some r :=
  handle_ok (ps := ps_laws_heldNodeS_0) (os := os_laws_heldNodeS_0) (conv := conv_laws_heldNodeS_0) (B := Bk_laws_heldNodeS_0 fu) (fu := fu) back_laws_heldNodeS_0 (fun raw => by kernel_rfl) 0 (fun c w => by kernel_rfl) (round_laws_heldNodeS_0 fu)
theorem lpok_laws_heldNodeS (fu : Nat) : LpOk E (pc_laws_heldNodeS fu) msk_laws_heldNodeS (lp_laws_heldNodeS fu) (loops 0 body_laws_heldNodeS) := loop_all 1 (by kernel_rfl) fun i hi => match i, hi with
  | 0, _ => by
    have h : (loops 0 body_laws_heldNodeS).getD 0 (0, .skip) = (0, lc_laws_heldNodeS_0) := by kernel_rfl
    rw [h]; exact lpok_laws_heldNodeS_0 fu
  | i + 1, hi => absurd hi (by omega)
def S_laws_heldNodeS (fu : Nat) (xs : List (D RT den)) : Option (Out RT den) := match xs with | [.rs za0_0 .impl_Node na0_0 fa0_0, .int .i64 a1_0] => some ⟨Int, F_laws_heldNodeS fu (⟨za0_0, na0_0, fa0_0⟩ : (Sl S_impl_Node_0)) a1_0, enc_i64, fun _ => true⟩ | _ => none
theorem hpc_laws_heldNodeS (fu : Nat) : ∀ f xs o, pcf_laws_heldNodeS fu f xs = some o → ∀ y, o.x = some y → Good E Try.prog f xs (o.g y) := by
  intro f xs o h
  unfold pcf_laws_heldNodeS at h
  split at h
  · exact good_laws_heldEntryS fu xs o h
  · exact good_laws_heldInt64S fu xs o h
  · cases h
theorem hpx_laws_heldNodeS (fu : Nat) : ∀ f xs ins o, pcx_laws_heldNodeS fu f xs ins = some o → ∀ y, o.x = some y → GoodX E Try.prog f xs ins (o.g y).1 (o.g y).2 := by
  intro f xs ins o h
  cases h
theorem goodv_laws_heldNodeS (fu : Nat) (a_0 : (Sl S_impl_Node_0)) (k_1 : Int) (y : Int) (hy : F_laws_heldNodeS fu a_0 k_1 = some y) : Good E Try.prog 103 [(.rs a_0.z .impl_Node a_0.n a_0.f), (.int .i64 k_1)] (enc_i64 y) :=
  fun_good E_ok (pc_good (pc := pc_laws_heldNodeS fu) (hpc_laws_heldNodeS fu) (hpx_laws_heldNodeS fu)) (fn := Try.f103) (c := body_laws_heldNodeS) (out := out_i64) (y := y) (by kernel_rfl) (by kernel_rfl) (by kernel_rfl) (lpok_laws_heldNodeS fu) (fun d hd => out_i64_enc d _ hd) ((ev_laws_heldNodeS fu a_0 k_1).trans hy)
theorem good_laws_heldNodeS (fu : Nat) : ∀ xs o, S_laws_heldNodeS fu xs = some o → ∀ y, o.x = some y → Good E Try.prog 103 xs (o.g y) := by
  intro xs o h y hy
  unfold S_laws_heldNodeS at h
  split at h
  · rename_i za0_0 na0_0 fa0_0 a1_0
    cases h
    exact goodv_laws_heldNodeS fu (⟨za0_0, na0_0, fa0_0⟩ : (Sl S_impl_Node_0)) a1_0 y hy
  · cases h

/-! laws.heldMailS -/
def F_laws_heldMailS_B0 {ρ : Type} (fu : Nat) (a0_0 : (Sl S_impl_Mail)) (k0 : Int → Option ρ) (k1 : Int → Option ρ) (k1_1 : Int) (i5_2 : Int) (go : Int → Int → Option ρ) : Option ρ :=
  (bif (decide (i5_2 < ((a0_0.n : Nat) : Int))) then ((bif (decide (0 ≤ i5_2) && decide ((Int.toNat i5_2) < a0_0.n)) then some () else none : Option Unit).bind fun _ => (bif ((a0_0.f (Int.toNat i5_2)).Kind != k1_1) then
    (k0 k1_1) else ((bif (decide (0 ≤ i5_2) && decide ((Int.toNat i5_2) < a0_0.n)) then some () else none : Option Unit).bind fun _ => (bif ((a0_0.f (Int.toNat i5_2)).From != (IntKind.wrap .i64 (k1_1 + 1))) then
    (k0 (IntKind.wrap .i64 (k1_1 + 1))) else ((bif (decide (0 ≤ i5_2) && decide ((Int.toNat i5_2) < a0_0.n)) then some () else none : Option Unit).bind fun _ => (bif ((a0_0.f (Int.toNat i5_2)).To != (IntKind.wrap .i64 ((IntKind.wrap .i64 (k1_1 + 1)) + 1))) then
    (k0 (IntKind.wrap .i64 ((IntKind.wrap .i64 (k1_1 + 1)) + 1))) else ((bif (decide (0 ≤ i5_2) && decide ((Int.toNat i5_2) < a0_0.n)) then some () else none : Option Unit).bind fun _ =>
    (bif ((a0_0.f (Int.toNat i5_2)).Term != (IntKind.wrap .i64 ((IntKind.wrap .i64 ((IntKind.wrap .i64 (k1_1 + 1)) + 1)) + 1))) then (k0 (IntKind.wrap .i64 ((IntKind.wrap .i64 ((IntKind.wrap .i64 (k1_1 + 1)) + 1)) + 1))) else
    ((bif (decide (0 ≤ i5_2) && decide ((Int.toNat i5_2) < a0_0.n)) then some () else none : Option Unit).bind fun _ => (bif ((a0_0.f (Int.toNat i5_2)).Index != (IntKind.wrap .i64 ((IntKind.wrap .i64 ((IntKind.wrap .i64 ((IntKind.wrap .i64 (k1_1 + 1)) + 1)) + 1)) + 1))) then
    (k0 (IntKind.wrap .i64 ((IntKind.wrap .i64 ((IntKind.wrap .i64 ((IntKind.wrap .i64 (k1_1 + 1)) + 1)) + 1)) + 1))) else ((bif (decide (0 ≤ i5_2) && decide ((Int.toNat i5_2) < a0_0.n)) then
    some () else none : Option Unit).bind fun _ => (bif ((a0_0.f (Int.toNat i5_2)).Last != (IntKind.wrap .i64 ((IntKind.wrap .i64 ((IntKind.wrap .i64 ((IntKind.wrap .i64 ((IntKind.wrap .i64 (k1_1 + 1)) + 1)) + 1)) + 1)) + 1))) then
    (k0 (IntKind.wrap .i64 ((IntKind.wrap .i64 ((IntKind.wrap .i64 ((IntKind.wrap .i64 ((IntKind.wrap .i64 (k1_1 + 1)) + 1)) + 1)) + 1)) + 1))) else ((bif (decide (0 ≤ i5_2) &&
    decide ((Int.toNat i5_2) < a0_0.n)) then some () else none : Option Unit).bind fun _ => (bif ((a0_0.f (Int.toNat i5_2)).Commit != (IntKind.wrap .i64 ((IntKind.wrap .i64 ((IntKind.wrap .i64 ((IntKind.wrap .i64 ((IntKind.wrap .i64 ((IntKind.wrap .i64 (k1_1 + 1)) + 1)) + 1)) + 1)) + 1)) + 1))) then
    (k0 (IntKind.wrap .i64 ((IntKind.wrap .i64 ((IntKind.wrap .i64 ((IntKind.wrap .i64 ((IntKind.wrap .i64 ((IntKind.wrap .i64 (k1_1 + 1)) + 1)) + 1)) + 1)) + 1)) + 1))) else ((bif (decide (0 ≤ i5_2) &&
    decide ((Int.toNat i5_2) < a0_0.n)) then some () else none : Option Unit).bind fun _ => (bif (!((a0_0.f (Int.toNat i5_2)).Ok == ((Int.tmod (IntKind.wrap .i64 ((IntKind.wrap .i64 ((IntKind.wrap .i64 ((IntKind.wrap .i64 ((IntKind.wrap .i64 ((IntKind.wrap .i64 ((IntKind.wrap .i64 (k1_1 + 1)) + 1)) + 1)) + 1)) + 1)) + 1)) + 1)) 3) == 0))) then
    (k0 (IntKind.wrap .i64 ((IntKind.wrap .i64 ((IntKind.wrap .i64 ((IntKind.wrap .i64 ((IntKind.wrap .i64 ((IntKind.wrap .i64 ((IntKind.wrap .i64 (k1_1 + 1)) + 1)) + 1)) + 1)) + 1)) + 1)) + 1))) else
    ((bif (decide (0 ≤ i5_2) && decide ((Int.toNat i5_2) < a0_0.n)) then some () else none : Option Unit).bind fun _ => ((F_laws_heldEntryS fu (a0_0.f (Int.toNat i5_2)).Entries (IntKind.wrap .i64 ((IntKind.wrap .i64 ((IntKind.wrap .i64 ((IntKind.wrap .i64 ((IntKind.wrap .i64 ((IntKind.wrap .i64 ((IntKind.wrap .i64 ((IntKind.wrap .i64 (k1_1 + 1)) + 1)) + 1)) + 1)) + 1)) + 1)) + 1)) + 1))).bind fun y89 =>
    (bif (decide (y89 < 0)) then (k0 y89) else (go y89 (IntKind.wrap .i64 (i5_2 + 1)))))))))))))))))))))) else (k1 k1_1))
def F_laws_heldMailS (fu : Nat) (a_0 : (Sl S_impl_Mail)) (k_1 : Int) : Option (Int) :=
  (L (fun w0 go0 => F_laws_heldMailS_B0 fu a_0 (fun z90 => (some (-1))) (fun z91 => (some z91)) w0.1 w0.2 (fun q0 q1 => go0 (q0, q1))) fu ((k_1, 0) : Int × Int))
def pcf_laws_heldMailS (fu : Nat) (f : Nat) (xs : List (D RT den)) : Option (Out RT den) := match f with | 48 => S_laws_heldEntryS fu xs | _ => none
def pcx_laws_heldMailS (fu : Nat) (f : Nat) (xs : List (D RT den)) (ins : List (Ob RT den)) : Option (OutX RT den) := none
def pc_laws_heldMailS (fu : Nat) : Pc RT den := ⟨pcf_laws_heldMailS fu, fun _ => false, fun _ => false, pcx_laws_heldMailS fu⟩
def msk_laws_heldMailS (b : Nat) : List Nat := match b with | 0 => [2, 3, 4, 6, 7, 8, 9, 10, 11, 12, 13, 14, 15, 16, 17, 18, 19, 20, 21, 22, 23, 24, 25, 26, 27, 28, 29, 30, 31, 32, 33, 34, 35, 36, 37, 38, 39, 40, 41, 42, 43, 44, 45, 46, 47, 48, 49, 50, 51, 52, 53, 54, 55, 56, 57, 58, 59, 60, 61, 62, 63, 64, 65, 66, 67, 68, 69, 70, 71, 72, 73, 74, 75, 76, 77, 78, 79, 80, 81, 82, 83, 84, 85, 86, 87, 88, 89, 90, 91, 92, 93, 94, 95] | 100000 => [0, 2, 3, 5, 6, 7, 8, 9, 10, 11, 12, 13, 14, 15, 16, 17, 18, 19, 20, 21, 22, 23, 24, 25, 26, 27, 28, 29, 30, 31, 32, 33, 34, 35, 36, 37, 38, 39, 40, 41, 42, 43, 44, 45, 46, 47, 48, 49, 50, 51, 52, 53, 54, 55, 56, 57, 58, 59, 60, 61, 62, 63, 64, 65, 66, 67, 68, 69, 70, 71, 72, 73, 74, 75, 76, 77, 78, 79, 80, 81, 82, 83, 84, 85, 86, 87, 88, 89, 90, 91, 92, 93, 94, 95] | _ => []
def ps_laws_heldMailS_0 : List (Pat RT) := [.flat (.rs .impl_Mail), .flat (.int .i64), .flat .dead, .flat .dead, .flat .dead, .flat (.int .i64), .flat .dead, .flat .dead, .flat .dead, .flat .dead, .flat .dead, .flat .dead, .flat .dead, .flat .dead, .flat .dead, .flat .dead, .flat .dead, .flat .dead, .flat .dead, .flat .dead, .flat .dead, .flat .dead, .flat .dead, .flat .dead, .flat .dead, .flat .dead, .flat .dead, .flat .dead, .flat .dead, .flat .dead, .flat .dead, .flat .dead, .flat .dead, .flat .dead, .flat .dead, .flat .dead, .flat .dead, .flat .dead, .flat .dead, .flat .dead, .flat .dead, .flat .dead, .flat .dead, .flat .dead, .flat .dead, .flat .dead, .flat .dead, .flat .dead, .flat .dead, .flat .dead, .flat .dead, .flat .dead, .flat .dead, .flat .dead, .flat .dead, .flat .dead, .flat .dead, .flat .dead, .flat .dead, .flat .dead, .flat .dead, .flat .dead, .flat .dead, .flat .dead, .flat .dead, .flat .dead, .flat .dead, .flat .dead, .flat .dead, .flat .dead, .flat .dead, .flat .dead, .flat .dead, .flat .dead, .flat .dead, .flat .dead, .flat .dead, .flat .dead, .flat .dead, .flat .dead, .flat .dead, .flat .dead, .flat .dead, .flat .dead, .flat .dead, .flat .dead, .flat .dead, .flat .dead, .flat .dead, .flat .dead, .flat .dead, .flat .dead, .flat .dead, .flat .dead, .flat .dead, .flat .dead]
def os_laws_heldMailS_0 : List (OP RT) := []
def conv_laws_heldMailS_0 (r : Raw den ps_laws_heldMailS_0 os_laws_heldMailS_0) : ((Sl S_impl_Mail)) × (Int × Int) := (r.1.1, (r.1.2.1, r.1.2.2.2.2.2.1))
def back_laws_heldMailS_0 (c : (Sl S_impl_Mail)) (w : Int × Int) : St RT den := ⟨[(.rs c.z .impl_Mail c.n c.f), (.int .i64 w.1), .dead, .dead, .dead, (.int .i64 w.2), .dead, .dead, .dead, .dead, .dead, .dead, .dead, .dead, .dead, .dead, .dead, .dead, .dead, .dead, .dead, .dead, .dead, .dead, .dead, .dead, .dead, .dead, .dead, .dead, .dead, .dead, .dead, .dead, .dead, .dead, .dead, .dead, .dead, .dead, .dead, .dead, .dead, .dead, .dead, .dead, .dead, .dead, .dead, .dead, .dead, .dead, .dead, .dead, .dead, .dead, .dead, .dead, .dead, .dead, .dead, .dead, .dead, .dead, .dead, .dead, .dead, .dead, .dead, .dead, .dead, .dead, .dead, .dead, .dead, .dead, .dead, .dead, .dead, .dead, .dead, .dead, .dead, .dead, .dead, .dead, .dead, .dead, .dead, .dead, .dead, .dead, .dead, .dead, .dead, .dead], []⟩
def Bk_laws_heldMailS_0 {ρ : Type} (fu : Nat) (c : (Sl S_impl_Mail)) (k : Ex → St RT den → Option ρ) (w : Int × Int) (go : (Int × Int) → Option ρ) : Option ρ := F_laws_heldMailS_B0 fu c (fun a0 => k .ret ⟨[.dead, (.int .i64 a0), .dead, .dead, (.int .i64 (-1)), .dead, .dead, .dead, .dead, .dead, .dead, .dead, .dead, .dead, .dead, .dead, .dead, .dead, .dead, .dead, .dead, .dead, .dead, .dead, .dead, .dead, .dead, .dead, .dead, .dead, .dead, .dead, .dead, .dead, .dead, .dead, .dead, .dead, .dead, .dead, .dead, .dead, .dead, .dead, .dead, .dead, .dead, .dead, .dead, .dead, .dead, .dead, .dead, .dead, .dead, .dead, .dead, .dead, .dead, .dead, .dead, .dead, .dead, .dead, .dead, .dead, .dead, .dead, .dead, .dead, .dead, .dead, .dead, .dead, .dead, .dead, .dead, .dead, .dead, .dead, .dead, .dead, .dead, .dead, .dead, .dead, .dead, .dead, .dead, .dead, .dead, .dead, .dead, .dead, .dead, .dead], []⟩) (fun a0 => k (.exit 0) ⟨[.dead, (.int .i64 a0), .dead, .dead, .dead, .dead, .dead, .dead, .dead, .dead, .dead, .dead, .dead, .dead, .dead, .dead, .dead, .dead, .dead, .dead, .dead, .dead, .dead, .dead, .dead, .dead, .dead, .dead, .dead, .dead, .dead, .dead, .dead, .dead, .dead, .dead, .dead, .dead, .dead, .dead, .dead, .dead, .dead, .dead, .dead, .dead, .dead, .dead, .dead, .dead, .dead, .dead, .dead, .dead, .dead, .dead, .dead, .dead, .dead, .dead, .dead, .dead, .dead, .dead, .dead, .dead, .dead, .dead, .dead, .dead, .dead, .dead, .dead, .dead, .dead, .dead, .dead, .dead, .dead, .dead, .dead, .dead, .dead, .dead, .dead, .dead, .dead, .dead, .dead, .dead, .dead, .dead, .dead, .dead, .dead, .dead], []⟩) w.1 w.2 (fun q0 q1 => go (q0, q1))
def lp_laws_heldMailS (fu : Nat) : Lp RT den (Int) := fun b s k => match b with | 0 => handle ps_laws_heldMailS_0 os_laws_heldMailS_0 conv_laws_heldMailS_0 (Bk_laws_heldMailS_0 fu) fu s k | _ => none
theorem ev_laws_heldMailS (fu : Nat) (a_0 : (Sl S_impl_Mail)) (k_1 : Int) : evFun E (pc_laws_heldMailS fu) msk_laws_heldMailS (lp_laws_heldMailS fu) out_i64 66 [(.rs a_0.z .impl_Mail a_0.n a_0.f), (.int .i64 k_1)] = F_laws_heldMailS fu a_0 k_1 := by kernel_rfl
noncomputable def body_laws_heldMailS : Code := Try.f66.body.getD .skip
noncomputable def lc_laws_heldMailS_0 : Code := ((loops 0 body_laws_heldMailS).getD 0 (0, .skip)).2
theorem round_laws_heldMailS_0 (fu : Nat) (it : St RT den → Option (Int)) (k : Ex → St RT den → Option (Int)) c w : evCode E (pc_laws_heldMailS fu) msk_laws_heldMailS (lp_laws_heldMailS fu) 0 lc_laws_heldMailS_0 (back_laws_heldMailS_0 c w) (after (msk_laws_heldMailS 0) (msk_laws_heldMailS 100000) 0 it k) = Bk_laws_heldMailS_0 fu c k w (fun w => it (back_laws_heldMailS_0 c w)) := by kernel_rfl
theorem lpok_laws_heldMailS_0 (fu : Nat) : ∀ s k r, lp_laws_heldMailS fu 0 s k = some r → ∃ fuel, iter (msk_laws_heldMailS 0) (msk_laws_heldMailS 100000) s.objs.length (evCode E (pc_laws_heldMailS fu) msk_laws_heldMailS (lp_laws_heldMailS fu) 0 lc_laws_heldMailS_0) fuel s k = some r :=
  handle_ok (ps := ps_laws_heldMailS_0) (os := os_laws_heldMailS_0) (conv := conv_laws_heldMailS_0) (B := Bk_laws_heldMailS_0 fu) (fu := fu) back_laws_heldMailS_0 (fun raw => by kernel_rfl) 0 (fun c w => by kernel_rfl) (round_laws_heldMailS_0 fu)
theorem lpok_laws_heldMailS (fu : Nat) : LpOk E (pc_laws_heldMailS fu) msk_laws_heldMailS (lp_laws_heldMailS fu) (loops 0 body_laws_heldMailS) := loop_all 1 (by kernel_rfl) fun i hi => match i, hi with
  | 0, _ => by
    have h : (loops 0 body_laws_heldMailS).getD 0 (0, .skip) = (0, lc_laws_heldMailS_0) := by kernel_rfl
    rw [h]; exact lpok_laws_heldMailS_0 fu
  | i + 1, hi => absurd hi (by omega)
def S_laws_heldMailS (fu : Nat) (xs : List (D RT den)) : Option (Out RT den) := match xs with | [.rs za0_0 .impl_Mail na0_0 fa0_0, .int .i64 a1_0] => some ⟨Int, F_laws_heldMailS fu (⟨za0_0, na0_0, fa0_0⟩ : (Sl S_impl_Mail)) a1_0, enc_i64, fun _ => true⟩ | _ => none
theorem hpc_laws_heldMailS (fu : Nat) : ∀ f xs o, pcf_laws_heldMailS fu f xs = some o → ∀ y, o.x = some y → Good E Try.prog f xs (o.g y) := by
  intro f xs o h
  unfold pcf_laws_heldMailS at h
  split at h
  · exact good_laws_heldEntryS fu xs o h
  · cases h
theorem hpx_laws_heldMailS (fu : Nat) : ∀ f xs ins o, pcx_laws_heldMailS fu f xs ins = some o → ∀ y, o.x = some y → GoodX E Try.prog f xs ins (o.g y).1 (o.g y).2 := by
  intro f xs ins o h
  cases h
theorem goodv_laws_heldMailS (fu : Nat) (a_0 : (Sl S_impl_Mail)) (k_1 : Int) (y : Int) (hy : F_laws_heldMailS fu a_0 k_1 = some y) : Good E Try.prog 66 [(.rs a_0.z .impl_Mail a_0.n a_0.f), (.int .i64 k_1)] (enc_i64 y) :=
  fun_good E_ok (pc_good (pc := pc_laws_heldMailS fu) (hpc_laws_heldMailS fu) (hpx_laws_heldMailS fu)) (fn := Try.f66) (c := body_laws_heldMailS) (out := out_i64) (y := y) (by kernel_rfl) (by kernel_rfl) (by kernel_rfl) (lpok_laws_heldMailS fu) (fun d hd => out_i64_enc d _ hd) ((ev_laws_heldMailS fu a_0 k_1).trans hy)
theorem good_laws_heldMailS (fu : Nat) : ∀ xs o, S_laws_heldMailS fu xs = some o → ∀ y, o.x = some y → Good E Try.prog 66 xs (o.g y) := by
  intro xs o h y hy
  unfold S_laws_heldMailS at h
  split at h
  · rename_i za0_0 na0_0 fa0_0 a1_0
    cases h
    exact goodv_laws_heldMailS fu (⟨za0_0, na0_0, fa0_0⟩ : (Sl S_impl_Mail)) a1_0 y hy
  · cases h

/-! laws.heldWonS -/
def F_laws_heldWonS_B0 {ρ : Type} (fu : Nat) (a0_0 : (Sl S_impl_Won)) (k0 : Int → Option ρ) (k1 : Int → Option ρ) (k1_1 : Int) (i5_2 : Int) (go : Int → Int → Option ρ) : Option ρ :=
  (bif (decide (i5_2 < ((a0_0.n : Nat) : Int))) then ((bif (decide (0 ≤ i5_2) && decide ((Int.toNat i5_2) < a0_0.n)) then some () else none : Option Unit).bind fun _ => (bif ((a0_0.f (Int.toNat i5_2)).Term != k1_1) then
    (k0 k1_1) else ((bif (decide (0 ≤ i5_2) && decide ((Int.toNat i5_2) < a0_0.n)) then some () else none : Option Unit).bind fun _ => (bif ((a0_0.f (Int.toNat i5_2)).Node != (IntKind.wrap .i64 (k1_1 + 1))) then
    (k0 (IntKind.wrap .i64 (k1_1 + 1))) else (go (IntKind.wrap .i64 ((IntKind.wrap .i64 (k1_1 + 1)) + 1)) (IntKind.wrap .i64 (i5_2 + 1))))))) else (k1 k1_1))
def F_laws_heldWonS (fu : Nat) (a_0 : (Sl S_impl_Won)) (k_1 : Int) : Option (Int) :=
  (L (fun w0 go0 => F_laws_heldWonS_B0 fu a_0 (fun z92 => (some (-1))) (fun z93 => (some z93)) w0.1 w0.2 (fun q0 q1 => go0 (q0, q1))) fu ((k_1, 0) : Int × Int))
def pcf_laws_heldWonS (fu : Nat) (f : Nat) (xs : List (D RT den)) : Option (Out RT den) := none
def pcx_laws_heldWonS (fu : Nat) (f : Nat) (xs : List (D RT den)) (ins : List (Ob RT den)) : Option (OutX RT den) := none
def pc_laws_heldWonS (fu : Nat) : Pc RT den := ⟨pcf_laws_heldWonS fu, fun _ => false, fun _ => false, pcx_laws_heldWonS fu⟩
def msk_laws_heldWonS (b : Nat) : List Nat := match b with | 0 => [2, 3, 4, 6, 7, 8, 9, 10, 11, 12, 13, 14, 15, 16, 17, 18, 19, 20, 21, 22, 23, 24, 25, 26, 27, 28, 29, 30] | 100000 => [0, 2, 3, 5, 6, 7, 8, 9, 10, 11, 12, 13, 14, 15, 16, 17, 18, 19, 20, 21, 22, 23, 24, 25, 26, 27, 28, 29, 30] | _ => []
def ps_laws_heldWonS_0 : List (Pat RT) := [.flat (.rs .impl_Won), .flat (.int .i64), .flat .dead, .flat .dead, .flat .dead, .flat (.int .i64), .flat .dead, .flat .dead, .flat .dead, .flat .dead, .flat .dead, .flat .dead, .flat .dead, .flat .dead, .flat .dead, .flat .dead, .flat .dead, .flat .dead, .flat .dead, .flat .dead, .flat .dead, .flat .dead, .flat .dead, .flat .dead, .flat .dead, .flat .dead, .flat .dead, .flat .dead, .flat .dead, .flat .dead, .flat .dead]
def os_laws_heldWonS_0 : List (OP RT) := []
def conv_laws_heldWonS_0 (r : Raw den ps_laws_heldWonS_0 os_laws_heldWonS_0) : ((Sl S_impl_Won)) × (Int × Int) := (r.1.1, (r.1.2.1, r.1.2.2.2.2.2.1))
def back_laws_heldWonS_0 (c : (Sl S_impl_Won)) (w : Int × Int) : St RT den := ⟨[(.rs c.z .impl_Won c.n c.f), (.int .i64 w.1), .dead, .dead, .dead, (.int .i64 w.2), .dead, .dead, .dead, .dead, .dead, .dead, .dead, .dead, .dead, .dead, .dead, .dead, .dead, .dead, .dead, .dead, .dead, .dead, .dead, .dead, .dead, .dead, .dead, .dead, .dead], []⟩
def Bk_laws_heldWonS_0 {ρ : Type} (fu : Nat) (c : (Sl S_impl_Won)) (k : Ex → St RT den → Option ρ) (w : Int × Int) (go : (Int × Int) → Option ρ) : Option ρ := F_laws_heldWonS_B0 fu c (fun a0 => k .ret ⟨[.dead, (.int .i64 a0), .dead, .dead, (.int .i64 (-1)), .dead, .dead, .dead, .dead, .dead, .dead, .dead, .dead, .dead, .dead, .dead, .dead, .dead, .dead, .dead, .dead, .dead, .dead, .dead, .dead, .dead, .dead, .dead, .dead, .dead, .dead], []⟩) (fun a0 => k (.exit 0) ⟨[.dead, (.int .i64 a0), .dead, .dead, .dead, .dead, .dead, .dead, .dead, .dead, .dead, .dead, .dead, .dead, .dead, .dead, .dead, .dead, .dead, .dead, .dead, .dead, .dead, .dead, .dead, .dead, .dead, .dead, .dead, .dead, .dead], []⟩) w.1 w.2 (fun q0 q1 => go (q0, q1))
def lp_laws_heldWonS (fu : Nat) : Lp RT den (Int) := fun b s k => match b with | 0 => handle ps_laws_heldWonS_0 os_laws_heldWonS_0 conv_laws_heldWonS_0 (Bk_laws_heldWonS_0 fu) fu s k | _ => none
theorem ev_laws_heldWonS (fu : Nat) (a_0 : (Sl S_impl_Won)) (k_1 : Int) : evFun E (pc_laws_heldWonS fu) msk_laws_heldWonS (lp_laws_heldWonS fu) out_i64 104 [(.rs a_0.z .impl_Won a_0.n a_0.f), (.int .i64 k_1)] = F_laws_heldWonS fu a_0 k_1 := by kernel_rfl
noncomputable def body_laws_heldWonS : Code := Try.f104.body.getD .skip
noncomputable def lc_laws_heldWonS_0 : Code := ((loops 0 body_laws_heldWonS).getD 0 (0, .skip)).2
theorem round_laws_heldWonS_0 (fu : Nat) (it : St RT den → Option (Int)) (k : Ex → St RT den → Option (Int)) c w : evCode E (pc_laws_heldWonS fu) msk_laws_heldWonS (lp_laws_heldWonS fu) 0 lc_laws_heldWonS_0 (back_laws_heldWonS_0 c w) (after (msk_laws_heldWonS 0) (msk_laws_heldWonS 100000) 0 it k) = Bk_laws_heldWonS_0 fu c k w (fun w => it (back_laws_heldWonS_0 c w)) := by kernel_rfl
theorem lpok_laws_heldWonS_0 (fu : Nat) : ∀ s k r, lp_laws_heldWonS fu 0 s k = some r → ∃ fuel, iter (msk_laws_heldWonS 0) (msk_laws_heldWonS 100000) s.objs.length (evCode E (pc_laws_heldWonS fu) msk_laws_heldWonS (lp_laws_heldWonS fu) 0 lc_laws_heldWonS_0) fuel s k = some r :=
  handle_ok (ps := ps_laws_heldWonS_0) (os := os_laws_heldWonS_0) (conv := conv_laws_heldWonS_0) (B := Bk_laws_heldWonS_0 fu) (fu := fu) back_laws_heldWonS_0 (fun raw => by kernel_rfl) 0 (fun c w => by kernel_rfl) (round_laws_heldWonS_0 fu)
theorem lpok_laws_heldWonS (fu : Nat) : LpOk E (pc_laws_heldWonS fu) msk_laws_heldWonS (lp_laws_heldWonS fu) (loops 0 body_laws_heldWonS) := loop_all 1 (by kernel_rfl) fun i hi => match i, hi with
  | 0, _ => by
    have h : (loops 0 body_laws_heldWonS).getD 0 (0, .skip) = (0, lc_laws_heldWonS_0) := by kernel_rfl
    rw [h]; exact lpok_laws_heldWonS_0 fu
  | i + 1, hi => absurd hi (by omega)
def S_laws_heldWonS (fu : Nat) (xs : List (D RT den)) : Option (Out RT den) := match xs with | [.rs za0_0 .impl_Won na0_0 fa0_0, .int .i64 a1_0] => some ⟨Int, F_laws_heldWonS fu (⟨za0_0, na0_0, fa0_0⟩ : (Sl S_impl_Won)) a1_0, enc_i64, fun _ => true⟩ | _ => none
theorem hpc_laws_heldWonS (fu : Nat) : ∀ f xs o, pcf_laws_heldWonS fu f xs = some o → ∀ y, o.x = some y → Good E Try.prog f xs (o.g y) := by
  intro f xs o h
  cases h
theorem hpx_laws_heldWonS (fu : Nat) : ∀ f xs ins o, pcx_laws_heldWonS fu f xs ins = some o → ∀ y, o.x = some y → GoodX E Try.prog f xs ins (o.g y).1 (o.g y).2 := by
  intro f xs ins o h
  cases h
theorem goodv_laws_heldWonS (fu : Nat) (a_0 : (Sl S_impl_Won)) (k_1 : Int) (y : Int) (hy : F_laws_heldWonS fu a_0 k_1 = some y) : Good E Try.prog 104 [(.rs a_0.z .impl_Won a_0.n a_0.f), (.int .i64 k_1)] (enc_i64 y) :=
  fun_good E_ok (pc_good (pc := pc_laws_heldWonS fu) (hpc_laws_heldWonS fu) (hpx_laws_heldWonS fu)) (fn := Try.f104) (c := body_laws_heldWonS) (out := out_i64) (y := y) (by kernel_rfl) (by kernel_rfl) (by kernel_rfl) (lpok_laws_heldWonS fu) (fun d hd => out_i64_enc d _ hd) ((ev_laws_heldWonS fu a_0 k_1).trans hy)
theorem good_laws_heldWonS (fu : Nat) : ∀ xs o, S_laws_heldWonS fu xs = some o → ∀ y, o.x = some y → Good E Try.prog 104 xs (o.g y) := by
  intro xs o h y hy
  unfold S_laws_heldWonS at h
  split at h
  · rename_i za0_0 na0_0 fa0_0 a1_0
    cases h
    exact goodv_laws_heldWonS fu (⟨za0_0, na0_0, fa0_0⟩ : (Sl S_impl_Won)) a1_0 y hy
  · cases h

/-! laws.heldSealS -/
def F_laws_heldSealS_B0 {ρ : Type} (fu : Nat) (a0_0 : (Sl S_impl_Seal)) (k0 : Int → Option ρ) (k1 : Int → Option ρ) (k1_1 : Int) (i5_2 : Int) (go : Int → Int → Option ρ) : Option ρ :=
  (bif (decide (i5_2 < ((a0_0.n : Nat) : Int))) then ((bif (decide (0 ≤ i5_2) && decide ((Int.toNat i5_2) < a0_0.n)) then some () else none : Option Unit).bind fun _ => (bif ((a0_0.f (Int.toNat i5_2)).Term != k1_1) then
    (k0 k1_1) else ((bif (decide (0 ≤ i5_2) && decide ((Int.toNat i5_2) < a0_0.n)) then some () else none : Option Unit).bind fun _ => (bif ((a0_0.f (Int.toNat i5_2)).Entry.Term != (IntKind.wrap .i64 (k1_1 + 1))) then
    (k0 (IntKind.wrap .i64 (k1_1 + 1))) else ((bif (decide (0 ≤ i5_2) && decide ((Int.toNat i5_2) < a0_0.n)) then some () else none : Option Unit).bind fun _ => (bif ((a0_0.f (Int.toNat i5_2)).Entry.Client != (IntKind.wrap .i64 ((IntKind.wrap .i64 (k1_1 + 1)) + 1))) then
    (k0 (IntKind.wrap .i64 ((IntKind.wrap .i64 (k1_1 + 1)) + 1))) else ((bif (decide (0 ≤ i5_2) && decide ((Int.toNat i5_2) < a0_0.n)) then some () else none : Option Unit).bind fun _ =>
    (bif ((a0_0.f (Int.toNat i5_2)).Entry.Seq != (IntKind.wrap .i64 ((IntKind.wrap .i64 ((IntKind.wrap .i64 (k1_1 + 1)) + 1)) + 1))) then (k0 (IntKind.wrap .i64 ((IntKind.wrap .i64 ((IntKind.wrap .i64 (k1_1 + 1)) + 1)) + 1))) else
    ((bif (decide (0 ≤ i5_2) && decide ((Int.toNat i5_2) < a0_0.n)) then some () else none : Option Unit).bind fun _ => (bif ((a0_0.f (Int.toNat i5_2)).Entry.Cmd.Kind != (IntKind.wrap .i64 ((IntKind.wrap .i64 ((IntKind.wrap .i64 ((IntKind.wrap .i64 (k1_1 + 1)) + 1)) + 1)) + 1))) then
    (k0 (IntKind.wrap .i64 ((IntKind.wrap .i64 ((IntKind.wrap .i64 ((IntKind.wrap .i64 (k1_1 + 1)) + 1)) + 1)) + 1))) else ((bif (decide (0 ≤ i5_2) && decide ((Int.toNat i5_2) < a0_0.n)) then
    some () else none : Option Unit).bind fun _ => (bif ((a0_0.f (Int.toNat i5_2)).Entry.Cmd.Expect != (IntKind.wrap .i64 ((IntKind.wrap .i64 ((IntKind.wrap .i64 ((IntKind.wrap .i64 ((IntKind.wrap .i64 (k1_1 + 1)) + 1)) + 1)) + 1)) + 1))) then
    (k0 (IntKind.wrap .i64 ((IntKind.wrap .i64 ((IntKind.wrap .i64 ((IntKind.wrap .i64 ((IntKind.wrap .i64 (k1_1 + 1)) + 1)) + 1)) + 1)) + 1))) else ((bif (decide (0 ≤ i5_2) &&
    decide ((Int.toNat i5_2) < a0_0.n)) then some () else none : Option Unit).bind fun _ => (bif ((a0_0.f (Int.toNat i5_2)).Entry.Cmd.Name != (IntKind.wrap .i64 ((IntKind.wrap .i64 ((IntKind.wrap .i64 ((IntKind.wrap .i64 ((IntKind.wrap .i64 ((IntKind.wrap .i64 (k1_1 + 1)) + 1)) + 1)) + 1)) + 1)) + 1))) then
    (k0 (IntKind.wrap .i64 ((IntKind.wrap .i64 ((IntKind.wrap .i64 ((IntKind.wrap .i64 ((IntKind.wrap .i64 ((IntKind.wrap .i64 (k1_1 + 1)) + 1)) + 1)) + 1)) + 1)) + 1))) else ((bif (decide (0 ≤ i5_2) &&
    decide ((Int.toNat i5_2) < a0_0.n)) then some () else none : Option Unit).bind fun _ => (bif ((a0_0.f (Int.toNat i5_2)).Entry.Cmd.Addr != (IntKind.wrap .i64 ((IntKind.wrap .i64 ((IntKind.wrap .i64 ((IntKind.wrap .i64 ((IntKind.wrap .i64 ((IntKind.wrap .i64 ((IntKind.wrap .i64 (k1_1 + 1)) + 1)) + 1)) + 1)) + 1)) + 1)) + 1))) then
    (k0 (IntKind.wrap .i64 ((IntKind.wrap .i64 ((IntKind.wrap .i64 ((IntKind.wrap .i64 ((IntKind.wrap .i64 ((IntKind.wrap .i64 ((IntKind.wrap .i64 (k1_1 + 1)) + 1)) + 1)) + 1)) + 1)) + 1)) + 1))) else
    ((bif (decide (0 ≤ i5_2) && decide ((Int.toNat i5_2) < a0_0.n)) then some () else none : Option Unit).bind fun _ => (bif ((a0_0.f (Int.toNat i5_2)).Entry.Cmd.Number != (IntKind.wrap .i64 ((IntKind.wrap .i64 ((IntKind.wrap .i64 ((IntKind.wrap .i64 ((IntKind.wrap .i64 ((IntKind.wrap .i64 ((IntKind.wrap .i64 ((IntKind.wrap .i64 (k1_1 + 1)) + 1)) + 1)) + 1)) + 1)) + 1)) + 1)) + 1))) then
    (k0 (IntKind.wrap .i64 ((IntKind.wrap .i64 ((IntKind.wrap .i64 ((IntKind.wrap .i64 ((IntKind.wrap .i64 ((IntKind.wrap .i64 ((IntKind.wrap .i64 ((IntKind.wrap .i64 (k1_1 + 1)) + 1)) + 1)) + 1)) + 1)) + 1)) + 1)) + 1))) else
    ((bif (decide (0 ≤ i5_2) && decide ((Int.toNat i5_2) < a0_0.n)) then some () else none : Option Unit).bind fun _ => (bif ((a0_0.f (Int.toNat i5_2)).Entry.Cmd.Proto != (IntKind.wrap .i64 ((IntKind.wrap .i64 ((IntKind.wrap .i64 ((IntKind.wrap .i64 ((IntKind.wrap .i64 ((IntKind.wrap .i64 ((IntKind.wrap .i64 ((IntKind.wrap .i64 ((IntKind.wrap .i64 (k1_1 + 1)) + 1)) + 1)) + 1)) + 1)) + 1)) + 1)) + 1)) + 1))) then
    (k0 (IntKind.wrap .i64 ((IntKind.wrap .i64 ((IntKind.wrap .i64 ((IntKind.wrap .i64 ((IntKind.wrap .i64 ((IntKind.wrap .i64 ((IntKind.wrap .i64 ((IntKind.wrap .i64 ((IntKind.wrap .i64 (k1_1 + 1)) + 1)) + 1)) + 1)) + 1)) + 1)) + 1)) + 1)) + 1))) else
    (go (IntKind.wrap .i64 ((IntKind.wrap .i64 ((IntKind.wrap .i64 ((IntKind.wrap .i64 ((IntKind.wrap .i64 ((IntKind.wrap .i64 ((IntKind.wrap .i64 ((IntKind.wrap .i64 ((IntKind.wrap .i64 ((IntKind.wrap .i64 (k1_1 + 1)) + 1)) + 1)) + 1)) + 1)) + 1)) + 1)) + 1)) + 1)) + 1)) (IntKind.wrap .i64 (i5_2 + 1))))))))))))))))))))))) else
    (k1 k1_1))
def F_laws_heldSealS (fu : Nat) (a_0 : (Sl S_impl_Seal)) (k_1 : Int) : Option (Int) :=
  (L (fun w0 go0 => F_laws_heldSealS_B0 fu a_0 (fun z94 => (some (-1))) (fun z95 => (some z95)) w0.1 w0.2 (fun q0 q1 => go0 (q0, q1))) fu ((k_1, 0) : Int × Int))
def pcf_laws_heldSealS (fu : Nat) (f : Nat) (xs : List (D RT den)) : Option (Out RT den) := none
def pcx_laws_heldSealS (fu : Nat) (f : Nat) (xs : List (D RT den)) (ins : List (Ob RT den)) : Option (OutX RT den) := none
def pc_laws_heldSealS (fu : Nat) : Pc RT den := ⟨pcf_laws_heldSealS fu, fun _ => false, fun _ => false, pcx_laws_heldSealS fu⟩
def msk_laws_heldSealS (b : Nat) : List Nat := match b with | 0 => [2, 3, 4, 6, 7, 8, 9, 10, 11, 12, 13, 14, 15, 16, 17, 18, 19, 20, 21, 22, 23, 24, 25, 26, 27, 28, 29, 30, 31, 32, 33, 34, 35, 36, 37, 38, 39, 40, 41, 42, 43, 44, 45, 46, 47, 48, 49, 50, 51, 52, 53, 54, 55, 56, 57, 58, 59, 60, 61, 62, 63, 64, 65, 66, 67, 68, 69, 70, 71, 72, 73, 74, 75, 76, 77, 78, 79, 80, 81, 82, 83, 84, 85, 86, 87, 88, 89, 90, 91, 92, 93, 94, 95, 96, 97, 98, 99, 100, 101, 102, 103, 104, 105, 106, 107, 108, 109, 110, 111, 112, 113, 114, 115, 116, 117] | 100000 => [0, 2, 3, 5, 6, 7, 8, 9, 10, 11, 12, 13, 14, 15, 16, 17, 18, 19, 20, 21, 22, 23, 24, 25, 26, 27, 28, 29, 30, 31, 32, 33, 34, 35, 36, 37, 38, 39, 40, 41, 42, 43, 44, 45, 46, 47, 48, 49, 50, 51, 52, 53, 54, 55, 56, 57, 58, 59, 60, 61, 62, 63, 64, 65, 66, 67, 68, 69, 70, 71, 72, 73, 74, 75, 76, 77, 78, 79, 80, 81, 82, 83, 84, 85, 86, 87, 88, 89, 90, 91, 92, 93, 94, 95, 96, 97, 98, 99, 100, 101, 102, 103, 104, 105, 106, 107, 108, 109, 110, 111, 112, 113, 114, 115, 116, 117] | _ => []
def ps_laws_heldSealS_0 : List (Pat RT) := [.flat (.rs .impl_Seal), .flat (.int .i64), .flat .dead, .flat .dead, .flat .dead, .flat (.int .i64), .flat .dead, .flat .dead, .flat .dead, .flat .dead, .flat .dead, .flat .dead, .flat .dead, .flat .dead, .flat .dead, .flat .dead, .flat .dead, .flat .dead, .flat .dead, .flat .dead, .flat .dead, .flat .dead, .flat .dead, .flat .dead, .flat .dead, .flat .dead, .flat .dead, .flat .dead, .flat .dead, .flat .dead, .flat .dead, .flat .dead, .flat .dead, .flat .dead, .flat .dead, .flat .dead, .flat .dead, .flat .dead, .flat .dead, .flat .dead, .flat .dead, .flat .dead, .flat .dead, .flat .dead, .flat .dead, .flat .dead, .flat .dead, .flat .dead, .flat .dead, .flat .dead, .flat .dead, .flat .dead, .flat .dead, .flat .dead, .flat .dead, .flat .dead, .flat .dead, .flat .dead, .flat .dead, .flat .dead, .flat .dead, .flat .dead, .flat .dead, .flat .dead, .flat .dead, .flat .dead, .flat .dead, .flat .dead, .flat .dead, .flat .dead, .flat .dead, .flat .dead, .flat .dead, .flat .dead, .flat .dead, .flat .dead, .flat .dead, .flat .dead, .flat .dead, .flat .dead, .flat .dead, .flat .dead, .flat .dead, .flat .dead, .flat .dead, .flat .dead, .flat .dead, .flat .dead, .flat .dead, .flat .dead, .flat .dead, .flat .dead, .flat .dead, .flat .dead, .flat .dead, .flat .dead, .flat .dead, .flat .dead, .flat .dead, .flat .dead, .flat .dead, .flat .dead, .flat .dead, .flat .dead, .flat .dead, .flat .dead, .flat .dead, .flat .dead, .flat .dead, .flat .dead, .flat .dead, .flat .dead, .flat .dead, .flat .dead, .flat .dead, .flat .dead, .flat .dead, .flat .dead]
def os_laws_heldSealS_0 : List (OP RT) := []
def conv_laws_heldSealS_0 (r : Raw den ps_laws_heldSealS_0 os_laws_heldSealS_0) : ((Sl S_impl_Seal)) × (Int × Int) := (r.1.1, (r.1.2.1, r.1.2.2.2.2.2.1))
def back_laws_heldSealS_0 (c : (Sl S_impl_Seal)) (w : Int × Int) : St RT den := ⟨[(.rs c.z .impl_Seal c.n c.f), (.int .i64 w.1), .dead, .dead, .dead, (.int .i64 w.2), .dead, .dead, .dead, .dead, .dead, .dead, .dead, .dead, .dead, .dead, .dead, .dead, .dead, .dead, .dead, .dead, .dead, .dead, .dead, .dead, .dead, .dead, .dead, .dead, .dead, .dead, .dead, .dead, .dead, .dead, .dead, .dead, .dead, .dead, .dead, .dead, .dead, .dead, .dead, .dead, .dead, .dead, .dead, .dead, .dead, .dead, .dead, .dead, .dead, .dead, .dead, .dead, .dead, .dead, .dead, .dead, .dead, .dead, .dead, .dead, .dead, .dead, .dead, .dead, .dead, .dead, .dead, .dead, .dead, .dead, .dead, .dead, .dead, .dead, .dead, .dead, .dead, .dead, .dead, .dead, .dead, .dead, .dead, .dead, .dead, .dead, .dead, .dead, .dead, .dead, .dead, .dead, .dead, .dead, .dead, .dead, .dead, .dead, .dead, .dead, .dead, .dead, .dead, .dead, .dead, .dead, .dead, .dead, .dead, .dead, .dead, .dead], []⟩
def Bk_laws_heldSealS_0 {ρ : Type} (fu : Nat) (c : (Sl S_impl_Seal)) (k : Ex → St RT den → Option ρ) (w : Int × Int) (go : (Int × Int) → Option ρ) : Option ρ := F_laws_heldSealS_B0 fu c (fun a0 => k .ret ⟨[.dead, (.int .i64 a0), .dead, .dead, (.int .i64 (-1)), .dead, .dead, .dead, .dead, .dead, .dead, .dead, .dead, .dead, .dead, .dead, .dead, .dead, .dead, .dead, .dead, .dead, .dead, .dead, .dead, .dead, .dead, .dead, .dead, .dead, .dead, .dead, .dead, .dead, .dead, .dead, .dead, .dead, .dead, .dead, .dead, .dead, .dead, .dead, .dead, .dead, .dead, .dead, .dead, .dead, .dead, .dead, .dead, .dead, .dead, .dead, .dead, .dead, .dead, .dead, .dead, .dead, .dead, .dead, .dead, .dead, .dead, .dead, .dead, .dead, .dead, .dead, .dead, .dead, .dead, .dead, .dead, .dead, .dead, .dead, .dead, .dead, .dead, .dead, .dead, .dead, .dead, .dead, .dead, .dead, .dead, .dead, .dead, .dead, .dead, .dead, .dead, .dead, .dead, .dead, .dead, .dead, .dead, .dead, .dead, .dead, .dead, .dead, .dead, .dead, .dead, .dead, .dead, .dead, .dead, .dead, .dead, .dead], []⟩) (fun a0 => k (.exit 0) ⟨[.dead, (.int .i64 a0), .dead, .dead, .dead, .dead, .dead, .dead, .dead, .dead, .dead, .dead, .dead, .dead, .dead, .dead, .dead, .dead, .dead, .dead, .dead, .dead, .dead, .dead, .dead, .dead, .dead, .dead, .dead, .dead, .dead, .dead, .dead, .dead, .dead, .dead, .dead, .dead, .dead, .dead, .dead, .dead, .dead, .dead, .dead, .dead, .dead, .dead, .dead, .dead, .dead, .dead, .dead, .dead, .dead, .dead, .dead, .dead, .dead, .dead, .dead, .dead, .dead, .dead, .dead, .dead, .dead, .dead, .dead, .dead, .dead, .dead, .dead, .dead, .dead, .dead, .dead, .dead, .dead, .dead, .dead, .dead, .dead, .dead, .dead, .dead, .dead, .dead, .dead, .dead, .dead, .dead, .dead, .dead, .dead, .dead, .dead, .dead, .dead, .dead, .dead, .dead, .dead, .dead, .dead, .dead, .dead, .dead, .dead, .dead, .dead, .dead, .dead, .dead, .dead, .dead, .dead, .dead], []⟩) w.1 w.2 (fun q0 q1 => go (q0, q1))
def lp_laws_heldSealS (fu : Nat) : Lp RT den (Int) := fun b s k => match b with | 0 => handle ps_laws_heldSealS_0 os_laws_heldSealS_0 conv_laws_heldSealS_0 (Bk_laws_heldSealS_0 fu) fu s k | _ => none
theorem ev_laws_heldSealS (fu : Nat) (a_0 : (Sl S_impl_Seal)) (k_1 : Int) : evFun E (pc_laws_heldSealS fu) msk_laws_heldSealS (lp_laws_heldSealS fu) out_i64 105 [(.rs a_0.z .impl_Seal a_0.n a_0.f), (.int .i64 k_1)] = F_laws_heldSealS fu a_0 k_1 := by kernel_rfl
noncomputable def body_laws_heldSealS : Code := Try.f105.body.getD .skip
noncomputable def lc_laws_heldSealS_0 : Code := ((loops 0 body_laws_heldSealS).getD 0 (0, .skip)).2
theorem round_laws_heldSealS_0 (fu : Nat) (it : St RT den → Option (Int)) (k : Ex → St RT den → Option (Int)) c w : evCode E (pc_laws_heldSealS fu) msk_laws_heldSealS (lp_laws_heldSealS fu) 0 lc_laws_heldSealS_0 (back_laws_heldSealS_0 c w) (after (msk_laws_heldSealS 0) (msk_laws_heldSealS 100000) 0 it k) = Bk_laws_heldSealS_0 fu c k w (fun w => it (back_laws_heldSealS_0 c w)) := by kernel_rfl
theorem lpok_laws_heldSealS_0 (fu : Nat) : ∀ s k r, lp_laws_heldSealS fu 0 s k = some r → ∃ fuel, iter (msk_laws_heldSealS 0) (msk_laws_heldSealS 100000) s.objs.length (evCode E (pc_laws_heldSealS fu) msk_laws_heldSealS (lp_laws_heldSealS fu) 0 lc_laws_heldSealS_0) fuel s k = some r :=
  handle_ok (ps := ps_laws_heldSealS_0) (os := os_laws_heldSealS_0) (conv := conv_laws_heldSealS_0) (B := Bk_laws_heldSealS_0 fu) (fu := fu) back_laws_heldSealS_0 (fun raw => by kernel_rfl) 0 (fun c w => by kernel_rfl) (round_laws_heldSealS_0 fu)
theorem lpok_laws_heldSealS (fu : Nat) : LpOk E (pc_laws_heldSealS fu) msk_laws_heldSealS (lp_laws_heldSealS fu) (loops 0 body_laws_heldSealS) := loop_all 1 (by kernel_rfl) fun i hi => match i, hi with
  | 0, _ => by
    have h : (loops 0 body_laws_heldSealS).getD 0 (0, .skip) = (0, lc_laws_heldSealS_0) := by kernel_rfl
    rw [h]; exact lpok_laws_heldSealS_0 fu
  | i + 1, hi => absurd hi (by omega)
def S_laws_heldSealS (fu : Nat) (xs : List (D RT den)) : Option (Out RT den) := match xs with | [.rs za0_0 .impl_Seal na0_0 fa0_0, .int .i64 a1_0] => some ⟨Int, F_laws_heldSealS fu (⟨za0_0, na0_0, fa0_0⟩ : (Sl S_impl_Seal)) a1_0, enc_i64, fun _ => true⟩ | _ => none
theorem hpc_laws_heldSealS (fu : Nat) : ∀ f xs o, pcf_laws_heldSealS fu f xs = some o → ∀ y, o.x = some y → Good E Try.prog f xs (o.g y) := by
  intro f xs o h
  cases h
theorem hpx_laws_heldSealS (fu : Nat) : ∀ f xs ins o, pcx_laws_heldSealS fu f xs ins = some o → ∀ y, o.x = some y → GoodX E Try.prog f xs ins (o.g y).1 (o.g y).2 := by
  intro f xs ins o h
  cases h
theorem goodv_laws_heldSealS (fu : Nat) (a_0 : (Sl S_impl_Seal)) (k_1 : Int) (y : Int) (hy : F_laws_heldSealS fu a_0 k_1 = some y) : Good E Try.prog 105 [(.rs a_0.z .impl_Seal a_0.n a_0.f), (.int .i64 k_1)] (enc_i64 y) :=
  fun_good E_ok (pc_good (pc := pc_laws_heldSealS fu) (hpc_laws_heldSealS fu) (hpx_laws_heldSealS fu)) (fn := Try.f105) (c := body_laws_heldSealS) (out := out_i64) (y := y) (by kernel_rfl) (by kernel_rfl) (by kernel_rfl) (lpok_laws_heldSealS fu) (fun d hd => out_i64_enc d _ hd) ((ev_laws_heldSealS fu a_0 k_1).trans hy)
theorem good_laws_heldSealS (fu : Nat) : ∀ xs o, S_laws_heldSealS fu xs = some o → ∀ y, o.x = some y → Good E Try.prog 105 xs (o.g y) := by
  intro xs o h y hy
  unfold S_laws_heldSealS at h
  split at h
  · rename_i za0_0 na0_0 fa0_0 a1_0
    cases h
    exact goodv_laws_heldSealS fu (⟨za0_0, na0_0, fa0_0⟩ : (Sl S_impl_Seal)) a1_0 y hy
  · cases h

/-! laws.heldCluster -/
def F_laws_heldCluster (fu : Nat) (a_0 : S_impl_Cluster) (k_1 : Int) : Option (Int) :=
  ((F_laws_heldNodeS fu a_0.Nodes k_1).bind fun y75 => (bif (decide (y75 < 0)) then (some (-1)) else ((F_laws_heldMailS fu a_0.Mails y75).bind fun y76 => (bif (decide (y76 < 0)) then
    (some (-1)) else ((F_laws_heldWonS fu a_0.Wins y76).bind fun y77 => (bif (decide (y77 < 0)) then (some (-1)) else ((F_laws_heldSealS fu a_0.Seals y77).bind fun y78 => (bif (decide (y78 < 0)) then
    (some (-1)) else (some y78)))))))))
def pcf_laws_heldCluster (fu : Nat) (f : Nat) (xs : List (D RT den)) : Option (Out RT den) := match f with | 66 => S_laws_heldMailS fu xs | 103 => S_laws_heldNodeS fu xs | 104 => S_laws_heldWonS fu xs | 105 => S_laws_heldSealS fu xs | _ => none
def pcx_laws_heldCluster (fu : Nat) (f : Nat) (xs : List (D RT den)) (ins : List (Ob RT den)) : Option (OutX RT den) := none
def pc_laws_heldCluster (fu : Nat) : Pc RT den := ⟨pcf_laws_heldCluster fu, fun _ => false, fun _ => false, pcx_laws_heldCluster fu⟩
def msk_laws_heldCluster (b : Nat) : List Nat := []
def lp_laws_heldCluster (fu : Nat) : Lp RT den (Int) := fun b s k => none
theorem ev_laws_heldCluster (fu : Nat) (a_0 : S_impl_Cluster) (k_1 : Int) : evFun E (pc_laws_heldCluster fu) msk_laws_heldCluster (lp_laws_heldCluster fu) out_i64 77 [(.agg [(.rs a_0.Nodes.z .impl_Node a_0.Nodes.n a_0.Nodes.f), (.rs a_0.Mails.z .impl_Mail a_0.Mails.n a_0.Mails.f), (.rs a_0.Wins.z .impl_Won a_0.Wins.n a_0.Wins.f), (.rs a_0.Seals.z .impl_Seal a_0.Seals.n a_0.Seals.f)]), (.int .i64 k_1)] = F_laws_heldCluster fu a_0 k_1 := by kernel_rfl
noncomputable def body_laws_heldCluster : Code := Try.f77.body.getD .skip
theorem lpok_laws_heldCluster (fu : Nat) : LpOk E (pc_laws_heldCluster fu) msk_laws_heldCluster (lp_laws_heldCluster fu) (loops 0 body_laws_heldCluster) := by
  have h : loops 0 body_laws_heldCluster = [] := by kernel_rfl
  rw [h]; intro p hp; cases hp
def S_laws_heldCluster (fu : Nat) (xs : List (D RT den)) : Option (Out RT den) := match xs with | [.agg [.rs za0_1 .impl_Node na0_1 fa0_1, .rs za0_2 .impl_Mail na0_2 fa0_2, .rs za0_3 .impl_Won na0_3 fa0_3, .rs za0_4 .impl_Seal na0_4 fa0_4], .int .i64 a1_0] => some ⟨Int, F_laws_heldCluster fu (⟨(⟨za0_1, na0_1, fa0_1⟩ : (Sl S_impl_Node_0)), (⟨za0_2, na0_2, fa0_2⟩ : (Sl S_impl_Mail)), (⟨za0_3, na0_3, fa0_3⟩ : (Sl S_impl_Won)), (⟨za0_4, na0_4, fa0_4⟩ : (Sl S_impl_Seal))⟩ : S_impl_Cluster) a1_0, enc_i64, fun _ => true⟩ | _ => none
theorem hpc_laws_heldCluster (fu : Nat) : ∀ f xs o, pcf_laws_heldCluster fu f xs = some o → ∀ y, o.x = some y → Good E Try.prog f xs (o.g y) := by
  intro f xs o h
  unfold pcf_laws_heldCluster at h
  split at h
  · exact good_laws_heldMailS fu xs o h
  · exact good_laws_heldNodeS fu xs o h
  · exact good_laws_heldWonS fu xs o h
  · exact good_laws_heldSealS fu xs o h
  · cases h
theorem hpx_laws_heldCluster (fu : Nat) : ∀ f xs ins o, pcx_laws_heldCluster fu f xs ins = some o → ∀ y, o.x = some y → GoodX E Try.prog f xs ins (o.g y).1 (o.g y).2 := by
  intro f xs ins o h
  cases h
theorem goodv_laws_heldCluster (fu : Nat) (a_0 : S_impl_Cluster) (k_1 : Int) (y : Int) (hy : F_laws_heldCluster fu a_0 k_1 = some y) : Good E Try.prog 77 [(.agg [(.rs a_0.Nodes.z .impl_Node a_0.Nodes.n a_0.Nodes.f), (.rs a_0.Mails.z .impl_Mail a_0.Mails.n a_0.Mails.f), (.rs a_0.Wins.z .impl_Won a_0.Wins.n a_0.Wins.f), (.rs a_0.Seals.z .impl_Seal a_0.Seals.n a_0.Seals.f)]), (.int .i64 k_1)] (enc_i64 y) :=
  fun_good E_ok (pc_good (pc := pc_laws_heldCluster fu) (hpc_laws_heldCluster fu) (hpx_laws_heldCluster fu)) (fn := Try.f77) (c := body_laws_heldCluster) (out := out_i64) (y := y) (by kernel_rfl) (by kernel_rfl) (by kernel_rfl) (lpok_laws_heldCluster fu) (fun d hd => out_i64_enc d _ hd) ((ev_laws_heldCluster fu a_0 k_1).trans hy)
theorem good_laws_heldCluster (fu : Nat) : ∀ xs o, S_laws_heldCluster fu xs = some o → ∀ y, o.x = some y → Good E Try.prog 77 xs (o.g y) := by
  intro xs o h y hy
  unfold S_laws_heldCluster at h
  split at h
  · rename_i za0_1 na0_1 fa0_1 za0_2 na0_2 fa0_2 za0_3 na0_3 fa0_3 za0_4 na0_4 fa0_4 a1_0
    cases h
    exact goodv_laws_heldCluster fu (⟨(⟨za0_1, na0_1, fa0_1⟩ : (Sl S_impl_Node_0)), (⟨za0_2, na0_2, fa0_2⟩ : (Sl S_impl_Mail)), (⟨za0_3, na0_3, fa0_3⟩ : (Sl S_impl_Won)), (⟨za0_4, na0_4, fa0_4⟩ : (Sl S_impl_Seal))⟩ : S_impl_Cluster) a1_0 y hy
  · cases h

/-! laws.heldClusterResult -/
def F_laws_heldClusterResult (fu : Nat) (a_0 : S_impl_ClusterResult) (k_1 : Int) : Option (Int) :=
  ((F_laws_heldCluster fu a_0.Cluster k_1).bind fun y74 => (bif (decide (y74 < 0)) then (some (-1)) else (some y74)))
def pcf_laws_heldClusterResult (fu : Nat) (f : Nat) (xs : List (D RT den)) : Option (Out RT den) := match f with | 77 => S_laws_heldCluster fu xs | _ => none
def pcx_laws_heldClusterResult (fu : Nat) (f : Nat) (xs : List (D RT den)) (ins : List (Ob RT den)) : Option (OutX RT den) := none
def pc_laws_heldClusterResult (fu : Nat) : Pc RT den := ⟨pcf_laws_heldClusterResult fu, fun _ => false, fun _ => false, pcx_laws_heldClusterResult fu⟩
def msk_laws_heldClusterResult (b : Nat) : List Nat := []
def lp_laws_heldClusterResult (fu : Nat) : Lp RT den (Int) := fun b s k => none
theorem ev_laws_heldClusterResult (fu : Nat) (a_0 : S_impl_ClusterResult) (k_1 : Int) : evFun E (pc_laws_heldClusterResult fu) msk_laws_heldClusterResult (lp_laws_heldClusterResult fu) out_i64 40 [(.agg [(.int .i64 a_0.Code), (.rs a_0.Cluster.Nodes.z .impl_Node a_0.Cluster.Nodes.n a_0.Cluster.Nodes.f), (.rs a_0.Cluster.Mails.z .impl_Mail a_0.Cluster.Mails.n a_0.Cluster.Mails.f), (.rs a_0.Cluster.Wins.z .impl_Won a_0.Cluster.Wins.n a_0.Cluster.Wins.f), (.rs a_0.Cluster.Seals.z .impl_Seal a_0.Cluster.Seals.n a_0.Cluster.Seals.f)]), (.int .i64 k_1)] = F_laws_heldClusterResult fu a_0 k_1 := by kernel_rfl
noncomputable def body_laws_heldClusterResult : Code := Try.f40.body.getD .skip
theorem lpok_laws_heldClusterResult (fu : Nat) : LpOk E (pc_laws_heldClusterResult fu) msk_laws_heldClusterResult (lp_laws_heldClusterResult fu) (loops 0 body_laws_heldClusterResult) := by
  have h : loops 0 body_laws_heldClusterResult = [] := by kernel_rfl
  rw [h]; intro p hp; cases hp
def S_laws_heldClusterResult (fu : Nat) (xs : List (D RT den)) : Option (Out RT den) := match xs with | [.agg [.int .i64 a0_1, .rs za0_3 .impl_Node na0_3 fa0_3, .rs za0_4 .impl_Mail na0_4 fa0_4, .rs za0_5 .impl_Won na0_5 fa0_5, .rs za0_6 .impl_Seal na0_6 fa0_6], .int .i64 a1_0] => some ⟨Int, F_laws_heldClusterResult fu (⟨a0_1, (⟨(⟨za0_3, na0_3, fa0_3⟩ : (Sl S_impl_Node_0)), (⟨za0_4, na0_4, fa0_4⟩ : (Sl S_impl_Mail)), (⟨za0_5, na0_5, fa0_5⟩ : (Sl S_impl_Won)), (⟨za0_6, na0_6, fa0_6⟩ : (Sl S_impl_Seal))⟩ : S_impl_Cluster)⟩ : S_impl_ClusterResult) a1_0, enc_i64, fun _ => true⟩ | _ => none
theorem hpc_laws_heldClusterResult (fu : Nat) : ∀ f xs o, pcf_laws_heldClusterResult fu f xs = some o → ∀ y, o.x = some y → Good E Try.prog f xs (o.g y) := by
  intro f xs o h
  unfold pcf_laws_heldClusterResult at h
  split at h
  · exact good_laws_heldCluster fu xs o h
  · cases h
theorem hpx_laws_heldClusterResult (fu : Nat) : ∀ f xs ins o, pcx_laws_heldClusterResult fu f xs ins = some o → ∀ y, o.x = some y → GoodX E Try.prog f xs ins (o.g y).1 (o.g y).2 := by
  intro f xs ins o h
  cases h
theorem goodv_laws_heldClusterResult (fu : Nat) (a_0 : S_impl_ClusterResult) (k_1 : Int) (y : Int) (hy : F_laws_heldClusterResult fu a_0 k_1 = some y) : Good E Try.prog 40 [(.agg [(.int .i64 a_0.Code), (.rs a_0.Cluster.Nodes.z .impl_Node a_0.Cluster.Nodes.n a_0.Cluster.Nodes.f), (.rs a_0.Cluster.Mails.z .impl_Mail a_0.Cluster.Mails.n a_0.Cluster.Mails.f), (.rs a_0.Cluster.Wins.z .impl_Won a_0.Cluster.Wins.n a_0.Cluster.Wins.f), (.rs a_0.Cluster.Seals.z .impl_Seal a_0.Cluster.Seals.n a_0.Cluster.Seals.f)]), (.int .i64 k_1)] (enc_i64 y) :=
  fun_good E_ok (pc_good (pc := pc_laws_heldClusterResult fu) (hpc_laws_heldClusterResult fu) (hpx_laws_heldClusterResult fu)) (fn := Try.f40) (c := body_laws_heldClusterResult) (out := out_i64) (y := y) (by kernel_rfl) (by kernel_rfl) (by kernel_rfl) (lpok_laws_heldClusterResult fu) (fun d hd => out_i64_enc d _ hd) ((ev_laws_heldClusterResult fu a_0 k_1).trans hy)
theorem good_laws_heldClusterResult (fu : Nat) : ∀ xs o, S_laws_heldClusterResult fu xs = some o → ∀ y, o.x = some y → Good E Try.prog 40 xs (o.g y) := by
  intro xs o h y hy
  unfold S_laws_heldClusterResult at h
  split at h
  · rename_i a0_1 za0_3 na0_3 fa0_3 za0_4 na0_4 fa0_4 za0_5 na0_5 fa0_5 za0_6 na0_6 fa0_6 a1_0
    cases h
    exact goodv_laws_heldClusterResult fu (⟨a0_1, (⟨(⟨za0_3, na0_3, fa0_3⟩ : (Sl S_impl_Node_0)), (⟨za0_4, na0_4, fa0_4⟩ : (Sl S_impl_Mail)), (⟨za0_5, na0_5, fa0_5⟩ : (Sl S_impl_Won)), (⟨za0_6, na0_6, fa0_6⟩ : (Sl S_impl_Seal))⟩ : S_impl_Cluster)⟩ : S_impl_ClusterResult) a1_0 y hy
  · cases h

/-! laws.FnExactNewCluster -/
def F_laws_FnExactNewCluster (fu : Nat) (aPeers_0 : Int) : Option (Bool) :=
  ((F_spec_NewCluster_H fu aPeers_0).bind fun y16 => ((F_impl_NewCluster_H fu aPeers_0).bind fun y35 => ((F_laws_eqClusterResult fu (⟨y35.Code, (⟨(⟨none, y35.Cluster.Nodes.n,
    y35.Cluster.Nodes.f⟩ : (Sl S_impl_Node_0)), (⟨(some true), 0, (fun _ => dflt .impl_Mail)⟩ : (Sl S_impl_Mail)), (⟨none, y35.Cluster.Wins.n, y35.Cluster.Wins.f⟩ : (Sl S_impl_Won)),
    (⟨none, y35.Cluster.Seals.n, y35.Cluster.Seals.f⟩ : (Sl S_impl_Seal))⟩ : S_impl_Cluster)⟩ : S_impl_ClusterResult) (⟨y16.Code, (⟨(⟨none, y16.Cluster.Nodes.n, y16.Cluster.Nodes.f⟩ : (Sl S_impl_Node_0)),
    (⟨(some true), 0, (fun _ => dflt .impl_Mail)⟩ : (Sl S_impl_Mail)), (⟨none, y16.Cluster.Wins.n, y16.Cluster.Wins.f⟩ : (Sl S_impl_Won)), (⟨none, y16.Cluster.Seals.n,
    y16.Cluster.Seals.f⟩ : (Sl S_impl_Seal))⟩ : S_impl_Cluster)⟩ : S_impl_ClusterResult)).bind fun y36 => (bif (!y36) then (some false) else ((F_laws_markClusterResult_L fu y35.Code y35.Cluster.Nodes.n y35.Cluster.Wins.n y35.Cluster.Seals.n 1 y35.Cluster.Nodes.n y35.Cluster.Nodes.f y35.Cluster.Wins.n y35.Cluster.Wins.f y35.Cluster.Seals.n y35.Cluster.Seals.f).bind fun y52 =>
    ((F_laws_heldClusterResult fu (⟨y35.Code, (⟨(⟨none, y35.Cluster.Nodes.n, y52.2.1.2⟩ : (Sl S_impl_Node_0)), (⟨(some true), 0, (fun _ => dflt .impl_Mail)⟩ : (Sl S_impl_Mail)),
    (⟨none, y35.Cluster.Wins.n, y52.2.2.1.2⟩ : (Sl S_impl_Won)), (⟨none, y35.Cluster.Seals.n, y52.2.2.2.2⟩ : (Sl S_impl_Seal))⟩ : S_impl_Cluster)⟩ : S_impl_ClusterResult) 1).bind fun y53 =>
    (bif (decide (y53 < 0)) then (some false) else (bif (y53 != y52.1) then (some false) else ((F_impl_NewCluster_H fu aPeers_0).bind fun y54 => ((F_laws_eqClusterResult fu (⟨y54.Code,
    (⟨(⟨none, y54.Cluster.Nodes.n, y54.Cluster.Nodes.f⟩ : (Sl S_impl_Node_0)), (⟨(some true), 0, (fun _ => dflt .impl_Mail)⟩ : (Sl S_impl_Mail)), (⟨none, y54.Cluster.Wins.n,
    y54.Cluster.Wins.f⟩ : (Sl S_impl_Won)), (⟨none, y54.Cluster.Seals.n, y54.Cluster.Seals.f⟩ : (Sl S_impl_Seal))⟩ : S_impl_Cluster)⟩ : S_impl_ClusterResult) (⟨y16.Code, (⟨(⟨none,
    y16.Cluster.Nodes.n, y16.Cluster.Nodes.f⟩ : (Sl S_impl_Node_0)), (⟨(some true), 0, (fun _ => dflt .impl_Mail)⟩ : (Sl S_impl_Mail)), (⟨none, y16.Cluster.Wins.n,
    y16.Cluster.Wins.f⟩ : (Sl S_impl_Won)), (⟨none, y16.Cluster.Seals.n, y16.Cluster.Seals.f⟩ : (Sl S_impl_Seal))⟩ : S_impl_Cluster)⟩ : S_impl_ClusterResult)).bind fun y55 => (bif (!y55) then
    (some false) else ((F_laws_heldClusterResult fu (⟨y35.Code, (⟨(⟨none, y35.Cluster.Nodes.n, y52.2.1.2⟩ : (Sl S_impl_Node_0)), (⟨(some true), 0, (fun _ => dflt .impl_Mail)⟩ : (Sl S_impl_Mail)),
    (⟨none, y35.Cluster.Wins.n, y52.2.2.1.2⟩ : (Sl S_impl_Won)), (⟨none, y35.Cluster.Seals.n, y52.2.2.2.2⟩ : (Sl S_impl_Seal))⟩ : S_impl_Cluster)⟩ : S_impl_ClusterResult) 1).bind fun y56 =>
    (bif (decide (y56 < 0)) then (some false) else (bif (y56 != y52.1) then (some false) else (some true)))))))))))))))
def pcf_laws_FnExactNewCluster (fu : Nat) (f : Nat) (xs : List (D RT den)) : Option (Out RT den) := match f with | 38 => S_laws_eqClusterResult fu xs | 40 => S_laws_heldClusterResult fu xs | _ => none
def pcx_laws_FnExactNewCluster (fu : Nat) (f : Nat) (xs : List (D RT den)) (ins : List (Ob RT den)) : Option (OutX RT den) := match f with | 36 => S_spec_NewCluster_H fu xs ins | 37 => S_impl_NewCluster_H fu xs ins | 39 => S_laws_markClusterResult_L fu xs ins | _ => none
def pc_laws_FnExactNewCluster (fu : Nat) : Pc RT den := ⟨pcf_laws_FnExactNewCluster fu, fun f => match f with | 36 => true | 37 => true | 39 => true | _ => false, fun f => match f with | 39 => true | _ => false, pcx_laws_FnExactNewCluster fu⟩
def msk_laws_FnExactNewCluster (b : Nat) : List Nat := []
def lp_laws_FnExactNewCluster (fu : Nat) : Lp RT den (Bool) := fun b s k => none
theorem ev_laws_FnExactNewCluster (fu : Nat) (aPeers_0 : Int) : evFun E (pc_laws_FnExactNewCluster fu) msk_laws_FnExactNewCluster (lp_laws_FnExactNewCluster fu) out_bo 7 [(.int .i64 aPeers_0)] = F_laws_FnExactNewCluster fu aPeers_0 := by kernel_rfl
noncomputable def body_laws_FnExactNewCluster : Code := Try.f7.body.getD .skip
theorem lpok_laws_FnExactNewCluster (fu : Nat) : LpOk E (pc_laws_FnExactNewCluster fu) msk_laws_FnExactNewCluster (lp_laws_FnExactNewCluster fu) (loops 0 body_laws_FnExactNewCluster) := by
  have h : loops 0 body_laws_FnExactNewCluster = [] := by kernel_rfl
  rw [h]; intro p hp; cases hp
def S_laws_FnExactNewCluster (fu : Nat) (xs : List (D RT den)) : Option (Out RT den) := match xs with | [.int .i64 a0_0] => some ⟨Bool, F_laws_FnExactNewCluster fu a0_0, enc_bo, fun _ => true⟩ | _ => none
theorem hpc_laws_FnExactNewCluster (fu : Nat) : ∀ f xs o, pcf_laws_FnExactNewCluster fu f xs = some o → ∀ y, o.x = some y → Good E Try.prog f xs (o.g y) := by
  intro f xs o h
  unfold pcf_laws_FnExactNewCluster at h
  split at h
  · exact good_laws_eqClusterResult fu xs o h
  · exact good_laws_heldClusterResult fu xs o h
  · cases h
theorem hpx_laws_FnExactNewCluster (fu : Nat) : ∀ f xs ins o, pcx_laws_FnExactNewCluster fu f xs ins = some o → ∀ y, o.x = some y → GoodX E Try.prog f xs ins (o.g y).1 (o.g y).2 := by
  intro f xs ins o h
  unfold pcx_laws_FnExactNewCluster at h
  split at h
  · exact good_spec_NewCluster_H fu xs ins o h
  · exact good_impl_NewCluster_H fu xs ins o h
  · exact good_laws_markClusterResult_L fu xs ins o h
  · cases h
theorem goodv_laws_FnExactNewCluster (fu : Nat) (aPeers_0 : Int) (y : Bool) (hy : F_laws_FnExactNewCluster fu aPeers_0 = some y) : Good E Try.prog 7 [(.int .i64 aPeers_0)] (enc_bo y) :=
  fun_good E_ok (pc_good (pc := pc_laws_FnExactNewCluster fu) (hpc_laws_FnExactNewCluster fu) (hpx_laws_FnExactNewCluster fu)) (fn := Try.f7) (c := body_laws_FnExactNewCluster) (out := out_bo) (y := y) (by kernel_rfl) (by kernel_rfl) (by kernel_rfl) (lpok_laws_FnExactNewCluster fu) (fun d hd => out_bo_enc d _ hd) ((ev_laws_FnExactNewCluster fu aPeers_0).trans hy)
theorem good_laws_FnExactNewCluster (fu : Nat) : ∀ xs o, S_laws_FnExactNewCluster fu xs = some o → ∀ y, o.x = some y → Good E Try.prog 7 xs (o.g y) := by
  intro xs o h y hy
  unfold S_laws_FnExactNewCluster at h
  split at h
  · rename_i a0_0
    cases h
    exact goodv_laws_FnExactNewCluster fu a0_0 y hy
  · cases h
end Go.Proofs.Ytmdjkdgjmbfegaa.Pn
