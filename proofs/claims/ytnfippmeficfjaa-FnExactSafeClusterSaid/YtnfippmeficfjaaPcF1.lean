/- The functions' evaluated forms, each a proved summary. Conditions: none. -/
import Derived.Test.YtnfippmeficfjaaPcF0
namespace Go.Proofs.Ytnfippmeficfjaa.Pc
open Go Go.RowKit Go.Proofs Vm
set_option linter.unusedVariables false
set_option linter.unusedSimpArgs false
set_option maxRecDepth 100000
/-! laws.toCluster -/
def F_laws_toCluster (fu : Nat) (a_0 : S_laws_Cluster) : Option (S_impl_Cluster) :=
  ((F_laws_toNodeS fu a_0.Nodes).bind fun y23 => ((F_laws_toMailS fu a_0.Mails).bind fun y24 => ((F_laws_toWonS fu a_0.Wins).bind fun y25 => ((F_laws_toSealS fu a_0.Seals).bind fun y26 =>
    (some (⟨y23, y24, y25, y26⟩ : S_impl_Cluster))))))
def pc_laws_toCluster (fu : Nat) : Pc RT den := fun f xs => match f with | 28 => S_laws_toNodeS fu xs | 29 => S_laws_toMailS fu xs | 30 => S_laws_toWonS fu xs | 31 => S_laws_toSealS fu xs | _ => none
def msk_laws_toCluster (b : Nat) : List Nat := []
def lp_laws_toCluster (fu : Nat) : Lp RT den (S_impl_Cluster) := fun b s k => none
theorem ev_laws_toCluster (fu : Nat) (a_0 : S_laws_Cluster) : evFun E (pc_laws_toCluster fu) msk_laws_toCluster (lp_laws_toCluster fu) out_impl_Cluster 9 [(.agg [(.rs a_0.Nodes.z .laws_Node a_0.Nodes.n a_0.Nodes.f), (.rs a_0.Mails.z .laws_Mail a_0.Mails.n a_0.Mails.f), (.rs a_0.Wins.z .impl_Won a_0.Wins.n a_0.Wins.f), (.rs a_0.Seals.z .laws_Seal a_0.Seals.n a_0.Seals.f)])] = F_laws_toCluster fu a_0 := by kernel_rfl
noncomputable def body_laws_toCluster : Code := Try.f9.body.getD .skip
theorem lpok_laws_toCluster (fu : Nat) : LpOk E (pc_laws_toCluster fu) msk_laws_toCluster (lp_laws_toCluster fu) (loops 0 body_laws_toCluster) := by
  have h : loops 0 body_laws_toCluster = [] := by kernel_rfl
  rw [h]; intro p hp; cases hp
def S_laws_toCluster (fu : Nat) (xs : List (D RT den)) : Option (Out RT den) := match xs with | [.agg [.rs za0_1 .laws_Node na0_1 fa0_1, .rs za0_2 .laws_Mail na0_2 fa0_2, .rs za0_3 .impl_Won na0_3 fa0_3, .rs za0_4 .laws_Seal na0_4 fa0_4]] => some ⟨S_impl_Cluster, F_laws_toCluster fu (⟨(⟨za0_1, na0_1, fa0_1⟩ : (Sl S_laws_Node)), (⟨za0_2, na0_2, fa0_2⟩ : (Sl S_laws_Mail)), (⟨za0_3, na0_3, fa0_3⟩ : (Sl S_impl_Won)), (⟨za0_4, na0_4, fa0_4⟩ : (Sl S_laws_Seal))⟩ : S_laws_Cluster), enc_impl_Cluster, fun _ => true⟩ | _ => none
theorem hpc_laws_toCluster (fu : Nat) : ∀ f xs o, pc_laws_toCluster fu f xs = some o → ∀ y, o.x = some y → Good E Try.prog f xs (o.g y) := by
  intro f xs o h
  unfold pc_laws_toCluster at h
  split at h
  · exact good_laws_toNodeS fu xs o h
  · exact good_laws_toMailS fu xs o h
  · exact good_laws_toWonS fu xs o h
  · exact good_laws_toSealS fu xs o h
  · cases h
theorem goodv_laws_toCluster (fu : Nat) (a_0 : S_laws_Cluster) (y : S_impl_Cluster) (hy : F_laws_toCluster fu a_0 = some y) : Good E Try.prog 9 [(.agg [(.rs a_0.Nodes.z .laws_Node a_0.Nodes.n a_0.Nodes.f), (.rs a_0.Mails.z .laws_Mail a_0.Mails.n a_0.Mails.f), (.rs a_0.Wins.z .impl_Won a_0.Wins.n a_0.Wins.f), (.rs a_0.Seals.z .laws_Seal a_0.Seals.n a_0.Seals.f)])] (enc_impl_Cluster y) :=
  fun_good E_ok (pc_good (hpc_laws_toCluster fu)) (fn := Try.f9) (c := body_laws_toCluster) (out := out_impl_Cluster) (y := y) (by kernel_rfl) (by kernel_rfl) (by kernel_rfl) (lpok_laws_toCluster fu) (fun d hd => out_impl_Cluster_enc d _ hd) ((ev_laws_toCluster fu a_0).trans hy)
theorem good_laws_toCluster (fu : Nat) : ∀ xs o, S_laws_toCluster fu xs = some o → ∀ y, o.x = some y → Good E Try.prog 9 xs (o.g y) := by
  intro xs o h y hy
  unfold S_laws_toCluster at h
  split at h
  · rename_i za0_1 na0_1 fa0_1 za0_2 na0_2 fa0_2 za0_3 na0_3 fa0_3 za0_4 na0_4 fa0_4
    cases h
    exact goodv_laws_toCluster fu (⟨(⟨za0_1, na0_1, fa0_1⟩ : (Sl S_laws_Node)), (⟨za0_2, na0_2, fa0_2⟩ : (Sl S_laws_Mail)), (⟨za0_3, na0_3, fa0_3⟩ : (Sl S_impl_Won)), (⟨za0_4, na0_4, fa0_4⟩ : (Sl S_laws_Seal))⟩ : S_laws_Cluster) y hy
  · cases h

/-! spec.l1In -/
def F_spec_l1In (fu : Nat) (v_0 : Int) (low_1 : Int) (high_2 : Int) : Option (Bool) :=
  (((bif (decide (v_0 ≥ low_1)) then (some (decide (v_0 ≤ high_2))) else (some false)) : Option Bool).bind fun m76 => (some m76))
def pc_spec_l1In (fu : Nat) : Pc RT den := fun f xs => none
def msk_spec_l1In (b : Nat) : List Nat := match b with | 200001 => [6] | _ => []
def lp_spec_l1In (fu : Nat) : Lp RT den (Bool) := fun b s k => none
theorem ev_spec_l1In (fu : Nat) (v_0 : Int) (low_1 : Int) (high_2 : Int) : evFun E (pc_spec_l1In fu) msk_spec_l1In (lp_spec_l1In fu) out_bo 58 [(.int .i64 v_0), (.int .i64 low_1), (.int .i64 high_2)] = F_spec_l1In fu v_0 low_1 high_2 := by kernel_rfl
noncomputable def body_spec_l1In : Code := Try.f58.body.getD .skip
theorem lpok_spec_l1In (fu : Nat) : LpOk E (pc_spec_l1In fu) msk_spec_l1In (lp_spec_l1In fu) (loops 0 body_spec_l1In) := by
  have h : loops 0 body_spec_l1In = [] := by kernel_rfl
  rw [h]; intro p hp; cases hp
def S_spec_l1In (fu : Nat) (xs : List (D RT den)) : Option (Out RT den) := match xs with | [.int .i64 a0_0, .int .i64 a1_0, .int .i64 a2_0] => some ⟨Bool, F_spec_l1In fu a0_0 a1_0 a2_0, enc_bo, fun _ => true⟩ | _ => none
theorem hpc_spec_l1In (fu : Nat) : ∀ f xs o, pc_spec_l1In fu f xs = some o → ∀ y, o.x = some y → Good E Try.prog f xs (o.g y) := by
  intro f xs o h
  cases h
theorem goodv_spec_l1In (fu : Nat) (v_0 : Int) (low_1 : Int) (high_2 : Int) (y : Bool) (hy : F_spec_l1In fu v_0 low_1 high_2 = some y) : Good E Try.prog 58 [(.int .i64 v_0), (.int .i64 low_1), (.int .i64 high_2)] (enc_bo y) :=
  fun_good E_ok (pc_good (hpc_spec_l1In fu)) (fn := Try.f58) (c := body_spec_l1In) (out := out_bo) (y := y) (by kernel_rfl) (by kernel_rfl) (by kernel_rfl) (lpok_spec_l1In fu) (fun d hd => out_bo_enc d _ hd) ((ev_spec_l1In fu v_0 low_1 high_2).trans hy)
theorem good_spec_l1In (fu : Nat) : ∀ xs o, S_spec_l1In fu xs = some o → ∀ y, o.x = some y → Good E Try.prog 58 xs (o.g y) := by
  intro xs o h y hy
  unfold S_spec_l1In at h
  split at h
  · rename_i a0_0 a1_0 a2_0
    cases h
    exact goodv_spec_l1In fu a0_0 a1_0 a2_0 y hy
  · cases h

/-! spec.l8Id -/
def F_spec_l8Id (fu : Nat) (n_0 : S_impl_Node) (id_1 : Int) : Option (Bool) :=
  ((F_spec_l1In fu id_1 0 (IntKind.wrap .i64 (n_0.Peers - 1))).bind fun y77 => (some y77))
def pc_spec_l8Id (fu : Nat) : Pc RT den := fun f xs => match f with | 58 => S_spec_l1In fu xs | _ => none
def msk_spec_l8Id (b : Nat) : List Nat := []
def lp_spec_l8Id (fu : Nat) : Lp RT den (Bool) := fun b s k => none
theorem ev_spec_l8Id (fu : Nat) (n_0 : S_impl_Node) (id_1 : Int) : evFun E (pc_spec_l8Id fu) msk_spec_l8Id (lp_spec_l8Id fu) out_bo 83 [(.rptr [(.int .i64 n_0.Id), (.int .i64 n_0.Peers), (.int .i64 n_0.Term), (.int .i64 n_0.Voted), (.rs n_0.Log.z .impl_Entry n_0.Log.n n_0.Log.f), (.int .i64 n_0.Role), (.int .i64 n_0.Commit), (.rs n_0.Votes.z .i64 n_0.Votes.n n_0.Votes.f), (.rs n_0.Next.z .i64 n_0.Next.n n_0.Next.f), (.rs n_0.Match.z .i64 n_0.Match.n n_0.Match.f)]), (.int .i64 id_1)] = F_spec_l8Id fu n_0 id_1 := by kernel_rfl
noncomputable def body_spec_l8Id : Code := Try.f83.body.getD .skip
theorem lpok_spec_l8Id (fu : Nat) : LpOk E (pc_spec_l8Id fu) msk_spec_l8Id (lp_spec_l8Id fu) (loops 0 body_spec_l8Id) := by
  have h : loops 0 body_spec_l8Id = [] := by kernel_rfl
  rw [h]; intro p hp; cases hp
def S_spec_l8Id (fu : Nat) (xs : List (D RT den)) : Option (Out RT den) := match xs with | [.rptr (.int .i64 a0_1 :: .int .i64 a0_2 :: .int .i64 a0_3 :: .int .i64 a0_4 :: .rs za0_5 .impl_Entry na0_5 fa0_5 :: .int .i64 a0_6 :: .int .i64 a0_7 :: .rs za0_8 .i64 na0_8 fa0_8 :: .rs za0_9 .i64 na0_9 fa0_9 :: .rs za0_10 .i64 na0_10 fa0_10 :: ra0), .int .i64 a1_0] => some ⟨Bool, F_spec_l8Id fu (⟨a0_1, a0_2, a0_3, a0_4, (⟨za0_5, na0_5, fa0_5⟩ : (Sl S_impl_Entry)), a0_6, a0_7, (⟨za0_8, na0_8, fa0_8⟩ : (Sl Int)), (⟨za0_9, na0_9, fa0_9⟩ : (Sl Int)), (⟨za0_10, na0_10, fa0_10⟩ : (Sl Int))⟩ : S_impl_Node) a1_0, enc_bo, fun _ => true⟩ | _ => none
theorem hpc_spec_l8Id (fu : Nat) : ∀ f xs o, pc_spec_l8Id fu f xs = some o → ∀ y, o.x = some y → Good E Try.prog f xs (o.g y) := by
  intro f xs o h
  unfold pc_spec_l8Id at h
  split at h
  · exact good_spec_l1In fu xs o h
  · cases h
theorem goodv_spec_l8Id (fu : Nat) (n_0 : S_impl_Node) (id_1 : Int) (y : Bool) (hy : F_spec_l8Id fu n_0 id_1 = some y) : Good E Try.prog 83 [(.rptr [(.int .i64 n_0.Id), (.int .i64 n_0.Peers), (.int .i64 n_0.Term), (.int .i64 n_0.Voted), (.rs n_0.Log.z .impl_Entry n_0.Log.n n_0.Log.f), (.int .i64 n_0.Role), (.int .i64 n_0.Commit), (.rs n_0.Votes.z .i64 n_0.Votes.n n_0.Votes.f), (.rs n_0.Next.z .i64 n_0.Next.n n_0.Next.f), (.rs n_0.Match.z .i64 n_0.Match.n n_0.Match.f)]), (.int .i64 id_1)] (enc_bo y) :=
  fun_good E_ok (pc_good (hpc_spec_l8Id fu)) (fn := Try.f83) (c := body_spec_l8Id) (out := out_bo) (y := y) (by kernel_rfl) (by kernel_rfl) (by kernel_rfl) (lpok_spec_l8Id fu) (fun d hd => out_bo_enc d _ hd) ((ev_spec_l8Id fu n_0 id_1).trans hy)
theorem good_spec_l8Id (fu : Nat) : ∀ xs o, S_spec_l8Id fu xs = some o → ∀ y, o.x = some y → Good E Try.prog 83 xs (o.g y) := by
  intro xs o h y hy
  unfold S_spec_l8Id at h
  split at h
  · rename_i a0_1 a0_2 a0_3 a0_4 za0_5 na0_5 fa0_5 a0_6 a0_7 za0_8 na0_8 fa0_8 za0_9 na0_9 fa0_9 za0_10 na0_10 fa0_10 ra0 a1_0
    cases h
    exact (goodv_spec_l8Id fu (⟨a0_1, a0_2, a0_3, a0_4, (⟨za0_5, na0_5, fa0_5⟩ : (Sl S_impl_Entry)), a0_6, a0_7, (⟨za0_8, na0_8, fa0_8⟩ : (Sl Int)), (⟨za0_9, na0_9, fa0_9⟩ : (Sl Int)), (⟨za0_10, na0_10, fa0_10⟩ : (Sl Int))⟩ : S_impl_Node) a1_0 y hy).sub ⟨Sub.of_eq ra0 rfl, .refl _, trivial⟩
  · cases h

/-! spec.l5Needs -/
def F_spec_l5Needs (fu : Nat) (kind_0 : Int) : Option (Bool × Bool × Bool × Bool) :=
  ((F_spec_l1In fu kind_0 5 8).bind fun y121 => (bif (kind_0 != 5) then (bif (kind_0 == 1) then (some ((kind_0 != 6), true, (kind_0 != 4), y121)) else (some ((kind_0 != 6), y121,
    (kind_0 != 4), y121))) else (bif (kind_0 == 1) then (some (false, true, (kind_0 != 4), y121)) else (some (false, y121, (kind_0 != 4), y121)))))
def pc_spec_l5Needs (fu : Nat) : Pc RT den := fun f xs => match f with | 58 => S_spec_l1In fu xs | _ => none
def msk_spec_l5Needs (b : Nat) : List Nat := []
def lp_spec_l5Needs (fu : Nat) : Lp RT den (Bool × Bool × Bool × Bool) := fun b s k => none
theorem ev_spec_l5Needs (fu : Nat) (kind_0 : Int) : evFun E (pc_spec_l5Needs fu) msk_spec_l5Needs (lp_spec_l5Needs fu) out_bo_bo_bo_bo 106 [(.int .i64 kind_0)] = F_spec_l5Needs fu kind_0 := by kernel_rfl
noncomputable def body_spec_l5Needs : Code := Try.f106.body.getD .skip
theorem lpok_spec_l5Needs (fu : Nat) : LpOk E (pc_spec_l5Needs fu) msk_spec_l5Needs (lp_spec_l5Needs fu) (loops 0 body_spec_l5Needs) := by
  have h : loops 0 body_spec_l5Needs = [] := by kernel_rfl
  rw [h]; intro p hp; cases hp
def S_spec_l5Needs (fu : Nat) (xs : List (D RT den)) : Option (Out RT den) := match xs with | [.int .i64 a0_0] => some ⟨Bool × Bool × Bool × Bool, F_spec_l5Needs fu a0_0, enc_bo_bo_bo_bo, fun _ => true⟩ | _ => none
theorem hpc_spec_l5Needs (fu : Nat) : ∀ f xs o, pc_spec_l5Needs fu f xs = some o → ∀ y, o.x = some y → Good E Try.prog f xs (o.g y) := by
  intro f xs o h
  unfold pc_spec_l5Needs at h
  split at h
  · exact good_spec_l1In fu xs o h
  · cases h
theorem goodv_spec_l5Needs (fu : Nat) (kind_0 : Int) (y : Bool × Bool × Bool × Bool) (hy : F_spec_l5Needs fu kind_0 = some y) : Good E Try.prog 106 [(.int .i64 kind_0)] (enc_bo_bo_bo_bo y) :=
  fun_good E_ok (pc_good (hpc_spec_l5Needs fu)) (fn := Try.f106) (c := body_spec_l5Needs) (out := out_bo_bo_bo_bo) (y := y) (by kernel_rfl) (by kernel_rfl) (by kernel_rfl) (lpok_spec_l5Needs fu) (fun d hd => out_bo_bo_bo_bo_enc d _ hd) ((ev_spec_l5Needs fu kind_0).trans hy)
theorem good_spec_l5Needs (fu : Nat) : ∀ xs o, S_spec_l5Needs fu xs = some o → ∀ y, o.x = some y → Good E Try.prog 106 xs (o.g y) := by
  intro xs o h y hy
  unfold S_spec_l5Needs at h
  split at h
  · rename_i a0_0
    cases h
    exact goodv_spec_l5Needs fu a0_0 y hy
  · cases h

/-! spec.l5Version -/
def F_spec_l5Version (fu : Nat) (v_0 : Int) : Option (Bool) :=
  ((F_spec_l1In fu v_0 0 1000000).bind fun y122 => (some y122))
def pc_spec_l5Version (fu : Nat) : Pc RT den := fun f xs => match f with | 58 => S_spec_l1In fu xs | _ => none
def msk_spec_l5Version (b : Nat) : List Nat := []
def lp_spec_l5Version (fu : Nat) : Lp RT den (Bool) := fun b s k => none
theorem ev_spec_l5Version (fu : Nat) (v_0 : Int) : evFun E (pc_spec_l5Version fu) msk_spec_l5Version (lp_spec_l5Version fu) out_bo 107 [(.int .i64 v_0)] = F_spec_l5Version fu v_0 := by kernel_rfl
noncomputable def body_spec_l5Version : Code := Try.f107.body.getD .skip
theorem lpok_spec_l5Version (fu : Nat) : LpOk E (pc_spec_l5Version fu) msk_spec_l5Version (lp_spec_l5Version fu) (loops 0 body_spec_l5Version) := by
  have h : loops 0 body_spec_l5Version = [] := by kernel_rfl
  rw [h]; intro p hp; cases hp
def S_spec_l5Version (fu : Nat) (xs : List (D RT den)) : Option (Out RT den) := match xs with | [.int .i64 a0_0] => some ⟨Bool, F_spec_l5Version fu a0_0, enc_bo, fun _ => true⟩ | _ => none
theorem hpc_spec_l5Version (fu : Nat) : ∀ f xs o, pc_spec_l5Version fu f xs = some o → ∀ y, o.x = some y → Good E Try.prog f xs (o.g y) := by
  intro f xs o h
  unfold pc_spec_l5Version at h
  split at h
  · exact good_spec_l1In fu xs o h
  · cases h
theorem goodv_spec_l5Version (fu : Nat) (v_0 : Int) (y : Bool) (hy : F_spec_l5Version fu v_0 = some y) : Good E Try.prog 107 [(.int .i64 v_0)] (enc_bo y) :=
  fun_good E_ok (pc_good (hpc_spec_l5Version fu)) (fn := Try.f107) (c := body_spec_l5Version) (out := out_bo) (y := y) (by kernel_rfl) (by kernel_rfl) (by kernel_rfl) (lpok_spec_l5Version fu) (fun d hd => out_bo_enc d _ hd) ((ev_spec_l5Version fu v_0).trans hy)
theorem good_spec_l5Version (fu : Nat) : ∀ xs o, S_spec_l5Version fu xs = some o → ∀ y, o.x = some y → Good E Try.prog 107 xs (o.g y) := by
  intro xs o h y hy
  unfold S_spec_l5Version at h
  split at h
  · rename_i a0_0
    cases h
    exact goodv_spec_l5Version fu a0_0 y hy
  · cases h

/-! spec.l3Name -/
def F_spec_l3Name (fu : Nat) (name_0 : Int) : Option (Bool) :=
  ((F_spec_l1In fu name_0 1 999).bind fun y123 => (some y123))
def pc_spec_l3Name (fu : Nat) : Pc RT den := fun f xs => match f with | 58 => S_spec_l1In fu xs | _ => none
def msk_spec_l3Name (b : Nat) : List Nat := []
def lp_spec_l3Name (fu : Nat) : Lp RT den (Bool) := fun b s k => none
theorem ev_spec_l3Name (fu : Nat) (name_0 : Int) : evFun E (pc_spec_l3Name fu) msk_spec_l3Name (lp_spec_l3Name fu) out_bo 108 [(.int .i64 name_0)] = F_spec_l3Name fu name_0 := by kernel_rfl
noncomputable def body_spec_l3Name : Code := Try.f108.body.getD .skip
theorem lpok_spec_l3Name (fu : Nat) : LpOk E (pc_spec_l3Name fu) msk_spec_l3Name (lp_spec_l3Name fu) (loops 0 body_spec_l3Name) := by
  have h : loops 0 body_spec_l3Name = [] := by kernel_rfl
  rw [h]; intro p hp; cases hp
def S_spec_l3Name (fu : Nat) (xs : List (D RT den)) : Option (Out RT den) := match xs with | [.int .i64 a0_0] => some ⟨Bool, F_spec_l3Name fu a0_0, enc_bo, fun _ => true⟩ | _ => none
theorem hpc_spec_l3Name (fu : Nat) : ∀ f xs o, pc_spec_l3Name fu f xs = some o → ∀ y, o.x = some y → Good E Try.prog f xs (o.g y) := by
  intro f xs o h
  unfold pc_spec_l3Name at h
  split at h
  · exact good_spec_l1In fu xs o h
  · cases h
theorem goodv_spec_l3Name (fu : Nat) (name_0 : Int) (y : Bool) (hy : F_spec_l3Name fu name_0 = some y) : Good E Try.prog 108 [(.int .i64 name_0)] (enc_bo y) :=
  fun_good E_ok (pc_good (hpc_spec_l3Name fu)) (fn := Try.f108) (c := body_spec_l3Name) (out := out_bo) (y := y) (by kernel_rfl) (by kernel_rfl) (by kernel_rfl) (lpok_spec_l3Name fu) (fun d hd => out_bo_enc d _ hd) ((ev_spec_l3Name fu name_0).trans hy)
theorem good_spec_l3Name (fu : Nat) : ∀ xs o, S_spec_l3Name fu xs = some o → ∀ y, o.x = some y → Good E Try.prog 108 xs (o.g y) := by
  intro xs o h y hy
  unfold S_spec_l3Name at h
  split at h
  · rename_i a0_0
    cases h
    exact goodv_spec_l3Name fu a0_0 y hy
  · cases h

/-! spec.l2Address -/
def F_spec_l2Address (fu : Nat) (a_0 : Int) : Option (Bool) :=
  ((F_spec_l1In fu a_0 0 4294967295).bind fun y124 => (some y124))
def pc_spec_l2Address (fu : Nat) : Pc RT den := fun f xs => match f with | 58 => S_spec_l1In fu xs | _ => none
def msk_spec_l2Address (b : Nat) : List Nat := []
def lp_spec_l2Address (fu : Nat) : Lp RT den (Bool) := fun b s k => none
theorem ev_spec_l2Address (fu : Nat) (a_0 : Int) : evFun E (pc_spec_l2Address fu) msk_spec_l2Address (lp_spec_l2Address fu) out_bo 109 [(.int .i64 a_0)] = F_spec_l2Address fu a_0 := by kernel_rfl
noncomputable def body_spec_l2Address : Code := Try.f109.body.getD .skip
theorem lpok_spec_l2Address (fu : Nat) : LpOk E (pc_spec_l2Address fu) msk_spec_l2Address (lp_spec_l2Address fu) (loops 0 body_spec_l2Address) := by
  have h : loops 0 body_spec_l2Address = [] := by kernel_rfl
  rw [h]; intro p hp; cases hp
def S_spec_l2Address (fu : Nat) (xs : List (D RT den)) : Option (Out RT den) := match xs with | [.int .i64 a0_0] => some ⟨Bool, F_spec_l2Address fu a0_0, enc_bo, fun _ => true⟩ | _ => none
theorem hpc_spec_l2Address (fu : Nat) : ∀ f xs o, pc_spec_l2Address fu f xs = some o → ∀ y, o.x = some y → Good E Try.prog f xs (o.g y) := by
  intro f xs o h
  unfold pc_spec_l2Address at h
  split at h
  · exact good_spec_l1In fu xs o h
  · cases h
theorem goodv_spec_l2Address (fu : Nat) (a_0 : Int) (y : Bool) (hy : F_spec_l2Address fu a_0 = some y) : Good E Try.prog 109 [(.int .i64 a_0)] (enc_bo y) :=
  fun_good E_ok (pc_good (hpc_spec_l2Address fu)) (fn := Try.f109) (c := body_spec_l2Address) (out := out_bo) (y := y) (by kernel_rfl) (by kernel_rfl) (by kernel_rfl) (lpok_spec_l2Address fu) (fun d hd => out_bo_enc d _ hd) ((ev_spec_l2Address fu a_0).trans hy)
theorem good_spec_l2Address (fu : Nat) : ∀ xs o, S_spec_l2Address fu xs = some o → ∀ y, o.x = some y → Good E Try.prog 109 xs (o.g y) := by
  intro xs o h y hy
  unfold S_spec_l2Address at h
  split at h
  · rename_i a0_0
    cases h
    exact goodv_spec_l2Address fu a0_0 y hy
  · cases h

/-! spec.l2Port -/
def F_spec_l2Port (fu : Nat) (p_0 : Int) : Option (Bool) :=
  ((F_spec_l1In fu p_0 0 65535).bind fun y130 => (some y130))
def pc_spec_l2Port (fu : Nat) : Pc RT den := fun f xs => match f with | 58 => S_spec_l1In fu xs | _ => none
def msk_spec_l2Port (b : Nat) : List Nat := []
def lp_spec_l2Port (fu : Nat) : Lp RT den (Bool) := fun b s k => none
theorem ev_spec_l2Port (fu : Nat) (p_0 : Int) : evFun E (pc_spec_l2Port fu) msk_spec_l2Port (lp_spec_l2Port fu) out_bo 119 [(.int .i64 p_0)] = F_spec_l2Port fu p_0 := by kernel_rfl
noncomputable def body_spec_l2Port : Code := Try.f119.body.getD .skip
theorem lpok_spec_l2Port (fu : Nat) : LpOk E (pc_spec_l2Port fu) msk_spec_l2Port (lp_spec_l2Port fu) (loops 0 body_spec_l2Port) := by
  have h : loops 0 body_spec_l2Port = [] := by kernel_rfl
  rw [h]; intro p hp; cases hp
def S_spec_l2Port (fu : Nat) (xs : List (D RT den)) : Option (Out RT den) := match xs with | [.int .i64 a0_0] => some ⟨Bool, F_spec_l2Port fu a0_0, enc_bo, fun _ => true⟩ | _ => none
theorem hpc_spec_l2Port (fu : Nat) : ∀ f xs o, pc_spec_l2Port fu f xs = some o → ∀ y, o.x = some y → Good E Try.prog f xs (o.g y) := by
  intro f xs o h
  unfold pc_spec_l2Port at h
  split at h
  · exact good_spec_l1In fu xs o h
  · cases h
theorem goodv_spec_l2Port (fu : Nat) (p_0 : Int) (y : Bool) (hy : F_spec_l2Port fu p_0 = some y) : Good E Try.prog 119 [(.int .i64 p_0)] (enc_bo y) :=
  fun_good E_ok (pc_good (hpc_spec_l2Port fu)) (fn := Try.f119) (c := body_spec_l2Port) (out := out_bo) (y := y) (by kernel_rfl) (by kernel_rfl) (by kernel_rfl) (lpok_spec_l2Port fu) (fun d hd => out_bo_enc d _ hd) ((ev_spec_l2Port fu p_0).trans hy)
theorem good_spec_l2Port (fu : Nat) : ∀ xs o, S_spec_l2Port fu xs = some o → ∀ y, o.x = some y → Good E Try.prog 119 xs (o.g y) := by
  intro xs o h y hy
  unfold S_spec_l2Port at h
  split at h
  · rename_i a0_0
    cases h
    exact goodv_spec_l2Port fu a0_0 y hy
  · cases h

/-! spec.l5Number -/
def F_spec_l5Number (fu : Nat) (x_0 : S_impl_Cmd) : Option (Bool) :=
  (bif (x_0.Kind == 1) then ((F_spec_l1In fu x_0.Number 0 9).bind fun y125 => (some y125)) else (bif (x_0.Kind == 2) then ((F_spec_l1In fu x_0.Number 0 9).bind fun y126 => (some y126)) else
    (bif (x_0.Kind == 3) then ((F_spec_l1In fu x_0.Number 1 3).bind fun y127 => (some y127)) else (bif (x_0.Kind == 9) then ((F_spec_l1In fu x_0.Number 0 1).bind fun y128 => (some y128)) else
    ((F_spec_l2Port fu x_0.Number).bind fun y129 => (some y129))))))
def pc_spec_l5Number (fu : Nat) : Pc RT den := fun f xs => match f with | 58 => S_spec_l1In fu xs | 119 => S_spec_l2Port fu xs | _ => none
def msk_spec_l5Number (b : Nat) : List Nat := []
def lp_spec_l5Number (fu : Nat) : Lp RT den (Bool) := fun b s k => none
theorem ev_spec_l5Number (fu : Nat) (x_0 : S_impl_Cmd) : evFun E (pc_spec_l5Number fu) msk_spec_l5Number (lp_spec_l5Number fu) out_bo 110 [(.agg [(.int .i64 x_0.Kind), (.int .i64 x_0.Expect), (.int .i64 x_0.Name), (.int .i64 x_0.Addr), (.int .i64 x_0.Number), (.int .i64 x_0.Proto)])] = F_spec_l5Number fu x_0 := by kernel_rfl
noncomputable def body_spec_l5Number : Code := Try.f110.body.getD .skip
theorem lpok_spec_l5Number (fu : Nat) : LpOk E (pc_spec_l5Number fu) msk_spec_l5Number (lp_spec_l5Number fu) (loops 0 body_spec_l5Number) := by
  have h : loops 0 body_spec_l5Number = [] := by kernel_rfl
  rw [h]; intro p hp; cases hp
def S_spec_l5Number (fu : Nat) (xs : List (D RT den)) : Option (Out RT den) := match xs with | [.agg [.int .i64 a0_1, .int .i64 a0_2, .int .i64 a0_3, .int .i64 a0_4, .int .i64 a0_5, .int .i64 a0_6]] => some ⟨Bool, F_spec_l5Number fu (⟨a0_1, a0_2, a0_3, a0_4, a0_5, a0_6⟩ : S_impl_Cmd), enc_bo, fun _ => true⟩ | _ => none
theorem hpc_spec_l5Number (fu : Nat) : ∀ f xs o, pc_spec_l5Number fu f xs = some o → ∀ y, o.x = some y → Good E Try.prog f xs (o.g y) := by
  intro f xs o h
  unfold pc_spec_l5Number at h
  split at h
  · exact good_spec_l1In fu xs o h
  · exact good_spec_l2Port fu xs o h
  · cases h
theorem goodv_spec_l5Number (fu : Nat) (x_0 : S_impl_Cmd) (y : Bool) (hy : F_spec_l5Number fu x_0 = some y) : Good E Try.prog 110 [(.agg [(.int .i64 x_0.Kind), (.int .i64 x_0.Expect), (.int .i64 x_0.Name), (.int .i64 x_0.Addr), (.int .i64 x_0.Number), (.int .i64 x_0.Proto)])] (enc_bo y) :=
  fun_good E_ok (pc_good (hpc_spec_l5Number fu)) (fn := Try.f110) (c := body_spec_l5Number) (out := out_bo) (y := y) (by kernel_rfl) (by kernel_rfl) (by kernel_rfl) (lpok_spec_l5Number fu) (fun d hd => out_bo_enc d _ hd) ((ev_spec_l5Number fu x_0).trans hy)
theorem good_spec_l5Number (fu : Nat) : ∀ xs o, S_spec_l5Number fu xs = some o → ∀ y, o.x = some y → Good E Try.prog 110 xs (o.g y) := by
  intro xs o h y hy
  unfold S_spec_l5Number at h
  split at h
  · rename_i a0_1 a0_2 a0_3 a0_4 a0_5 a0_6
    cases h
    exact goodv_spec_l5Number fu (⟨a0_1, a0_2, a0_3, a0_4, a0_5, a0_6⟩ : S_impl_Cmd) y hy
  · cases h

/-! spec.l5Proto -/
def F_spec_l5Proto (fu : Nat) (p_0 : Int) : Option (Bool) :=
  (((bif (p_0 == 6) then (some true) else (some (p_0 == 17))) : Option Bool).bind fun m131 => (some m131))
def pc_spec_l5Proto (fu : Nat) : Pc RT den := fun f xs => none
def msk_spec_l5Proto (b : Nat) : List Nat := match b with | 200001 => [2] | _ => []
def lp_spec_l5Proto (fu : Nat) : Lp RT den (Bool) := fun b s k => none
theorem ev_spec_l5Proto (fu : Nat) (p_0 : Int) : evFun E (pc_spec_l5Proto fu) msk_spec_l5Proto (lp_spec_l5Proto fu) out_bo 111 [(.int .i64 p_0)] = F_spec_l5Proto fu p_0 := by kernel_rfl
noncomputable def body_spec_l5Proto : Code := Try.f111.body.getD .skip
theorem lpok_spec_l5Proto (fu : Nat) : LpOk E (pc_spec_l5Proto fu) msk_spec_l5Proto (lp_spec_l5Proto fu) (loops 0 body_spec_l5Proto) := by
  have h : loops 0 body_spec_l5Proto = [] := by kernel_rfl
  rw [h]; intro p hp; cases hp
def S_spec_l5Proto (fu : Nat) (xs : List (D RT den)) : Option (Out RT den) := match xs with | [.int .i64 a0_0] => some ⟨Bool, F_spec_l5Proto fu a0_0, enc_bo, fun _ => true⟩ | _ => none
theorem hpc_spec_l5Proto (fu : Nat) : ∀ f xs o, pc_spec_l5Proto fu f xs = some o → ∀ y, o.x = some y → Good E Try.prog f xs (o.g y) := by
  intro f xs o h
  cases h
theorem goodv_spec_l5Proto (fu : Nat) (p_0 : Int) (y : Bool) (hy : F_spec_l5Proto fu p_0 = some y) : Good E Try.prog 111 [(.int .i64 p_0)] (enc_bo y) :=
  fun_good E_ok (pc_good (hpc_spec_l5Proto fu)) (fn := Try.f111) (c := body_spec_l5Proto) (out := out_bo) (y := y) (by kernel_rfl) (by kernel_rfl) (by kernel_rfl) (lpok_spec_l5Proto fu) (fun d hd => out_bo_enc d _ hd) ((ev_spec_l5Proto fu p_0).trans hy)
theorem good_spec_l5Proto (fu : Nat) : ∀ xs o, S_spec_l5Proto fu xs = some o → ∀ y, o.x = some y → Good E Try.prog 111 xs (o.g y) := by
  intro xs o h y hy
  unfold S_spec_l5Proto at h
  split at h
  · rename_i a0_0
    cases h
    exact goodv_spec_l5Proto fu a0_0 y hy
  · cases h

/-! spec.CmdFault -/
def F_spec_CmdFault (fu : Nat) (x_0 : S_impl_Cmd) : Option (Int) :=
  ((F_spec_l1In fu x_0.Kind 1 9).bind fun y86 => (bif (!y86) then (some 1) else ((F_spec_l5Needs fu x_0.Kind).bind fun y87 => (((bif (x_0.Expect != (-1)) then ((F_spec_l5Version fu x_0.Expect).bind fun y88 =>
    (bif (!y88) then (some true) else (bif y87.1 then ((F_spec_l3Name fu x_0.Name).bind fun y89 => (bif (!y89) then (some true) else (bif y87.2.1 then ((F_spec_l2Address fu x_0.Addr).bind fun y90 =>
    (bif (!y90) then (some true) else (bif y87.2.2.1 then ((F_spec_l5Number fu x_0).bind fun y91 => (bif (!y91) then (some true) else (bif y87.2.2.2 then ((F_spec_l5Proto fu x_0.Proto).bind fun y92 =>
    (some (!y92))) else (some false)))) else (bif y87.2.2.2 then ((F_spec_l5Proto fu x_0.Proto).bind fun y93 => (some (!y93))) else (some false))))) else (bif y87.2.2.1 then
    ((F_spec_l5Number fu x_0).bind fun y94 => (bif (!y94) then (some true) else (bif y87.2.2.2 then ((F_spec_l5Proto fu x_0.Proto).bind fun y95 => (some (!y95))) else (some false)))) else
    (bif y87.2.2.2 then ((F_spec_l5Proto fu x_0.Proto).bind fun y96 => (some (!y96))) else (some false)))))) else (bif y87.2.1 then ((F_spec_l2Address fu x_0.Addr).bind fun y97 =>
    (bif (!y97) then (some true) else (bif y87.2.2.1 then ((F_spec_l5Number fu x_0).bind fun y98 => (bif (!y98) then (some true) else (bif y87.2.2.2 then ((F_spec_l5Proto fu x_0.Proto).bind fun y99 =>
    (some (!y99))) else (some false)))) else (bif y87.2.2.2 then ((F_spec_l5Proto fu x_0.Proto).bind fun y100 => (some (!y100))) else (some false))))) else (bif y87.2.2.1 then
    ((F_spec_l5Number fu x_0).bind fun y101 => (bif (!y101) then (some true) else (bif y87.2.2.2 then ((F_spec_l5Proto fu x_0.Proto).bind fun y102 => (some (!y102))) else (some false)))) else
    (bif y87.2.2.2 then ((F_spec_l5Proto fu x_0.Proto).bind fun y103 => (some (!y103))) else (some false))))))) else (bif y87.1 then ((F_spec_l3Name fu x_0.Name).bind fun y104 =>
    (bif (!y104) then (some true) else (bif y87.2.1 then ((F_spec_l2Address fu x_0.Addr).bind fun y105 => (bif (!y105) then (some true) else (bif y87.2.2.1 then ((F_spec_l5Number fu x_0).bind fun y106 =>
    (bif (!y106) then (some true) else (bif y87.2.2.2 then ((F_spec_l5Proto fu x_0.Proto).bind fun y107 => (some (!y107))) else (some false)))) else (bif y87.2.2.2 then
    ((F_spec_l5Proto fu x_0.Proto).bind fun y108 => (some (!y108))) else (some false))))) else (bif y87.2.2.1 then ((F_spec_l5Number fu x_0).bind fun y109 => (bif (!y109) then (some true) else
    (bif y87.2.2.2 then ((F_spec_l5Proto fu x_0.Proto).bind fun y110 => (some (!y110))) else (some false)))) else (bif y87.2.2.2 then ((F_spec_l5Proto fu x_0.Proto).bind fun y111 =>
    (some (!y111))) else (some false)))))) else (bif y87.2.1 then ((F_spec_l2Address fu x_0.Addr).bind fun y112 => (bif (!y112) then (some true) else (bif y87.2.2.1 then
    ((F_spec_l5Number fu x_0).bind fun y113 => (bif (!y113) then (some true) else (bif y87.2.2.2 then ((F_spec_l5Proto fu x_0.Proto).bind fun y114 => (some (!y114))) else (some false)))) else
    (bif y87.2.2.2 then ((F_spec_l5Proto fu x_0.Proto).bind fun y115 => (some (!y115))) else (some false))))) else (bif y87.2.2.1 then ((F_spec_l5Number fu x_0).bind fun y116 =>
    (bif (!y116) then (some true) else (bif y87.2.2.2 then ((F_spec_l5Proto fu x_0.Proto).bind fun y117 => (some (!y117))) else (some false)))) else (bif y87.2.2.2 then
    ((F_spec_l5Proto fu x_0.Proto).bind fun y118 => (some (!y118))) else (some false)))))) : Option Bool).bind fun m119 => (bif m119 then (some 3) else (((bif (!y87.1) then (bif (x_0.Name != 0) then
    (some true) else (bif (!y87.2.1) then (bif (x_0.Addr != 0) then (some true) else (bif (!y87.2.2.1) then (bif (x_0.Number != 0) then (some true) else (bif (!y87.2.2.2) then (some (x_0.Proto != 0)) else
    (some false))) else (bif (!y87.2.2.2) then (some (x_0.Proto != 0)) else (some false)))) else (bif (!y87.2.2.1) then (bif (x_0.Number != 0) then (some true) else (bif (!y87.2.2.2) then
    (some (x_0.Proto != 0)) else (some false))) else (bif (!y87.2.2.2) then (some (x_0.Proto != 0)) else (some false))))) else (bif (!y87.2.1) then (bif (x_0.Addr != 0) then (some true) else
    (bif (!y87.2.2.1) then (bif (x_0.Number != 0) then (some true) else (bif (!y87.2.2.2) then (some (x_0.Proto != 0)) else (some false))) else (bif (!y87.2.2.2) then (some (x_0.Proto != 0)) else
    (some false)))) else (bif (!y87.2.2.1) then (bif (x_0.Number != 0) then (some true) else (bif (!y87.2.2.2) then (some (x_0.Proto != 0)) else (some false))) else (bif (!y87.2.2.2) then
    (some (x_0.Proto != 0)) else (some false))))) : Option Bool).bind fun m120 => (bif m120 then (some 1) else (some 0))))))))
def pc_spec_CmdFault (fu : Nat) : Pc RT den := fun f xs => match f with | 58 => S_spec_l1In fu xs | 106 => S_spec_l5Needs fu xs | 107 => S_spec_l5Version fu xs | 108 => S_spec_l3Name fu xs | 109 => S_spec_l2Address fu xs | 110 => S_spec_l5Number fu xs | 111 => S_spec_l5Proto fu xs | _ => none
def msk_spec_CmdFault (b : Nat) : List Nat := match b with | 200004 => [62] | 200006 => [96] | _ => []
def lp_spec_CmdFault (fu : Nat) : Lp RT den (Int) := fun b s k => none
theorem ev_spec_CmdFault (fu : Nat) (x_0 : S_impl_Cmd) : evFun E (pc_spec_CmdFault fu) msk_spec_CmdFault (lp_spec_CmdFault fu) out_i64 88 [(.agg [(.int .i64 x_0.Kind), (.int .i64 x_0.Expect), (.int .i64 x_0.Name), (.int .i64 x_0.Addr), (.int .i64 x_0.Number), (.int .i64 x_0.Proto)])] = F_spec_CmdFault fu x_0 := by kernel_rfl
noncomputable def body_spec_CmdFault : Code := Try.f88.body.getD .skip
theorem lpok_spec_CmdFault (fu : Nat) : LpOk E (pc_spec_CmdFault fu) msk_spec_CmdFault (lp_spec_CmdFault fu) (loops 0 body_spec_CmdFault) := by
  have h : loops 0 body_spec_CmdFault = [] := by kernel_rfl
  rw [h]; intro p hp; cases hp
def S_spec_CmdFault (fu : Nat) (xs : List (D RT den)) : Option (Out RT den) := match xs with | [.agg [.int .i64 a0_1, .int .i64 a0_2, .int .i64 a0_3, .int .i64 a0_4, .int .i64 a0_5, .int .i64 a0_6]] => some ⟨Int, F_spec_CmdFault fu (⟨a0_1, a0_2, a0_3, a0_4, a0_5, a0_6⟩ : S_impl_Cmd), enc_i64, fun _ => true⟩ | _ => none
theorem hpc_spec_CmdFault (fu : Nat) : ∀ f xs o, pc_spec_CmdFault fu f xs = some o → ∀ y, o.x = some y → Good E Try.prog f xs (o.g y) := by
  intro f xs o h
  unfold pc_spec_CmdFault at h
  split at h
  · exact good_spec_l1In fu xs o h
  · exact good_spec_l5Needs fu xs o h
  · exact good_spec_l5Version fu xs o h
  · exact good_spec_l3Name fu xs o h
  · exact good_spec_l2Address fu xs o h
  · exact good_spec_l5Number fu xs o h
  · exact good_spec_l5Proto fu xs o h
  · cases h
theorem goodv_spec_CmdFault (fu : Nat) (x_0 : S_impl_Cmd) (y : Int) (hy : F_spec_CmdFault fu x_0 = some y) : Good E Try.prog 88 [(.agg [(.int .i64 x_0.Kind), (.int .i64 x_0.Expect), (.int .i64 x_0.Name), (.int .i64 x_0.Addr), (.int .i64 x_0.Number), (.int .i64 x_0.Proto)])] (enc_i64 y) :=
  fun_good E_ok (pc_good (hpc_spec_CmdFault fu)) (fn := Try.f88) (c := body_spec_CmdFault) (out := out_i64) (y := y) (by kernel_rfl) (by kernel_rfl) (by kernel_rfl) (lpok_spec_CmdFault fu) (fun d hd => out_i64_enc d _ hd) ((ev_spec_CmdFault fu x_0).trans hy)
theorem good_spec_CmdFault (fu : Nat) : ∀ xs o, S_spec_CmdFault fu xs = some o → ∀ y, o.x = some y → Good E Try.prog 88 xs (o.g y) := by
  intro xs o h y hy
  unfold S_spec_CmdFault at h
  split at h
  · rename_i a0_1 a0_2 a0_3 a0_4 a0_5 a0_6
    cases h
    exact goodv_spec_CmdFault fu (⟨a0_1, a0_2, a0_3, a0_4, a0_5, a0_6⟩ : S_impl_Cmd) y hy
  · cases h

/-! spec.EntryFault -/
def F_spec_EntryFault (fu : Nat) (x_0 : S_impl_Entry) : Option (Int) :=
  ((((F_spec_l1In fu x_0.Term 1 100000).bind fun y81 => (bif (!y81) then (some true) else ((F_spec_l1In fu x_0.Client 0 999).bind fun y82 => (bif (!y82) then (some true) else
    ((F_spec_l1In fu x_0.Seq 0 1000000).bind fun y83 => (some (!y83))))))) : Option Bool).bind fun m84 => (bif m84 then (some 3) else (bif (!((x_0.Client == 0) == (x_0.Seq == 0))) then
    (some 1) else (bif (x_0.Client != 0) then ((F_spec_CmdFault fu x_0.Cmd).bind fun y85 => (some y85)) else (bif (!((x_0.Cmd.Kind == 0) && ((x_0.Cmd.Expect == 0) && ((x_0.Cmd.Name == 0) &&
    ((x_0.Cmd.Addr == 0) && ((x_0.Cmd.Number == 0) && ((x_0.Cmd.Proto == 0) && true))))))) then (some 1) else (some 0))))))
def pc_spec_EntryFault (fu : Nat) : Pc RT den := fun f xs => match f with | 58 => S_spec_l1In fu xs | 88 => S_spec_CmdFault fu xs | _ => none
def msk_spec_EntryFault (b : Nat) : List Nat := match b with | 200001 => [19] | _ => []
def lp_spec_EntryFault (fu : Nat) : Lp RT den (Int) := fun b s k => none
theorem ev_spec_EntryFault (fu : Nat) (x_0 : S_impl_Entry) : evFun E (pc_spec_EntryFault fu) msk_spec_EntryFault (lp_spec_EntryFault fu) out_i64 59 [(.agg [(.int .i64 x_0.Term), (.int .i64 x_0.Client), (.int .i64 x_0.Seq), (.int .i64 x_0.Cmd.Kind), (.int .i64 x_0.Cmd.Expect), (.int .i64 x_0.Cmd.Name), (.int .i64 x_0.Cmd.Addr), (.int .i64 x_0.Cmd.Number), (.int .i64 x_0.Cmd.Proto)])] = F_spec_EntryFault fu x_0 := by kernel_rfl
noncomputable def body_spec_EntryFault : Code := Try.f59.body.getD .skip
theorem lpok_spec_EntryFault (fu : Nat) : LpOk E (pc_spec_EntryFault fu) msk_spec_EntryFault (lp_spec_EntryFault fu) (loops 0 body_spec_EntryFault) := by
  have h : loops 0 body_spec_EntryFault = [] := by kernel_rfl
  rw [h]; intro p hp; cases hp
def S_spec_EntryFault (fu : Nat) (xs : List (D RT den)) : Option (Out RT den) := match xs with | [.agg [.int .i64 a0_1, .int .i64 a0_2, .int .i64 a0_3, .int .i64 a0_5, .int .i64 a0_6, .int .i64 a0_7, .int .i64 a0_8, .int .i64 a0_9, .int .i64 a0_10]] => some ⟨Int, F_spec_EntryFault fu (⟨a0_1, a0_2, a0_3, (⟨a0_5, a0_6, a0_7, a0_8, a0_9, a0_10⟩ : S_impl_Cmd)⟩ : S_impl_Entry), enc_i64, fun _ => true⟩ | _ => none
theorem hpc_spec_EntryFault (fu : Nat) : ∀ f xs o, pc_spec_EntryFault fu f xs = some o → ∀ y, o.x = some y → Good E Try.prog f xs (o.g y) := by
  intro f xs o h
  unfold pc_spec_EntryFault at h
  split at h
  · exact good_spec_l1In fu xs o h
  · exact good_spec_CmdFault fu xs o h
  · cases h
theorem goodv_spec_EntryFault (fu : Nat) (x_0 : S_impl_Entry) (y : Int) (hy : F_spec_EntryFault fu x_0 = some y) : Good E Try.prog 59 [(.agg [(.int .i64 x_0.Term), (.int .i64 x_0.Client), (.int .i64 x_0.Seq), (.int .i64 x_0.Cmd.Kind), (.int .i64 x_0.Cmd.Expect), (.int .i64 x_0.Cmd.Name), (.int .i64 x_0.Cmd.Addr), (.int .i64 x_0.Cmd.Number), (.int .i64 x_0.Cmd.Proto)])] (enc_i64 y) :=
  fun_good E_ok (pc_good (hpc_spec_EntryFault fu)) (fn := Try.f59) (c := body_spec_EntryFault) (out := out_i64) (y := y) (by kernel_rfl) (by kernel_rfl) (by kernel_rfl) (lpok_spec_EntryFault fu) (fun d hd => out_i64_enc d _ hd) ((ev_spec_EntryFault fu x_0).trans hy)
theorem good_spec_EntryFault (fu : Nat) : ∀ xs o, S_spec_EntryFault fu xs = some o → ∀ y, o.x = some y → Good E Try.prog 59 xs (o.g y) := by
  intro xs o h y hy
  unfold S_spec_EntryFault at h
  split at h
  · rename_i a0_1 a0_2 a0_3 a0_5 a0_6 a0_7 a0_8 a0_9 a0_10
    cases h
    exact goodv_spec_EntryFault fu (⟨a0_1, a0_2, a0_3, (⟨a0_5, a0_6, a0_7, a0_8, a0_9, a0_10⟩ : S_impl_Cmd)⟩ : S_impl_Entry) y hy
  · cases h

/-! spec.LogFault -/
def F_spec_LogFault_B0 {ρ : Type} (fu : Nat) (log0_0 : (Sl S_impl_Entry)) (k0 : Int → Option ρ) (k1 : Option ρ) (k2 : Option ρ) (i3_1 : Int) (go : Int → Option ρ) : Option ρ :=
  (bif (decide (i3_1 < ((log0_0.n : Nat) : Int))) then ((bif (decide (0 ≤ i3_1) && decide ((Int.toNat i3_1) < log0_0.n)) then some () else none : Option Unit).bind fun _ =>
    ((F_spec_EntryFault fu (log0_0.f (Int.toNat i3_1))).bind fun y78 => (bif (y78 != 0) then (k0 y78) else (((bif (decide (i3_1 > 0)) then ((bif (decide (0 ≤ i3_1) && decide ((Int.toNat i3_1) < log0_0.n)) then
    some () else none : Option Unit).bind fun _ => ((bif (decide (0 ≤ (IntKind.wrap .i64 (i3_1 - 1))) && decide ((Int.toNat (IntKind.wrap .i64 (i3_1 - 1))) < log0_0.n)) then some () else
    none : Option Unit).bind fun _ => (some (decide ((log0_0.f (Int.toNat i3_1)).Term < (log0_0.f (Int.toNat (IntKind.wrap .i64 (i3_1 - 1)))).Term))))) else (some false)) : Option Bool).bind fun m79 =>
    (bif m79 then k1 else (go (IntKind.wrap .i64 (i3_1 + 1)))))))) else k2)
def F_spec_LogFault (fu : Nat) (log_0 : (Sl S_impl_Entry)) : Option (Int) :=
  (bif (decide (((log_0.n : Nat) : Int) > 40)) then (some 2) else (L (fun w0 go0 => F_spec_LogFault_B0 fu log_0 (fun z80 => (some z80)) (some 1) (some 0) w0 go0) fu (0 : Int)))
def pc_spec_LogFault (fu : Nat) : Pc RT den := fun f xs => match f with | 59 => S_spec_EntryFault fu xs | _ => none
def msk_spec_LogFault (b : Nat) : List Nat := match b with | 0 => [1, 2, 4, 5, 6, 7, 8, 9, 10, 11, 12, 13, 14, 15, 16, 17, 18, 19, 20, 21, 22, 23, 24, 25, 26, 27, 28, 29, 30, 31, 32, 33, 34, 35, 36, 37] | 100000 => [0, 1, 3, 4, 5, 6, 7, 8, 9, 10, 11, 12, 13, 14, 15, 16, 17, 18, 19, 20, 21, 22, 23, 24, 25, 26, 27, 28, 29, 30, 31, 32, 33, 34, 35, 36, 37] | 200009 => [37] | _ => []
def ps_spec_LogFault_0 : List (Pat RT) := [.flat (.rs .impl_Entry), .flat .dead, .flat .dead, .flat (.int .i64), .flat .dead, .flat .dead, .flat .dead, .flat .dead, .flat .dead, .flat .dead, .flat .dead, .flat .dead, .flat .dead, .flat .dead, .flat .dead, .flat .dead, .flat .dead, .flat .dead, .flat .dead, .flat .dead, .flat .dead, .flat .dead, .flat .dead, .flat .dead, .flat .dead, .flat .dead, .flat .dead, .flat .dead, .flat .dead, .flat .dead, .flat .dead, .flat .dead, .flat .dead, .flat .dead, .flat .dead, .flat .dead, .flat .dead, .flat .dead]
def os_spec_LogFault_0 : List (OP RT) := []
def conv_spec_LogFault_0 (r : Raw den ps_spec_LogFault_0 os_spec_LogFault_0) : ((Sl S_impl_Entry)) × (Int) := (r.1.1, r.1.2.2.2.1)
def back_spec_LogFault_0 (c : (Sl S_impl_Entry)) (w : Int) : St RT den := ⟨[(.rs c.z .impl_Entry c.n c.f), .dead, .dead, (.int .i64 w), .dead, .dead, .dead, .dead, .dead, .dead, .dead, .dead, .dead, .dead, .dead, .dead, .dead, .dead, .dead, .dead, .dead, .dead, .dead, .dead, .dead, .dead, .dead, .dead, .dead, .dead, .dead, .dead, .dead, .dead, .dead, .dead, .dead, .dead], []⟩
def Bk_spec_LogFault_0 {ρ : Type} (fu : Nat) (c : (Sl S_impl_Entry)) (k : Ex → St RT den → Option ρ) (w : Int) (go : (Int) → Option ρ) : Option ρ := F_spec_LogFault_B0 fu c (fun a0 => k .ret ⟨[.dead, .dead, (.int .i64 a0), .dead, .dead, .dead, .dead, .dead, .dead, .dead, .dead, .dead, .dead, .dead, .dead, .dead, .dead, .dead, .dead, .dead, .dead, .dead, .dead, .dead, .dead, .dead, .dead, .dead, .dead, .dead, .dead, .dead, .dead, .dead, .dead, .dead, .dead, .dead], []⟩) (k .ret ⟨[.dead, .dead, (.int .i64 1), .dead, .dead, .dead, .dead, .dead, .dead, .dead, .dead, .dead, .dead, .dead, .dead, .dead, .dead, .dead, .dead, .dead, .dead, .dead, .dead, .dead, .dead, .dead, .dead, .dead, .dead, .dead, .dead, .dead, .dead, .dead, .dead, .dead, .dead, .dead], []⟩) (k (.exit 0) ⟨[.dead, .dead, .dead, .dead, .dead, .dead, .dead, .dead, .dead, .dead, .dead, .dead, .dead, .dead, .dead, .dead, .dead, .dead, .dead, .dead, .dead, .dead, .dead, .dead, .dead, .dead, .dead, .dead, .dead, .dead, .dead, .dead, .dead, .dead, .dead, .dead, .dead, .dead], []⟩) w go
def lp_spec_LogFault (fu : Nat) : Lp RT den (Int) := fun b s k => match b with | 0 => handle ps_spec_LogFault_0 os_spec_LogFault_0 conv_spec_LogFault_0 (Bk_spec_LogFault_0 fu) fu s k | _ => none
theorem ev_spec_LogFault (fu : Nat) (log_0 : (Sl S_impl_Entry)) : evFun E (pc_spec_LogFault fu) msk_spec_LogFault (lp_spec_LogFault fu) out_i64 84 [(.rs log_0.z .impl_Entry log_0.n log_0.f)] = F_spec_LogFault fu log_0 := by kernel_rfl
noncomputable def body_spec_LogFault : Code := Try.f84.body.getD .skip
noncomputable def lc_spec_LogFault_0 : Code := ((loops 0 body_spec_LogFault).getD 0 (0, .skip)).2
theorem round_spec_LogFault_0 (fu : Nat) (it : St RT den → Option (Int)) (k : Ex → St RT den → Option (Int)) c w : evCode E (pc_spec_LogFault fu) msk_spec_LogFault (lp_spec_LogFault fu) 0 lc_spec_LogFault_0 (back_spec_LogFault_0 c w) (after (msk_spec_LogFault 0) (msk_spec_LogFault 100000) 0 it k) = Bk_spec_LogFault_0 fu c k w (fun w => it (back_spec_LogFault_0 c w)) := by kernel_rfl
theorem lpok_spec_LogFault_0 (fu : Nat) : ∀ s k r, lp_spec_LogFault fu 0 s k = some r → ∃ fuel, iter (msk_spec_LogFault 0) (msk_spec_LogFault 100000) s.objs.length (evCode E (pc_spec_LogFault fu) msk_spec_LogFault (lp_spec_LogFault fu) 0 lc_spec_LogFault_0) fuel s k = some r :=
  handle_ok (ps := ps_spec_LogFault_0) (os := os_spec_LogFault_0) (conv := conv_spec_LogFault_0) (B := Bk_spec_LogFault_0 fu) (fu := fu) back_spec_LogFault_0 (fun raw => by kernel_rfl) 0 (fun c w => by kernel_rfl) (round_spec_LogFault_0 fu)
theorem lpok_spec_LogFault (fu : Nat) : LpOk E (pc_spec_LogFault fu) msk_spec_LogFault (lp_spec_LogFault fu) (loops 0 body_spec_LogFault) := loop_all 1 (by kernel_rfl) fun i hi => match i, hi with
  | 0, _ => by
    have h : (loops 0 body_spec_LogFault).getD 0 (0, .skip) = (0, lc_spec_LogFault_0) := by kernel_rfl
    rw [h]; exact lpok_spec_LogFault_0 fu
  | i + 1, hi => absurd hi (by omega)
def S_spec_LogFault (fu : Nat) (xs : List (D RT den)) : Option (Out RT den) := match xs with | [.rs za0_0 .impl_Entry na0_0 fa0_0] => some ⟨Int, F_spec_LogFault fu (⟨za0_0, na0_0, fa0_0⟩ : (Sl S_impl_Entry)), enc_i64, fun _ => true⟩ | _ => none
theorem hpc_spec_LogFault (fu : Nat) : ∀ f xs o, pc_spec_LogFault fu f xs = some o → ∀ y, o.x = some y → Good E Try.prog f xs (o.g y) := by
  intro f xs o h
  unfold pc_spec_LogFault at h
  split at h
  · exact good_spec_EntryFault fu xs o h
  · cases h
theorem goodv_spec_LogFault (fu : Nat) (log_0 : (Sl S_impl_Entry)) (y : Int) (hy : F_spec_LogFault fu log_0 = some y) : Good E Try.prog 84 [(.rs log_0.z .impl_Entry log_0.n log_0.f)] (enc_i64 y) :=
  fun_good E_ok (pc_good (hpc_spec_LogFault fu)) (fn := Try.f84) (c := body_spec_LogFault) (out := out_i64) (y := y) (by kernel_rfl) (by kernel_rfl) (by kernel_rfl) (lpok_spec_LogFault fu) (fun d hd => out_i64_enc d _ hd) ((ev_spec_LogFault fu log_0).trans hy)
theorem good_spec_LogFault (fu : Nat) : ∀ xs o, S_spec_LogFault fu xs = some o → ∀ y, o.x = some y → Good E Try.prog 84 xs (o.g y) := by
  intro xs o h y hy
  unfold S_spec_LogFault at h
  split at h
  · rename_i za0_0 na0_0 fa0_0
    cases h
    exact goodv_spec_LogFault fu (⟨za0_0, na0_0, fa0_0⟩ : (Sl S_impl_Entry)) y hy
  · cases h

/-! spec.LastOf -/
def F_spec_LastOf (fu : Nat) (log_0 : (Sl S_impl_Entry)) : Option (S_impl_Entry) :=
  (bif (((log_0.n : Nat) : Int) == 0) then (some (⟨0, 0, 0, (⟨0, 0, 0, 0, 0, 0⟩ : S_impl_Cmd)⟩ : S_impl_Entry)) else ((bif (decide (0 ≤ (IntKind.wrap .i64 (((log_0.n : Nat) : Int) - 1))) &&
    decide ((Int.toNat (IntKind.wrap .i64 (((log_0.n : Nat) : Int) - 1))) < log_0.n)) then some () else none : Option Unit).bind fun _ => (some (log_0.f (Int.toNat (IntKind.wrap .i64 (((log_0.n : Nat) : Int) - 1)))))))
def pc_spec_LastOf (fu : Nat) : Pc RT den := fun f xs => none
def msk_spec_LastOf (b : Nat) : List Nat := []
def lp_spec_LastOf (fu : Nat) : Lp RT den (S_impl_Entry) := fun b s k => none
theorem ev_spec_LastOf (fu : Nat) (log_0 : (Sl S_impl_Entry)) : evFun E (pc_spec_LastOf fu) msk_spec_LastOf (lp_spec_LastOf fu) out_impl_Entry 85 [(.rs log_0.z .impl_Entry log_0.n log_0.f)] = F_spec_LastOf fu log_0 := by kernel_rfl
noncomputable def body_spec_LastOf : Code := Try.f85.body.getD .skip
theorem lpok_spec_LastOf (fu : Nat) : LpOk E (pc_spec_LastOf fu) msk_spec_LastOf (lp_spec_LastOf fu) (loops 0 body_spec_LastOf) := by
  have h : loops 0 body_spec_LastOf = [] := by kernel_rfl
  rw [h]; intro p hp; cases hp
def S_spec_LastOf (fu : Nat) (xs : List (D RT den)) : Option (Out RT den) := match xs with | [.rs za0_0 .impl_Entry na0_0 fa0_0] => some ⟨S_impl_Entry, F_spec_LastOf fu (⟨za0_0, na0_0, fa0_0⟩ : (Sl S_impl_Entry)), enc_impl_Entry, fun _ => true⟩ | _ => none
theorem hpc_spec_LastOf (fu : Nat) : ∀ f xs o, pc_spec_LastOf fu f xs = some o → ∀ y, o.x = some y → Good E Try.prog f xs (o.g y) := by
  intro f xs o h
  cases h
theorem goodv_spec_LastOf (fu : Nat) (log_0 : (Sl S_impl_Entry)) (y : S_impl_Entry) (hy : F_spec_LastOf fu log_0 = some y) : Good E Try.prog 85 [(.rs log_0.z .impl_Entry log_0.n log_0.f)] (enc_impl_Entry y) :=
  fun_good E_ok (pc_good (hpc_spec_LastOf fu)) (fn := Try.f85) (c := body_spec_LastOf) (out := out_impl_Entry) (y := y) (by kernel_rfl) (by kernel_rfl) (by kernel_rfl) (lpok_spec_LastOf fu) (fun d hd => out_impl_Entry_enc d _ hd) ((ev_spec_LastOf fu log_0).trans hy)
theorem good_spec_LastOf (fu : Nat) : ∀ xs o, S_spec_LastOf fu xs = some o → ∀ y, o.x = some y → Good E Try.prog 85 xs (o.g y) := by
  intro xs o h y hy
  unfold S_spec_LastOf at h
  split at h
  · rename_i za0_0 na0_0 fa0_0
    cases h
    exact goodv_spec_LastOf fu (⟨za0_0, na0_0, fa0_0⟩ : (Sl S_impl_Entry)) y hy
  · cases h

/-! spec.l8Rises -/
def F_spec_l8Rises_B0 {ρ : Type} (fu : Nat) (list0_0 : (Sl Int)) (k0 : Option ρ) (k1 : Option ρ) (i3_1 : Int) (go : Int → Option ρ) : Option ρ :=
  (bif (decide (i3_1 < ((list0_0.n : Nat) : Int))) then ((bif (decide (0 ≤ i3_1) && decide ((Int.toNat i3_1) < list0_0.n)) then some () else none : Option Unit).bind fun _ => ((bif (decide (0 ≤ (IntKind.wrap .i64 (i3_1 - 1))) &&
    decide ((Int.toNat (IntKind.wrap .i64 (i3_1 - 1))) < list0_0.n)) then some () else none : Option Unit).bind fun _ => (bif (decide ((list0_0.f (Int.toNat i3_1)) ≤ (list0_0.f (Int.toNat (IntKind.wrap .i64 (i3_1 - 1)))))) then
    k0 else (go (IntKind.wrap .i64 (i3_1 + 1)))))) else k1)
def F_spec_l8Rises (fu : Nat) (list_0 : (Sl Int)) : Option (Bool) :=
  (L (fun w0 go0 => F_spec_l8Rises_B0 fu list_0 (some false) (some true) w0 go0) fu (1 : Int))
def pc_spec_l8Rises (fu : Nat) : Pc RT den := fun f xs => none
def msk_spec_l8Rises (b : Nat) : List Nat := match b with | 0 => [1, 2, 4, 5, 6, 7, 8, 9, 10, 11, 12, 13, 14, 15, 16, 17, 18, 19] | 100000 => [0, 1, 3, 4, 5, 6, 7, 8, 9, 10, 11, 12, 13, 14, 15, 16, 17, 18, 19] | _ => []
def ps_spec_l8Rises_0 : List (Pat RT) := [.flat (.rs .i64), .flat .dead, .flat .dead, .flat (.int .i64), .flat .dead, .flat .dead, .flat .dead, .flat .dead, .flat .dead, .flat .dead, .flat .dead, .flat .dead, .flat .dead, .flat .dead, .flat .dead, .flat .dead, .flat .dead, .flat .dead, .flat .dead, .flat .dead]
def os_spec_l8Rises_0 : List (OP RT) := []
def conv_spec_l8Rises_0 (r : Raw den ps_spec_l8Rises_0 os_spec_l8Rises_0) : ((Sl Int)) × (Int) := (r.1.1, r.1.2.2.2.1)
def back_spec_l8Rises_0 (c : (Sl Int)) (w : Int) : St RT den := ⟨[(.rs c.z .i64 c.n c.f), .dead, .dead, (.int .i64 w), .dead, .dead, .dead, .dead, .dead, .dead, .dead, .dead, .dead, .dead, .dead, .dead, .dead, .dead, .dead, .dead], []⟩
def Bk_spec_l8Rises_0 {ρ : Type} (fu : Nat) (c : (Sl Int)) (k : Ex → St RT den → Option ρ) (w : Int) (go : (Int) → Option ρ) : Option ρ := F_spec_l8Rises_B0 fu c (k .ret ⟨[.dead, .dead, (.bool false), .dead, .dead, .dead, .dead, .dead, .dead, .dead, .dead, .dead, .dead, .dead, .dead, .dead, .dead, .dead, .dead, .dead], []⟩) (k (.exit 0) ⟨[.dead, .dead, .dead, .dead, .dead, .dead, .dead, .dead, .dead, .dead, .dead, .dead, .dead, .dead, .dead, .dead, .dead, .dead, .dead, .dead], []⟩) w go
def lp_spec_l8Rises (fu : Nat) : Lp RT den (Bool) := fun b s k => match b with | 0 => handle ps_spec_l8Rises_0 os_spec_l8Rises_0 conv_spec_l8Rises_0 (Bk_spec_l8Rises_0 fu) fu s k | _ => none
theorem ev_spec_l8Rises (fu : Nat) (list_0 : (Sl Int)) : evFun E (pc_spec_l8Rises fu) msk_spec_l8Rises (lp_spec_l8Rises fu) out_bo 105 [(.rs list_0.z .i64 list_0.n list_0.f)] = F_spec_l8Rises fu list_0 := by kernel_rfl
noncomputable def body_spec_l8Rises : Code := Try.f105.body.getD .skip
noncomputable def lc_spec_l8Rises_0 : Code := ((loops 0 body_spec_l8Rises).getD 0 (0, .skip)).2
theorem round_spec_l8Rises_0 (fu : Nat) (it : St RT den → Option (Bool)) (k : Ex → St RT den → Option (Bool)) c w : evCode E (pc_spec_l8Rises fu) msk_spec_l8Rises (lp_spec_l8Rises fu) 0 lc_spec_l8Rises_0 (back_spec_l8Rises_0 c w) (after (msk_spec_l8Rises 0) (msk_spec_l8Rises 100000) 0 it k) = Bk_spec_l8Rises_0 fu c k w (fun w => it (back_spec_l8Rises_0 c w)) := by kernel_rfl
theorem lpok_spec_l8Rises_0 (fu : Nat) : ∀ s k r, lp_spec_l8Rises fu 0 s k = some r → ∃ fuel, iter (msk_spec_l8Rises 0) (msk_spec_l8Rises 100000) s.objs.length (evCode E (pc_spec_l8Rises fu) msk_spec_l8Rises (lp_spec_l8Rises fu) 0 lc_spec_l8Rises_0) fuel s k = some r :=
  handle_ok (ps := ps_spec_l8Rises_0) (os := os_spec_l8Rises_0) (conv := conv_spec_l8Rises_0) (B := Bk_spec_l8Rises_0 fu) (fu := fu) back_spec_l8Rises_0 (fun raw => by kernel_rfl) 0 (fun c w => by kernel_rfl) (round_spec_l8Rises_0 fu)
theorem lpok_spec_l8Rises (fu : Nat) : LpOk E (pc_spec_l8Rises fu) msk_spec_l8Rises (lp_spec_l8Rises fu) (loops 0 body_spec_l8Rises) := loop_all 1 (by kernel_rfl) fun i hi => match i, hi with
  | 0, _ => by
    have h : (loops 0 body_spec_l8Rises).getD 0 (0, .skip) = (0, lc_spec_l8Rises_0) := by kernel_rfl
    rw [h]; exact lpok_spec_l8Rises_0 fu
  | i + 1, hi => absurd hi (by omega)
def S_spec_l8Rises (fu : Nat) (xs : List (D RT den)) : Option (Out RT den) := match xs with | [.rs za0_0 .i64 na0_0 fa0_0] => some ⟨Bool, F_spec_l8Rises fu (⟨za0_0, na0_0, fa0_0⟩ : (Sl Int)), enc_bo, fun _ => true⟩ | _ => none
theorem hpc_spec_l8Rises (fu : Nat) : ∀ f xs o, pc_spec_l8Rises fu f xs = some o → ∀ y, o.x = some y → Good E Try.prog f xs (o.g y) := by
  intro f xs o h
  cases h
theorem goodv_spec_l8Rises (fu : Nat) (list_0 : (Sl Int)) (y : Bool) (hy : F_spec_l8Rises fu list_0 = some y) : Good E Try.prog 105 [(.rs list_0.z .i64 list_0.n list_0.f)] (enc_bo y) :=
  fun_good E_ok (pc_good (hpc_spec_l8Rises fu)) (fn := Try.f105) (c := body_spec_l8Rises) (out := out_bo) (y := y) (by kernel_rfl) (by kernel_rfl) (by kernel_rfl) (lpok_spec_l8Rises fu) (fun d hd => out_bo_enc d _ hd) ((ev_spec_l8Rises fu list_0).trans hy)
theorem good_spec_l8Rises (fu : Nat) : ∀ xs o, S_spec_l8Rises fu xs = some o → ∀ y, o.x = some y → Good E Try.prog 105 xs (o.g y) := by
  intro xs o h y hy
  unfold S_spec_l8Rises at h
  split at h
  · rename_i za0_0 na0_0 fa0_0
    cases h
    exact goodv_spec_l8Rises fu (⟨za0_0, na0_0, fa0_0⟩ : (Sl Int)) y hy
  · cases h

/-! spec.l8Lists -/
def F_spec_l8Lists_B0 {ρ : Type} (fu : Nat) (n0_0 : Int) (n0_1 : Int) (n0_2 : Int) (n0_3 : Int) (n0_4 : (Sl S_impl_Entry)) (n0_5 : Int) (n0_6 : Int) (n0_7 : (Sl Int)) (n0_8 : (Sl Int)) (n0_9 : (Sl Int)) (k0 : Option ρ) (k1 : Option ρ) (i3_10 : Int) (go : Int → Option ρ) : Option ρ :=
  (bif (decide (i3_10 < ((n0_7.n : Nat) : Int))) then ((bif (decide (0 ≤ i3_10) && decide ((Int.toNat i3_10) < n0_7.n)) then some () else none : Option Unit).bind fun _ =>
    ((F_spec_l8Id fu (⟨n0_0, n0_1, n0_2, n0_3, n0_4, n0_5, n0_6, n0_7, n0_8, n0_9⟩ : S_impl_Node) (n0_7.f (Int.toNat i3_10))).bind fun y134 => (bif (!y134) then k0 else (go (IntKind.wrap .i64 (i3_10 + 1)))))) else
    k1)
def F_spec_l8Lists (fu : Nat) (n_0 : S_impl_Node) : Option (Bool) :=
  ((((F_spec_l8Rises fu n_0.Votes).bind fun y132 => (bif (!y132) then (some true) else (bif (decide (((n_0.Votes.n : Nat) : Int) > 0)) then (some (n_0.Role != 1)) else (some false)))) : Option Bool).bind fun m133 =>
    (bif m133 then (some false) else (L (fun w0 go0 => F_spec_l8Lists_B0 fu n_0.Id n_0.Peers n_0.Term n_0.Voted n_0.Log n_0.Role n_0.Commit n_0.Votes n_0.Next n_0.Match (some false) (bif (n_0.Role == 2) then
    (((bif (((n_0.Next.n : Nat) : Int) == n_0.Peers) then (some (((n_0.Match.n : Nat) : Int) == n_0.Peers)) else (some false)) : Option Bool).bind fun m135 => (some m135)) else
    (((bif (((n_0.Next.n : Nat) : Int) == 0) then (some (((n_0.Match.n : Nat) : Int) == 0)) else (some false)) : Option Bool).bind fun m136 => (some m136))) w0 go0) fu (0 : Int))))
def pc_spec_l8Lists (fu : Nat) : Pc RT den := fun f xs => match f with | 83 => S_spec_l8Id fu xs | 105 => S_spec_l8Rises fu xs | _ => none
def msk_spec_l8Lists (b : Nat) : List Nat := match b with | 0 => [1, 2, 4, 5, 6, 7, 8, 9, 10, 11, 12, 13, 14, 15, 16, 17, 18, 19, 20, 21, 22, 23, 24, 25, 26, 27, 28, 29, 30, 31, 32, 33, 34, 35, 36, 37, 38, 39, 40, 41, 42, 43, 44, 45, 46, 47, 48, 49, 50, 51, 52, 53, 54, 55, 56, 57, 58, 59, 60, 61, 62, 63, 64, 65, 66, 67, 68, 69] | 100000 => [1, 3, 4, 5, 6, 7, 8, 9, 10, 11, 12, 13, 14, 15, 16, 17, 18, 19, 20, 21, 22, 23, 24, 25, 26, 27, 28, 29, 30, 31, 32, 33, 34, 35, 36, 37, 38, 39, 40, 41, 42, 43, 44, 45, 46, 47, 48, 49, 50, 51, 52, 53, 54, 55, 56, 57, 58, 59, 60, 61, 62, 63, 64, 65, 66, 67, 68, 69] | 200001 => [25] | 200011 => [2] | _ => []
def ps_spec_l8Lists_0 : List (Pat RT) := [.rptr [(.int .i64), (.int .i64), (.int .i64), (.int .i64), (.rs .impl_Entry), (.int .i64), (.int .i64), (.rs .i64), (.rs .i64), (.rs .i64)], .flat .dead, .flat .dead, .flat (.int .i64), .flat .dead, .flat .dead, .flat .dead, .flat .dead, .flat .dead, .flat .dead, .flat .dead, .flat .dead, .flat .dead, .flat .dead, .flat .dead, .flat .dead, .flat .dead, .flat .dead, .flat .dead, .flat .dead, .flat .dead, .flat .dead, .flat .dead, .flat .dead, .flat .dead, .flat .dead, .flat .dead, .flat .dead, .flat .dead, .flat .dead, .flat .dead, .flat .dead, .flat .dead, .flat .dead, .flat .dead, .flat .dead, .flat .dead, .flat .dead, .flat .dead, .flat .dead, .flat .dead, .flat .dead, .flat .dead, .flat .dead, .flat .dead, .flat .dead, .flat .dead, .flat .dead, .flat .dead, .flat .dead, .flat .dead, .flat .dead, .flat .dead, .flat .dead, .flat .dead, .flat .dead, .flat .dead, .flat .dead, .flat .dead, .flat .dead, .flat .dead, .flat .dead, .flat .dead, .flat .dead, .flat .dead, .flat .dead, .flat .dead, .flat .dead, .flat .dead, .flat .dead]
def os_spec_l8Lists_0 : List (OP RT) := []
def conv_spec_l8Lists_0 (r : Raw den ps_spec_l8Lists_0 os_spec_l8Lists_0) : (Int × Int × Int × Int × (Sl S_impl_Entry) × Int × Int × (Sl Int) × (Sl Int) × (Sl Int)) × (Int) := ((r.1.1.1, r.1.1.2.1, r.1.1.2.2.1, r.1.1.2.2.2.1, r.1.1.2.2.2.2.1, r.1.1.2.2.2.2.2.1, r.1.1.2.2.2.2.2.2.1, r.1.1.2.2.2.2.2.2.2.1, r.1.1.2.2.2.2.2.2.2.2.1, r.1.1.2.2.2.2.2.2.2.2.2.1), r.1.2.2.2.1)
def back_spec_l8Lists_0 (c : Int × Int × Int × Int × (Sl S_impl_Entry) × Int × Int × (Sl Int) × (Sl Int) × (Sl Int)) (w : Int) : St RT den := ⟨[(.rptr [(.int .i64 c.1), (.int .i64 c.2.1), (.int .i64 c.2.2.1), (.int .i64 c.2.2.2.1), (.rs c.2.2.2.2.1.z .impl_Entry c.2.2.2.2.1.n c.2.2.2.2.1.f), (.int .i64 c.2.2.2.2.2.1), (.int .i64 c.2.2.2.2.2.2.1), (.rs c.2.2.2.2.2.2.2.1.z .i64 c.2.2.2.2.2.2.2.1.n c.2.2.2.2.2.2.2.1.f), (.rs c.2.2.2.2.2.2.2.2.1.z .i64 c.2.2.2.2.2.2.2.2.1.n c.2.2.2.2.2.2.2.2.1.f), (.rs c.2.2.2.2.2.2.2.2.2.z .i64 c.2.2.2.2.2.2.2.2.2.n c.2.2.2.2.2.2.2.2.2.f)]), .dead, .dead, (.int .i64 w), .dead, .dead, .dead, .dead, .dead, .dead, .dead, .dead, .dead, .dead, .dead, .dead, .dead, .dead, .dead, .dead, .dead, .dead, .dead, .dead, .dead, .dead, .dead, .dead, .dead, .dead, .dead, .dead, .dead, .dead, .dead, .dead, .dead, .dead, .dead, .dead, .dead, .dead, .dead, .dead, .dead, .dead, .dead, .dead, .dead, .dead, .dead, .dead, .dead, .dead, .dead, .dead, .dead, .dead, .dead, .dead, .dead, .dead, .dead, .dead, .dead, .dead, .dead, .dead, .dead, .dead], []⟩
def Bk_spec_l8Lists_0 {ρ : Type} (fu : Nat) (c : Int × Int × Int × Int × (Sl S_impl_Entry) × Int × Int × (Sl Int) × (Sl Int) × (Sl Int)) (k : Ex → St RT den → Option ρ) (w : Int) (go : (Int) → Option ρ) : Option ρ := F_spec_l8Lists_B0 fu c.1 c.2.1 c.2.2.1 c.2.2.2.1 c.2.2.2.2.1 c.2.2.2.2.2.1 c.2.2.2.2.2.2.1 c.2.2.2.2.2.2.2.1 c.2.2.2.2.2.2.2.2.1 c.2.2.2.2.2.2.2.2.2 (k .ret ⟨[(.rptr [(.int .i64 c.1), (.int .i64 c.2.1), (.int .i64 c.2.2.1), (.int .i64 c.2.2.2.1), (.rs c.2.2.2.2.1.z .impl_Entry c.2.2.2.2.1.n c.2.2.2.2.1.f), (.int .i64 c.2.2.2.2.2.1), (.int .i64 c.2.2.2.2.2.2.1), (.rs c.2.2.2.2.2.2.2.1.z .i64 c.2.2.2.2.2.2.2.1.n c.2.2.2.2.2.2.2.1.f), (.rs c.2.2.2.2.2.2.2.2.1.z .i64 c.2.2.2.2.2.2.2.2.1.n c.2.2.2.2.2.2.2.2.1.f), (.rs c.2.2.2.2.2.2.2.2.2.z .i64 c.2.2.2.2.2.2.2.2.2.n c.2.2.2.2.2.2.2.2.2.f)]), .dead, (.bool false), .dead, .dead, .dead, .dead, .dead, .dead, .dead, .dead, .dead, .dead, .dead, .dead, .dead, .dead, .dead, .dead, .dead, .dead, .dead, .dead, .dead, .dead, .dead, .dead, .dead, .dead, .dead, .dead, .dead, .dead, .dead, .dead, .dead, .dead, .dead, .dead, .dead, .dead, .dead, .dead, .dead, .dead, .dead, .dead, .dead, .dead, .dead, .dead, .dead, .dead, .dead, .dead, .dead, .dead, .dead, .dead, .dead, .dead, .dead, .dead, .dead, .dead, .dead, .dead, .dead, .dead, .dead], []⟩) (k (.exit 0) ⟨[(.rptr [(.int .i64 c.1), (.int .i64 c.2.1), (.int .i64 c.2.2.1), (.int .i64 c.2.2.2.1), (.rs c.2.2.2.2.1.z .impl_Entry c.2.2.2.2.1.n c.2.2.2.2.1.f), (.int .i64 c.2.2.2.2.2.1), (.int .i64 c.2.2.2.2.2.2.1), (.rs c.2.2.2.2.2.2.2.1.z .i64 c.2.2.2.2.2.2.2.1.n c.2.2.2.2.2.2.2.1.f), (.rs c.2.2.2.2.2.2.2.2.1.z .i64 c.2.2.2.2.2.2.2.2.1.n c.2.2.2.2.2.2.2.2.1.f), (.rs c.2.2.2.2.2.2.2.2.2.z .i64 c.2.2.2.2.2.2.2.2.2.n c.2.2.2.2.2.2.2.2.2.f)]), .dead, .dead, .dead, .dead, .dead, .dead, .dead, .dead, .dead, .dead, .dead, .dead, .dead, .dead, .dead, .dead, .dead, .dead, .dead, .dead, .dead, .dead, .dead, .dead, .dead, .dead, .dead, .dead, .dead, .dead, .dead, .dead, .dead, .dead, .dead, .dead, .dead, .dead, .dead, .dead, .dead, .dead, .dead, .dead, .dead, .dead, .dead, .dead, .dead, .dead, .dead, .dead, .dead, .dead, .dead, .dead, .dead, .dead, .dead, .dead, .dead, .dead, .dead, .dead, .dead, .dead, .dead, .dead, .dead], []⟩) w go
def lp_spec_l8Lists (fu : Nat) : Lp RT den (Bool) := fun b s k => match b with | 0 => handle ps_spec_l8Lists_0 os_spec_l8Lists_0 conv_spec_l8Lists_0 (Bk_spec_l8Lists_0 fu) fu s k | _ => none
theorem ev_spec_l8Lists (fu : Nat) (n_0 : S_impl_Node) : evFun E (pc_spec_l8Lists fu) msk_spec_l8Lists (lp_spec_l8Lists fu) out_bo 86 [(.rptr [(.int .i64 n_0.Id), (.int .i64 n_0.Peers), (.int .i64 n_0.Term), (.int .i64 n_0.Voted), (.rs n_0.Log.z .impl_Entry n_0.Log.n n_0.Log.f), (.int .i64 n_0.Role), (.int .i64 n_0.Commit), (.rs n_0.Votes.z .i64 n_0.Votes.n n_0.Votes.f), (.rs n_0.Next.z .i64 n_0.Next.n n_0.Next.f), (.rs n_0.Match.z .i64 n_0.Match.n n_0.Match.f)])] = F_spec_l8Lists fu n_0 := by kernel_rfl
noncomputable def body_spec_l8Lists : Code := Try.f86.body.getD .skip
noncomputable def lc_spec_l8Lists_0 : Code := ((loops 0 body_spec_l8Lists).getD 0 (0, .skip)).2
theorem round_spec_l8Lists_0 (fu : Nat) (it : St RT den → Option (Bool)) (k : Ex → St RT den → Option (Bool)) c w : evCode E (pc_spec_l8Lists fu) msk_spec_l8Lists (lp_spec_l8Lists fu) 0 lc_spec_l8Lists_0 (back_spec_l8Lists_0 c w) (after (msk_spec_l8Lists 0) (msk_spec_l8Lists 100000) 0 it k) = Bk_spec_l8Lists_0 fu c k w (fun w => it (back_spec_l8Lists_0 c w)) := by kernel_rfl
theorem lpok_spec_l8Lists_0 (fu : Nat) : ∀ s k r, lp_spec_l8Lists fu 0 s k = some r → ∃ fuel, iter (msk_spec_l8Lists 0) (msk_spec_l8Lists 100000) s.objs.length (evCode E (pc_spec_l8Lists fu) msk_spec_l8Lists (lp_spec_l8Lists fu) 0 lc_spec_l8Lists_0) fuel s k = some r :=
  handle_ok (ps := ps_spec_l8Lists_0) (os := os_spec_l8Lists_0) (conv := conv_spec_l8Lists_0) (B := Bk_spec_l8Lists_0 fu) (fu := fu) back_spec_l8Lists_0 (fun raw => by kernel_rfl) 0 (fun c w => by kernel_rfl) (round_spec_l8Lists_0 fu)
theorem lpok_spec_l8Lists (fu : Nat) : LpOk E (pc_spec_l8Lists fu) msk_spec_l8Lists (lp_spec_l8Lists fu) (loops 0 body_spec_l8Lists) := loop_all 1 (by kernel_rfl) fun i hi => match i, hi with
  | 0, _ => by
    have h : (loops 0 body_spec_l8Lists).getD 0 (0, .skip) = (0, lc_spec_l8Lists_0) := by kernel_rfl
    rw [h]; exact lpok_spec_l8Lists_0 fu
  | i + 1, hi => absurd hi (by omega)
def S_spec_l8Lists (fu : Nat) (xs : List (D RT den)) : Option (Out RT den) := match xs with | [.rptr (.int .i64 a0_1 :: .int .i64 a0_2 :: .int .i64 a0_3 :: .int .i64 a0_4 :: .rs za0_5 .impl_Entry na0_5 fa0_5 :: .int .i64 a0_6 :: .int .i64 a0_7 :: .rs za0_8 .i64 na0_8 fa0_8 :: .rs za0_9 .i64 na0_9 fa0_9 :: .rs za0_10 .i64 na0_10 fa0_10 :: ra0)] => some ⟨Bool, F_spec_l8Lists fu (⟨a0_1, a0_2, a0_3, a0_4, (⟨za0_5, na0_5, fa0_5⟩ : (Sl S_impl_Entry)), a0_6, a0_7, (⟨za0_8, na0_8, fa0_8⟩ : (Sl Int)), (⟨za0_9, na0_9, fa0_9⟩ : (Sl Int)), (⟨za0_10, na0_10, fa0_10⟩ : (Sl Int))⟩ : S_impl_Node), enc_bo, fun _ => true⟩ | _ => none
theorem hpc_spec_l8Lists (fu : Nat) : ∀ f xs o, pc_spec_l8Lists fu f xs = some o → ∀ y, o.x = some y → Good E Try.prog f xs (o.g y) := by
  intro f xs o h
  unfold pc_spec_l8Lists at h
  split at h
  · exact good_spec_l8Id fu xs o h
  · exact good_spec_l8Rises fu xs o h
  · cases h
theorem goodv_spec_l8Lists (fu : Nat) (n_0 : S_impl_Node) (y : Bool) (hy : F_spec_l8Lists fu n_0 = some y) : Good E Try.prog 86 [(.rptr [(.int .i64 n_0.Id), (.int .i64 n_0.Peers), (.int .i64 n_0.Term), (.int .i64 n_0.Voted), (.rs n_0.Log.z .impl_Entry n_0.Log.n n_0.Log.f), (.int .i64 n_0.Role), (.int .i64 n_0.Commit), (.rs n_0.Votes.z .i64 n_0.Votes.n n_0.Votes.f), (.rs n_0.Next.z .i64 n_0.Next.n n_0.Next.f), (.rs n_0.Match.z .i64 n_0.Match.n n_0.Match.f)])] (enc_bo y) :=
  fun_good E_ok (pc_good (hpc_spec_l8Lists fu)) (fn := Try.f86) (c := body_spec_l8Lists) (out := out_bo) (y := y) (by kernel_rfl) (by kernel_rfl) (by kernel_rfl) (lpok_spec_l8Lists fu) (fun d hd => out_bo_enc d _ hd) ((ev_spec_l8Lists fu n_0).trans hy)
theorem good_spec_l8Lists (fu : Nat) : ∀ xs o, S_spec_l8Lists fu xs = some o → ∀ y, o.x = some y → Good E Try.prog 86 xs (o.g y) := by
  intro xs o h y hy
  unfold S_spec_l8Lists at h
  split at h
  · rename_i a0_1 a0_2 a0_3 a0_4 za0_5 na0_5 fa0_5 a0_6 a0_7 za0_8 na0_8 fa0_8 za0_9 na0_9 fa0_9 za0_10 na0_10 fa0_10 ra0
    cases h
    exact (goodv_spec_l8Lists fu (⟨a0_1, a0_2, a0_3, a0_4, (⟨za0_5, na0_5, fa0_5⟩ : (Sl S_impl_Entry)), a0_6, a0_7, (⟨za0_8, na0_8, fa0_8⟩ : (Sl Int)), (⟨za0_9, na0_9, fa0_9⟩ : (Sl Int)), (⟨za0_10, na0_10, fa0_10⟩ : (Sl Int))⟩ : S_impl_Node) y hy).sub ⟨Sub.of_eq ra0 rfl, trivial⟩
  · cases h

/-! spec.l8Fault -/
def F_spec_l8Fault_B0 {ρ : Type} (fu : Nat) (t0_0 : Int) (t0_1 : Int) (t0_2 : Int) (t0_3 : Int) (t0_4 : (Sl S_impl_Entry)) (t0_5 : Int) (t0_6 : Int) (t0_7 : (Sl Int)) (t0_8 : (Sl Int)) (t0_9 : (Sl Int)) (r4_10 : Int) (k0 : Option ρ) (k1 : Option ρ) (a5_11 : Int) (go : Int → Option ρ) : Option ρ :=
  (bif (decide (a5_11 < ((t0_8.n : Nat) : Int))) then ((((bif (decide (0 ≤ a5_11) && decide ((Int.toNat a5_11) < t0_8.n)) then some () else none : Option Unit).bind fun _ =>
    ((F_spec_l1In fu (t0_8.f (Int.toNat a5_11)) 1 (IntKind.wrap .i64 (r4_10 + 1))).bind fun y72 => (bif (!y72) then (some true) else ((bif (decide (0 ≤ a5_11) && decide ((Int.toNat a5_11) < t0_9.n)) then
    some () else none : Option Unit).bind fun _ => ((F_spec_l1In fu (t0_9.f (Int.toNat a5_11)) 0 r4_10).bind fun y73 => (some (!y73))))))) : Option Bool).bind fun m74 => (bif m74 then
    k0 else (go (IntKind.wrap .i64 (a5_11 + 1))))) else k1)
def F_spec_l8Fault (fu : Nat) (t_0 : S_impl_Node) : Option (Int) :=
  ((((F_spec_l1In fu t_0.Peers 1 5).bind fun y62 => (bif (!y62) then (some true) else ((F_spec_l8Id fu t_0 t_0.Id).bind fun y63 => (bif (!y63) then (some true) else ((F_spec_l1In fu t_0.Term 0 100000).bind fun y64 =>
    (bif (!y64) then (some true) else ((F_spec_l1In fu t_0.Voted (-1) (IntKind.wrap .i64 (t_0.Peers - 1))).bind fun y65 => (bif (!y65) then (some true) else ((F_spec_l1In fu t_0.Role 0 2).bind fun y66 =>
    (some (!y66))))))))))) : Option Bool).bind fun m67 => (bif m67 then (some 3) else ((F_spec_LogFault fu t_0.Log).bind fun y68 => (bif (y68 != 0) then (some y68) else
    ((F_spec_LastOf fu t_0.Log).bind fun y69 => (bif (decide (y69.Term > t_0.Term)) then (some 1) else ((F_spec_l1In fu t_0.Commit 0 ((t_0.Log.n : Nat) : Int)).bind fun y70 => (bif (!y70) then
    (some 3) else ((F_spec_l8Lists fu t_0).bind fun y71 => (bif (!y71) then (some 1) else (L (fun w0 go0 => F_spec_l8Fault_B0 fu t_0.Id t_0.Peers t_0.Term t_0.Voted t_0.Log t_0.Role t_0.Commit t_0.Votes t_0.Next t_0.Match ((t_0.Log.n : Nat) : Int) (some 3) (((bif (t_0.Role != 0) then
    (bif (t_0.Voted != t_0.Id) then (some true) else (some (t_0.Term == 0))) else (some false)) : Option Bool).bind fun m75 => (bif m75 then (some 1) else (some 0))) w0 go0) fu (0 : Int))))))))))))
def pc_spec_l8Fault (fu : Nat) : Pc RT den := fun f xs => match f with | 58 => S_spec_l1In fu xs | 83 => S_spec_l8Id fu xs | 84 => S_spec_LogFault fu xs | 85 => S_spec_LastOf fu xs | 86 => S_spec_l8Lists fu xs | _ => none
def msk_spec_l8Fault (b : Nat) : List Nat := match b with | 0 => [1, 2, 3, 6, 7, 8, 9, 10, 11, 12, 13, 14, 15, 16, 17, 18, 19, 20, 21, 22, 23, 24, 25, 26, 27, 28, 29, 30, 31, 32, 33, 34, 35, 36, 37, 38, 39, 40, 41, 42, 43, 44, 45, 46, 47, 48, 49, 50, 51, 52, 53, 54, 55, 56, 57, 58, 59, 60, 61, 62, 63, 64, 65, 66, 67, 68, 69, 70, 71, 72, 73, 74, 75, 76, 77, 78, 79, 80, 81, 82, 83, 84, 85, 86, 87, 88, 89, 90, 91, 92, 93, 94, 95, 96, 97, 98, 99, 100, 101, 102, 103, 104, 105, 106, 107, 108, 109, 110, 111, 112, 113, 114, 115, 116, 117, 118, 119, 120, 121, 122, 123, 124, 125, 126, 127, 128, 129, 130, 131, 132, 133, 134, 135, 136, 137, 138] | 100000 => [1, 3, 4, 5, 6, 7, 8, 9, 10, 11, 12, 13, 14, 15, 16, 17, 18, 19, 20, 21, 22, 23, 24, 25, 26, 27, 28, 29, 30, 31, 32, 33, 34, 35, 36, 37, 38, 39, 40, 41, 42, 43, 44, 45, 46, 47, 48, 49, 50, 51, 52, 53, 54, 55, 56, 57, 58, 59, 60, 61, 62, 63, 64, 65, 66, 67, 68, 69, 70, 71, 72, 73, 74, 75, 76, 77, 78, 79, 80, 81, 82, 83, 84, 85, 86, 87, 88, 89, 90, 91, 92, 93, 94, 95, 96, 97, 98, 99, 100, 101, 102, 103, 104, 105, 106, 107, 108, 109, 110, 111, 112, 113, 114, 115, 116, 117, 118, 119, 120, 121, 122, 123, 124, 125, 126, 127, 128, 129, 130, 131, 132, 133, 134, 135, 136, 137, 138] | 200001 => [49] | 200016 => [115] | 200018 => [138] | _ => []
def ps_spec_l8Fault_0 : List (Pat RT) := [.rptr [(.int .i64), (.int .i64), (.int .i64), (.int .i64), (.rs .impl_Entry), (.int .i64), (.int .i64), (.rs .i64), (.rs .i64), (.rs .i64)], .flat .dead, .flat .dead, .flat .dead, .flat (.int .i64), .flat (.int .i64), .flat .dead, .flat .dead, .flat .dead, .flat .dead, .flat .dead, .flat .dead, .flat .dead, .flat .dead, .flat .dead, .flat .dead, .flat .dead, .flat .dead, .flat .dead, .flat .dead, .flat .dead, .flat .dead, .flat .dead, .flat .dead, .flat .dead, .flat .dead, .flat .dead, .flat .dead, .flat .dead, .flat .dead, .flat .dead, .flat .dead, .flat .dead, .flat .dead, .flat .dead, .flat .dead, .flat .dead, .flat .dead, .flat .dead, .flat .dead, .flat .dead, .flat .dead, .flat .dead, .flat .dead, .flat .dead, .flat .dead, .flat .dead, .flat .dead, .flat .dead, .flat .dead, .flat .dead, .flat .dead, .flat .dead, .flat .dead, .flat .dead, .flat .dead, .flat .dead, .flat .dead, .flat .dead, .flat .dead, .flat .dead, .flat .dead, .flat .dead, .flat .dead, .flat .dead, .flat .dead, .flat .dead, .flat .dead, .flat .dead, .flat .dead, .flat .dead, .flat .dead, .flat .dead, .flat .dead, .flat .dead, .flat .dead, .flat .dead, .flat .dead, .flat .dead, .flat .dead, .flat .dead, .flat .dead, .flat .dead, .flat .dead, .flat .dead, .flat .dead, .flat .dead, .flat .dead, .flat .dead, .flat .dead, .flat .dead, .flat .dead, .flat .dead, .flat .dead, .flat .dead, .flat .dead, .flat .dead, .flat .dead, .flat .dead, .flat .dead, .flat .dead, .flat .dead, .flat .dead, .flat .dead, .flat .dead, .flat .dead, .flat .dead, .flat .dead, .flat .dead, .flat .dead, .flat .dead, .flat .dead, .flat .dead, .flat .dead, .flat .dead, .flat .dead, .flat .dead, .flat .dead, .flat .dead, .flat .dead, .flat .dead, .flat .dead, .flat .dead, .flat .dead, .flat .dead, .flat .dead, .flat .dead, .flat .dead, .flat .dead, .flat .dead, .flat .dead, .flat .dead, .flat .dead, .flat .dead, .flat .dead, .flat .dead, .flat .dead, .flat .dead, .flat .dead]
def os_spec_l8Fault_0 : List (OP RT) := []
def conv_spec_l8Fault_0 (r : Raw den ps_spec_l8Fault_0 os_spec_l8Fault_0) : (Int × Int × Int × Int × (Sl S_impl_Entry) × Int × Int × (Sl Int) × (Sl Int) × (Sl Int) × Int) × (Int) := ((r.1.1.1, r.1.1.2.1, r.1.1.2.2.1, r.1.1.2.2.2.1, r.1.1.2.2.2.2.1, r.1.1.2.2.2.2.2.1, r.1.1.2.2.2.2.2.2.1, r.1.1.2.2.2.2.2.2.2.1, r.1.1.2.2.2.2.2.2.2.2.1, r.1.1.2.2.2.2.2.2.2.2.2.1, r.1.2.2.2.2.1), r.1.2.2.2.2.2.1)
def back_spec_l8Fault_0 (c : Int × Int × Int × Int × (Sl S_impl_Entry) × Int × Int × (Sl Int) × (Sl Int) × (Sl Int) × Int) (w : Int) : St RT den := ⟨[(.rptr [(.int .i64 c.1), (.int .i64 c.2.1), (.int .i64 c.2.2.1), (.int .i64 c.2.2.2.1), (.rs c.2.2.2.2.1.z .impl_Entry c.2.2.2.2.1.n c.2.2.2.2.1.f), (.int .i64 c.2.2.2.2.2.1), (.int .i64 c.2.2.2.2.2.2.1), (.rs c.2.2.2.2.2.2.2.1.z .i64 c.2.2.2.2.2.2.2.1.n c.2.2.2.2.2.2.2.1.f), (.rs c.2.2.2.2.2.2.2.2.1.z .i64 c.2.2.2.2.2.2.2.2.1.n c.2.2.2.2.2.2.2.2.1.f), (.rs c.2.2.2.2.2.2.2.2.2.1.z .i64 c.2.2.2.2.2.2.2.2.2.1.n c.2.2.2.2.2.2.2.2.2.1.f)]), .dead, .dead, .dead, (.int .i64 c.2.2.2.2.2.2.2.2.2.2), (.int .i64 w), .dead, .dead, .dead, .dead, .dead, .dead, .dead, .dead, .dead, .dead, .dead, .dead, .dead, .dead, .dead, .dead, .dead, .dead, .dead, .dead, .dead, .dead, .dead, .dead, .dead, .dead, .dead, .dead, .dead, .dead, .dead, .dead, .dead, .dead, .dead, .dead, .dead, .dead, .dead, .dead, .dead, .dead, .dead, .dead, .dead, .dead, .dead, .dead, .dead, .dead, .dead, .dead, .dead, .dead, .dead, .dead, .dead, .dead, .dead, .dead, .dead, .dead, .dead, .dead, .dead, .dead, .dead, .dead, .dead, .dead, .dead, .dead, .dead, .dead, .dead, .dead, .dead, .dead, .dead, .dead, .dead, .dead, .dead, .dead, .dead, .dead, .dead, .dead, .dead, .dead, .dead, .dead, .dead, .dead, .dead, .dead, .dead, .dead, .dead, .dead, .dead, .dead, .dead, .dead, .dead, .dead, .dead, .dead, .dead, .dead, .dead, .dead, .dead, .dead, .dead, .dead, .dead, .dead, .dead, .dead, .dead, .dead, .dead, .dead, .dead, .dead, .dead, .dead, .dead, .dead, .dead, .dead, .dead], []⟩
def Bk_spec_l8Fault_0 {ρ : Type} (fu : Nat) (c : Int × Int × Int × Int × (Sl S_impl_Entry) × Int × Int × (Sl Int) × (Sl Int) × (Sl Int) × Int) (k : Ex → St RT den → Option ρ) (w : Int) (go : (Int) → Option ρ) : Option ρ := F_spec_l8Fault_B0 fu c.1 c.2.1 c.2.2.1 c.2.2.2.1 c.2.2.2.2.1 c.2.2.2.2.2.1 c.2.2.2.2.2.2.1 c.2.2.2.2.2.2.2.1 c.2.2.2.2.2.2.2.2.1 c.2.2.2.2.2.2.2.2.2.1 c.2.2.2.2.2.2.2.2.2.2 (k .ret ⟨[(.rptr [(.int .i64 c.1), (.int .i64 c.2.1), (.int .i64 c.2.2.1), (.int .i64 c.2.2.2.1), (.rs c.2.2.2.2.1.z .impl_Entry c.2.2.2.2.1.n c.2.2.2.2.1.f), (.int .i64 c.2.2.2.2.2.1), (.int .i64 c.2.2.2.2.2.2.1), (.rs c.2.2.2.2.2.2.2.1.z .i64 c.2.2.2.2.2.2.2.1.n c.2.2.2.2.2.2.2.1.f), (.rs c.2.2.2.2.2.2.2.2.1.z .i64 c.2.2.2.2.2.2.2.2.1.n c.2.2.2.2.2.2.2.2.1.f), (.rs c.2.2.2.2.2.2.2.2.2.1.z .i64 c.2.2.2.2.2.2.2.2.2.1.n c.2.2.2.2.2.2.2.2.2.1.f)]), .dead, (.int .i64 3), .dead, .dead, .dead, .dead, .dead, .dead, .dead, .dead, .dead, .dead, .dead, .dead, .dead, .dead, .dead, .dead, .dead, .dead, .dead, .dead, .dead, .dead, .dead, .dead, .dead, .dead, .dead, .dead, .dead, .dead, .dead, .dead, .dead, .dead, .dead, .dead, .dead, .dead, .dead, .dead, .dead, .dead, .dead, .dead, .dead, .dead, .dead, .dead, .dead, .dead, .dead, .dead, .dead, .dead, .dead, .dead, .dead, .dead, .dead, .dead, .dead, .dead, .dead, .dead, .dead, .dead, .dead, .dead, .dead, .dead, .dead, .dead, .dead, .dead, .dead, .dead, .dead, .dead, .dead, .dead, .dead, .dead, .dead, .dead, .dead, .dead, .dead, .dead, .dead, .dead, .dead, .dead, .dead, .dead, .dead, .dead, .dead, .dead, .dead, .dead, .dead, .dead, .dead, .dead, .dead, .dead, .dead, .dead, .dead, .dead, .dead, .dead, .dead, .dead, .dead, .dead, .dead, .dead, .dead, .dead, .dead, .dead, .dead, .dead, .dead, .dead, .dead, .dead, .dead, .dead, .dead, .dead, .dead, .dead, .dead, .dead], []⟩) (k (.exit 0) ⟨[(.rptr [(.int .i64 c.1), (.int .i64 c.2.1), (.int .i64 c.2.2.1), (.int .i64 c.2.2.2.1), (.rs c.2.2.2.2.1.z .impl_Entry c.2.2.2.2.1.n c.2.2.2.2.1.f), (.int .i64 c.2.2.2.2.2.1), (.int .i64 c.2.2.2.2.2.2.1), (.rs c.2.2.2.2.2.2.2.1.z .i64 c.2.2.2.2.2.2.2.1.n c.2.2.2.2.2.2.2.1.f), (.rs c.2.2.2.2.2.2.2.2.1.z .i64 c.2.2.2.2.2.2.2.2.1.n c.2.2.2.2.2.2.2.2.1.f), (.rs c.2.2.2.2.2.2.2.2.2.1.z .i64 c.2.2.2.2.2.2.2.2.2.1.n c.2.2.2.2.2.2.2.2.2.1.f)]), .dead, .dead, .dead, .dead, .dead, .dead, .dead, .dead, .dead, .dead, .dead, .dead, .dead, .dead, .dead, .dead, .dead, .dead, .dead, .dead, .dead, .dead, .dead, .dead, .dead, .dead, .dead, .dead, .dead, .dead, .dead, .dead, .dead, .dead, .dead, .dead, .dead, .dead, .dead, .dead, .dead, .dead, .dead, .dead, .dead, .dead, .dead, .dead, .dead, .dead, .dead, .dead, .dead, .dead, .dead, .dead, .dead, .dead, .dead, .dead, .dead, .dead, .dead, .dead, .dead, .dead, .dead, .dead, .dead, .dead, .dead, .dead, .dead, .dead, .dead, .dead, .dead, .dead, .dead, .dead, .dead, .dead, .dead, .dead, .dead, .dead, .dead, .dead, .dead, .dead, .dead, .dead, .dead, .dead, .dead, .dead, .dead, .dead, .dead, .dead, .dead, .dead, .dead, .dead, .dead, .dead, .dead, .dead, .dead, .dead, .dead, .dead, .dead, .dead, .dead, .dead, .dead, .dead, .dead, .dead, .dead, .dead, .dead, .dead, .dead, .dead, .dead, .dead, .dead, .dead, .dead, .dead, .dead, .dead, .dead, .dead, .dead, .dead], []⟩) w go
def lp_spec_l8Fault (fu : Nat) : Lp RT den (Int) := fun b s k => match b with | 0 => handle ps_spec_l8Fault_0 os_spec_l8Fault_0 conv_spec_l8Fault_0 (Bk_spec_l8Fault_0 fu) fu s k | _ => none
theorem ev_spec_l8Fault (fu : Nat) (t_0 : S_impl_Node) : evFun E (pc_spec_l8Fault fu) msk_spec_l8Fault (lp_spec_l8Fault fu) out_i64 55 [(.rptr [(.int .i64 t_0.Id), (.int .i64 t_0.Peers), (.int .i64 t_0.Term), (.int .i64 t_0.Voted), (.rs t_0.Log.z .impl_Entry t_0.Log.n t_0.Log.f), (.int .i64 t_0.Role), (.int .i64 t_0.Commit), (.rs t_0.Votes.z .i64 t_0.Votes.n t_0.Votes.f), (.rs t_0.Next.z .i64 t_0.Next.n t_0.Next.f), (.rs t_0.Match.z .i64 t_0.Match.n t_0.Match.f)])] = F_spec_l8Fault fu t_0 := by kernel_rfl
noncomputable def body_spec_l8Fault : Code := Try.f55.body.getD .skip
noncomputable def lc_spec_l8Fault_0 : Code := ((loops 0 body_spec_l8Fault).getD 0 (0, .skip)).2
theorem round_spec_l8Fault_0 (fu : Nat) (it : St RT den → Option (Int)) (k : Ex → St RT den → Option (Int)) c w : evCode E (pc_spec_l8Fault fu) msk_spec_l8Fault (lp_spec_l8Fault fu) 0 lc_spec_l8Fault_0 (back_spec_l8Fault_0 c w) (after (msk_spec_l8Fault 0) (msk_spec_l8Fault 100000) 0 it k) = Bk_spec_l8Fault_0 fu c k w (fun w => it (back_spec_l8Fault_0 c w)) := by kernel_rfl
theorem lpok_spec_l8Fault_0 (fu : Nat) : ∀ s k r, lp_spec_l8Fault fu 0 s k = some r → ∃ fuel, iter (msk_spec_l8Fault 0) (msk_spec_l8Fault 100000) s.objs.length (evCode E (pc_spec_l8Fault fu) msk_spec_l8Fault (lp_spec_l8Fault fu) 0 lc_spec_l8Fault_0) fuel s k = some r :=
  handle_ok (ps := ps_spec_l8Fault_0) (os := os_spec_l8Fault_0) (conv := conv_spec_l8Fault_0) (B := Bk_spec_l8Fault_0 fu) (fu := fu) back_spec_l8Fault_0 (fun raw => by kernel_rfl) 0 (fun c w => by kernel_rfl) (round_spec_l8Fault_0 fu)
theorem lpok_spec_l8Fault (fu : Nat) : LpOk E (pc_spec_l8Fault fu) msk_spec_l8Fault (lp_spec_l8Fault fu) (loops 0 body_spec_l8Fault) := loop_all 1 (by kernel_rfl) fun i hi => match i, hi with
  | 0, _ => by
    have h : (loops 0 body_spec_l8Fault).getD 0 (0, .skip) = (0, lc_spec_l8Fault_0) := by kernel_rfl
    rw [h]; exact lpok_spec_l8Fault_0 fu
  | i + 1, hi => absurd hi (by omega)
def S_spec_l8Fault (fu : Nat) (xs : List (D RT den)) : Option (Out RT den) := match xs with | [.rptr (.int .i64 a0_1 :: .int .i64 a0_2 :: .int .i64 a0_3 :: .int .i64 a0_4 :: .rs za0_5 .impl_Entry na0_5 fa0_5 :: .int .i64 a0_6 :: .int .i64 a0_7 :: .rs za0_8 .i64 na0_8 fa0_8 :: .rs za0_9 .i64 na0_9 fa0_9 :: .rs za0_10 .i64 na0_10 fa0_10 :: ra0)] => some ⟨Int, F_spec_l8Fault fu (⟨a0_1, a0_2, a0_3, a0_4, (⟨za0_5, na0_5, fa0_5⟩ : (Sl S_impl_Entry)), a0_6, a0_7, (⟨za0_8, na0_8, fa0_8⟩ : (Sl Int)), (⟨za0_9, na0_9, fa0_9⟩ : (Sl Int)), (⟨za0_10, na0_10, fa0_10⟩ : (Sl Int))⟩ : S_impl_Node), enc_i64, fun _ => true⟩ | _ => none
theorem hpc_spec_l8Fault (fu : Nat) : ∀ f xs o, pc_spec_l8Fault fu f xs = some o → ∀ y, o.x = some y → Good E Try.prog f xs (o.g y) := by
  intro f xs o h
  unfold pc_spec_l8Fault at h
  split at h
  · exact good_spec_l1In fu xs o h
  · exact good_spec_l8Id fu xs o h
  · exact good_spec_LogFault fu xs o h
  · exact good_spec_LastOf fu xs o h
  · exact good_spec_l8Lists fu xs o h
  · cases h
theorem goodv_spec_l8Fault (fu : Nat) (t_0 : S_impl_Node) (y : Int) (hy : F_spec_l8Fault fu t_0 = some y) : Good E Try.prog 55 [(.rptr [(.int .i64 t_0.Id), (.int .i64 t_0.Peers), (.int .i64 t_0.Term), (.int .i64 t_0.Voted), (.rs t_0.Log.z .impl_Entry t_0.Log.n t_0.Log.f), (.int .i64 t_0.Role), (.int .i64 t_0.Commit), (.rs t_0.Votes.z .i64 t_0.Votes.n t_0.Votes.f), (.rs t_0.Next.z .i64 t_0.Next.n t_0.Next.f), (.rs t_0.Match.z .i64 t_0.Match.n t_0.Match.f)])] (enc_i64 y) :=
  fun_good E_ok (pc_good (hpc_spec_l8Fault fu)) (fn := Try.f55) (c := body_spec_l8Fault) (out := out_i64) (y := y) (by kernel_rfl) (by kernel_rfl) (by kernel_rfl) (lpok_spec_l8Fault fu) (fun d hd => out_i64_enc d _ hd) ((ev_spec_l8Fault fu t_0).trans hy)
theorem good_spec_l8Fault (fu : Nat) : ∀ xs o, S_spec_l8Fault fu xs = some o → ∀ y, o.x = some y → Good E Try.prog 55 xs (o.g y) := by
  intro xs o h y hy
  unfold S_spec_l8Fault at h
  split at h
  · rename_i a0_1 a0_2 a0_3 a0_4 za0_5 na0_5 fa0_5 a0_6 a0_7 za0_8 na0_8 fa0_8 za0_9 na0_9 fa0_9 za0_10 na0_10 fa0_10 ra0
    cases h
    exact (goodv_spec_l8Fault fu (⟨a0_1, a0_2, a0_3, a0_4, (⟨za0_5, na0_5, fa0_5⟩ : (Sl S_impl_Entry)), a0_6, a0_7, (⟨za0_8, na0_8, fa0_8⟩ : (Sl Int)), (⟨za0_9, na0_9, fa0_9⟩ : (Sl Int)), (⟨za0_10, na0_10, fa0_10⟩ : (Sl Int))⟩ : S_impl_Node) y hy).sub ⟨Sub.of_eq ra0 rfl, trivial⟩
  · cases h

/-! spec.l9Place -/
def F_spec_l9Place (fu : Nat) (c_0 : S_impl_Cluster) (node_1 : Int) : Option (Bool) :=
  ((F_spec_l1In fu node_1 0 (IntKind.wrap .i64 (((c_0.Nodes.n : Nat) : Int) - 1))).bind fun y137 => (some y137))
def pc_spec_l9Place (fu : Nat) : Pc RT den := fun f xs => match f with | 58 => S_spec_l1In fu xs | _ => none
def msk_spec_l9Place (b : Nat) : List Nat := []
def lp_spec_l9Place (fu : Nat) : Lp RT den (Bool) := fun b s k => none
theorem ev_spec_l9Place (fu : Nat) (c_0 : S_impl_Cluster) (node_1 : Int) : evFun E (pc_spec_l9Place fu) msk_spec_l9Place (lp_spec_l9Place fu) out_bo 56 [(.rptr [(.rs c_0.Nodes.z .impl_Node c_0.Nodes.n c_0.Nodes.f), (.rs c_0.Mails.z .impl_Mail c_0.Mails.n c_0.Mails.f), (.rs c_0.Wins.z .impl_Won c_0.Wins.n c_0.Wins.f), (.rs c_0.Seals.z .impl_Seal c_0.Seals.n c_0.Seals.f)]), (.int .i64 node_1)] = F_spec_l9Place fu c_0 node_1 := by kernel_rfl
noncomputable def body_spec_l9Place : Code := Try.f56.body.getD .skip
theorem lpok_spec_l9Place (fu : Nat) : LpOk E (pc_spec_l9Place fu) msk_spec_l9Place (lp_spec_l9Place fu) (loops 0 body_spec_l9Place) := by
  have h : loops 0 body_spec_l9Place = [] := by kernel_rfl
  rw [h]; intro p hp; cases hp
def S_spec_l9Place (fu : Nat) (xs : List (D RT den)) : Option (Out RT den) := match xs with | [.rptr (.rs za0_1 .impl_Node na0_1 fa0_1 :: .rs za0_2 .impl_Mail na0_2 fa0_2 :: .rs za0_3 .impl_Won na0_3 fa0_3 :: .rs za0_4 .impl_Seal na0_4 fa0_4 :: ra0), .int .i64 a1_0] => some ⟨Bool, F_spec_l9Place fu (⟨(⟨za0_1, na0_1, fa0_1⟩ : (Sl S_impl_Node)), (⟨za0_2, na0_2, fa0_2⟩ : (Sl S_impl_Mail)), (⟨za0_3, na0_3, fa0_3⟩ : (Sl S_impl_Won)), (⟨za0_4, na0_4, fa0_4⟩ : (Sl S_impl_Seal))⟩ : S_impl_Cluster) a1_0, enc_bo, fun _ => true⟩ | _ => none
theorem hpc_spec_l9Place (fu : Nat) : ∀ f xs o, pc_spec_l9Place fu f xs = some o → ∀ y, o.x = some y → Good E Try.prog f xs (o.g y) := by
  intro f xs o h
  unfold pc_spec_l9Place at h
  split at h
  · exact good_spec_l1In fu xs o h
  · cases h
theorem goodv_spec_l9Place (fu : Nat) (c_0 : S_impl_Cluster) (node_1 : Int) (y : Bool) (hy : F_spec_l9Place fu c_0 node_1 = some y) : Good E Try.prog 56 [(.rptr [(.rs c_0.Nodes.z .impl_Node c_0.Nodes.n c_0.Nodes.f), (.rs c_0.Mails.z .impl_Mail c_0.Mails.n c_0.Mails.f), (.rs c_0.Wins.z .impl_Won c_0.Wins.n c_0.Wins.f), (.rs c_0.Seals.z .impl_Seal c_0.Seals.n c_0.Seals.f)]), (.int .i64 node_1)] (enc_bo y) :=
  fun_good E_ok (pc_good (hpc_spec_l9Place fu)) (fn := Try.f56) (c := body_spec_l9Place) (out := out_bo) (y := y) (by kernel_rfl) (by kernel_rfl) (by kernel_rfl) (lpok_spec_l9Place fu) (fun d hd => out_bo_enc d _ hd) ((ev_spec_l9Place fu c_0 node_1).trans hy)
theorem good_spec_l9Place (fu : Nat) : ∀ xs o, S_spec_l9Place fu xs = some o → ∀ y, o.x = some y → Good E Try.prog 56 xs (o.g y) := by
  intro xs o h y hy
  unfold S_spec_l9Place at h
  split at h
  · rename_i za0_1 na0_1 fa0_1 za0_2 na0_2 fa0_2 za0_3 na0_3 fa0_3 za0_4 na0_4 fa0_4 ra0 a1_0
    cases h
    exact (goodv_spec_l9Place fu (⟨(⟨za0_1, na0_1, fa0_1⟩ : (Sl S_impl_Node)), (⟨za0_2, na0_2, fa0_2⟩ : (Sl S_impl_Mail)), (⟨za0_3, na0_3, fa0_3⟩ : (Sl S_impl_Won)), (⟨za0_4, na0_4, fa0_4⟩ : (Sl S_impl_Seal))⟩ : S_impl_Cluster) a1_0 y hy).sub ⟨Sub.of_eq ra0 rfl, .refl _, trivial⟩
  · cases h

/-! spec.l8Zeros -/
def F_spec_l8Zeros (fu : Nat) (m_0 : S_impl_Mail) : Option (Bool) :=
  (bif (m_0.Kind == 1) then (some (m_0.Commit == 0)) else (bif (m_0.Kind == 2) then (((bif (m_0.Index == 0) then (bif (m_0.Last == 0) then (some (m_0.Commit == 0)) else (some false)) else
    (some false)) : Option Bool).bind fun m152 => (some m152)) else (bif (m_0.Kind == 4) then (((bif (m_0.Last == 0) then (some (m_0.Commit == 0)) else (some false)) : Option Bool).bind fun m153 =>
    (some m153)) else (some true))))
def pc_spec_l8Zeros (fu : Nat) : Pc RT den := fun f xs => none
def msk_spec_l8Zeros (b : Nat) : List Nat := match b with | 200005 => [2] | 200007 => [2] | _ => []
def lp_spec_l8Zeros (fu : Nat) : Lp RT den (Bool) := fun b s k => none
theorem ev_spec_l8Zeros (fu : Nat) (m_0 : S_impl_Mail) : evFun E (pc_spec_l8Zeros fu) msk_spec_l8Zeros (lp_spec_l8Zeros fu) out_bo 87 [(.agg [(.int .i64 m_0.Kind), (.int .i64 m_0.From), (.int .i64 m_0.To), (.int .i64 m_0.Term), (.int .i64 m_0.Index), (.int .i64 m_0.Last), (.int .i64 m_0.Commit), (.bool m_0.Ok), (.rs m_0.Entries.z .impl_Entry m_0.Entries.n m_0.Entries.f)])] = F_spec_l8Zeros fu m_0 := by kernel_rfl
noncomputable def body_spec_l8Zeros : Code := Try.f87.body.getD .skip
theorem lpok_spec_l8Zeros (fu : Nat) : LpOk E (pc_spec_l8Zeros fu) msk_spec_l8Zeros (lp_spec_l8Zeros fu) (loops 0 body_spec_l8Zeros) := by
  have h : loops 0 body_spec_l8Zeros = [] := by kernel_rfl
  rw [h]; intro p hp; cases hp
def S_spec_l8Zeros (fu : Nat) (xs : List (D RT den)) : Option (Out RT den) := match xs with | [.agg [.int .i64 a0_1, .int .i64 a0_2, .int .i64 a0_3, .int .i64 a0_4, .int .i64 a0_5, .int .i64 a0_6, .int .i64 a0_7, .bool a0_8, .rs za0_9 .impl_Entry na0_9 fa0_9]] => some ⟨Bool, F_spec_l8Zeros fu (⟨a0_1, a0_2, a0_3, a0_4, a0_5, a0_6, a0_7, a0_8, (⟨za0_9, na0_9, fa0_9⟩ : (Sl S_impl_Entry))⟩ : S_impl_Mail), enc_bo, fun _ => true⟩ | _ => none
theorem hpc_spec_l8Zeros (fu : Nat) : ∀ f xs o, pc_spec_l8Zeros fu f xs = some o → ∀ y, o.x = some y → Good E Try.prog f xs (o.g y) := by
  intro f xs o h
  cases h
theorem goodv_spec_l8Zeros (fu : Nat) (m_0 : S_impl_Mail) (y : Bool) (hy : F_spec_l8Zeros fu m_0 = some y) : Good E Try.prog 87 [(.agg [(.int .i64 m_0.Kind), (.int .i64 m_0.From), (.int .i64 m_0.To), (.int .i64 m_0.Term), (.int .i64 m_0.Index), (.int .i64 m_0.Last), (.int .i64 m_0.Commit), (.bool m_0.Ok), (.rs m_0.Entries.z .impl_Entry m_0.Entries.n m_0.Entries.f)])] (enc_bo y) :=
  fun_good E_ok (pc_good (hpc_spec_l8Zeros fu)) (fn := Try.f87) (c := body_spec_l8Zeros) (out := out_bo) (y := y) (by kernel_rfl) (by kernel_rfl) (by kernel_rfl) (lpok_spec_l8Zeros fu) (fun d hd => out_bo_enc d _ hd) ((ev_spec_l8Zeros fu m_0).trans hy)
theorem good_spec_l8Zeros (fu : Nat) : ∀ xs o, S_spec_l8Zeros fu xs = some o → ∀ y, o.x = some y → Good E Try.prog 87 xs (o.g y) := by
  intro xs o h y hy
  unfold S_spec_l8Zeros at h
  split at h
  · rename_i a0_1 a0_2 a0_3 a0_4 a0_5 a0_6 a0_7 a0_8 za0_9 na0_9 fa0_9
    cases h
    exact goodv_spec_l8Zeros fu (⟨a0_1, a0_2, a0_3, a0_4, a0_5, a0_6, a0_7, a0_8, (⟨za0_9, na0_9, fa0_9⟩ : (Sl S_impl_Entry))⟩ : S_impl_Mail) y hy
  · cases h
end Go.Proofs.Ytnfippmeficfjaa.Pc
