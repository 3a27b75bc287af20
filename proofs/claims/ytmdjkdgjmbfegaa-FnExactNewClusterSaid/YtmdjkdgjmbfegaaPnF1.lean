/- The functions' evaluated forms, each a proved summary. Conditions: none. -/
import Derived.Test.YtmdjkdgjmbfegaaPnF0
namespace Go.Proofs.Ytmdjkdgjmbfegaa.Pn
open Go Go.RowKit Go.Proofs Vm
set_option linter.unusedVariables false
set_option linter.unusedSimpArgs false
set_option maxRecDepth 100000
/-! laws.markCluster -/
def F_laws_markCluster_L (fu : Nat) (a_0_0 : Nat) (a_0_1 : Nat) (a_0_2 : Nat) (k_1_3 : Int) (rn0 : Nat) (rf0 : (Nat → S_impl_Node_0)) (rn1 : Nat) (rf1 : (Nat → S_impl_Won)) (rn2 : Nat) (rf2 : (Nat → S_impl_Seal)) : Option (Int × (Nat × (Nat → S_impl_Node_0)) × (Nat × (Nat → S_impl_Won)) × (Nat × (Nat → S_impl_Seal))) :=
  ((F_laws_markNodeS_L fu a_0_0 k_1_3 rn0 rf0).bind fun y43 => ((F_laws_markMailS_L fu y43.1).bind fun y44 => ((F_laws_markWonS_L fu a_0_1 y44 rn1 rf1).bind fun y47 =>
    ((F_laws_markSealS_L fu a_0_2 y47.1 rn2 rf2).bind fun y50 => (some (y50.1, (y43.2.1, y43.2.2), (y47.2.1, y47.2.2), (y50.2.1, y50.2.2)))))))
def pcf_laws_markCluster_L (fu : Nat) (f : Nat) (xs : List (D RT den)) : Option (Out RT den) := none
def pcx_laws_markCluster_L (fu : Nat) (f : Nat) (xs : List (D RT den)) (ins : List (Ob RT den)) : Option (OutX RT den) := match f with | 64 => S_laws_markMailS_L fu xs ins | 100 => S_laws_markNodeS_L fu xs ins | 101 => S_laws_markWonS_L fu xs ins | 102 => S_laws_markSealS_L fu xs ins | _ => none
def pc_laws_markCluster_L (fu : Nat) : Pc RT den := ⟨pcf_laws_markCluster_L fu, fun f => match f with | 64 => true | 100 => true | 101 => true | 102 => true | _ => false, fun f => match f with | 64 => true | 100 => true | 101 => true | 102 => true | _ => false, pcx_laws_markCluster_L fu⟩
def msk_laws_markCluster_L (b : Nat) : List Nat := []
def lp_laws_markCluster_L (fu : Nat) : Lp RT den (Int × (Nat × (Nat → S_impl_Node_0)) × (Nat × (Nat → S_impl_Won)) × (Nat × (Nat → S_impl_Seal))) := fun b s k => none
def out_laws_markCluster_L (d : D RT den) (os : List (Ob RT den)) : Option (Int × (Nat × (Nat → S_impl_Node_0)) × (Nat × (Nat → S_impl_Won)) × (Nat × (Nat → S_impl_Seal))) := match d, os with | .int .i64 a0_0, [.row true .impl_Node n0 f0, .row true .impl_Won n1 f1, .row true .impl_Seal n2 f2] => some (a0_0, (n0, f0), (n1, f1), (n2, f2)) | _, _ => none
def enc_laws_markCluster_L (y : Int × (Nat × (Nat → S_impl_Node_0)) × (Nat × (Nat → S_impl_Won)) × (Nat × (Nat → S_impl_Seal))) : D RT den × List (Ob RT den) := ((.int .i64 y.1), [(.row true .impl_Node y.2.1.1 y.2.1.2), (.row true .impl_Won y.2.2.1.1 y.2.2.1.2), (.row true .impl_Seal y.2.2.2.1 y.2.2.2.2)])
theorem out_laws_markCluster_L_enc (d : D RT den) (os : List (Ob RT den)) (y : Int × (Nat × (Nat → S_impl_Node_0)) × (Nat × (Nat → S_impl_Won)) × (Nat × (Nat → S_impl_Seal))) (h : out_laws_markCluster_L d os = some y) : (unh 3 d).1 = (enc_laws_markCluster_L y).1 ∧ os ++ (unh 3 d).2 = (enc_laws_markCluster_L y).2 := by
  unfold out_laws_markCluster_L at h
  split at h
  · cases h; exact ⟨rfl, rfl⟩
  · cases h
theorem ev_laws_markCluster_L (fu : Nat) (a_0_0 : Nat) (a_0_1 : Nat) (a_0_2 : Nat) (k_1_3 : Int) (rn0 : Nat) (rf0 : (Nat → S_impl_Node_0)) (rn1 : Nat) (rf1 : (Nat → S_impl_Won)) (rn2 : Nat) (rf2 : (Nat → S_impl_Seal)) : evFunX E false (pc_laws_markCluster_L fu) msk_laws_markCluster_L (lp_laws_markCluster_L fu) out_laws_markCluster_L 76 [(.agg [(.os 0 a_0_0), (.emp true .impl_Mail), (.os 1 a_0_1), (.os 2 a_0_2)]), (.int .i64 k_1_3)] [(.row true .impl_Node rn0 rf0), (.row true .impl_Won rn1 rf1), (.row true .impl_Seal rn2 rf2)] = F_laws_markCluster_L fu a_0_0 a_0_1 a_0_2 k_1_3 rn0 rf0 rn1 rf1 rn2 rf2 := by kernel_rfl
noncomputable def body_laws_markCluster_L : Code := Try.f76.body.getD .skip
theorem lpok_laws_markCluster_L (fu : Nat) : LpOk E (pc_laws_markCluster_L fu) msk_laws_markCluster_L (lp_laws_markCluster_L fu) (loops 0 body_laws_markCluster_L) := by
  have h : loops 0 body_laws_markCluster_L = [] := by kernel_rfl
  rw [h]; intro p hp; cases hp
def S_laws_markCluster_L (fu : Nat) (xs : List (D RT den)) (ins : List (Ob RT den)) : Option (OutX RT den) := match xs, ins with | [.agg [.os 0 a0_0, .emp true .impl_Mail, .os 1 a0_1, .os 2 a0_2], .int .i64 a1_0], [.row true .impl_Node rn0 rf0, .row true .impl_Won rn1 rf1, .row true .impl_Seal rn2 rf2] => some ⟨Int × (Nat × (Nat → S_impl_Node_0)) × (Nat × (Nat → S_impl_Won)) × (Nat × (Nat → S_impl_Seal)), F_laws_markCluster_L fu a0_0 a0_1 a0_2 a1_0 rn0 rf0 rn1 rf1 rn2 rf2, enc_laws_markCluster_L⟩ | _, _ => none
theorem hpc_laws_markCluster_L (fu : Nat) : ∀ f xs o, pcf_laws_markCluster_L fu f xs = some o → ∀ y, o.x = some y → Good E Try.prog f xs (o.g y) := by
  intro f xs o h
  cases h
theorem hpx_laws_markCluster_L (fu : Nat) : ∀ f xs ins o, pcx_laws_markCluster_L fu f xs ins = some o → ∀ y, o.x = some y → GoodX E Try.prog f xs ins (o.g y).1 (o.g y).2 := by
  intro f xs ins o h
  unfold pcx_laws_markCluster_L at h
  split at h
  · exact good_laws_markMailS_L fu xs ins o h
  · exact good_laws_markNodeS_L fu xs ins o h
  · exact good_laws_markWonS_L fu xs ins o h
  · exact good_laws_markSealS_L fu xs ins o h
  · cases h
theorem goodv_laws_markCluster_L (fu : Nat) (a_0_0 : Nat) (a_0_1 : Nat) (a_0_2 : Nat) (k_1_3 : Int) (rn0 : Nat) (rf0 : (Nat → S_impl_Node_0)) (rn1 : Nat) (rf1 : (Nat → S_impl_Won)) (rn2 : Nat) (rf2 : (Nat → S_impl_Seal)) (y : Int × (Nat × (Nat → S_impl_Node_0)) × (Nat × (Nat → S_impl_Won)) × (Nat × (Nat → S_impl_Seal))) (hy : F_laws_markCluster_L fu a_0_0 a_0_1 a_0_2 k_1_3 rn0 rf0 rn1 rf1 rn2 rf2 = some y) : GoodX E Try.prog 76 [(.agg [(.os 0 a_0_0), (.emp true .impl_Mail), (.os 1 a_0_1), (.os 2 a_0_2)]), (.int .i64 k_1_3)] [(.row true .impl_Node rn0 rf0), (.row true .impl_Won rn1 rf1), (.row true .impl_Seal rn2 rf2)] (enc_laws_markCluster_L y).1 (enc_laws_markCluster_L y).2 :=
  funX_good (ke := false) E_ok (pc_good (pc := pc_laws_markCluster_L fu) (hpc_laws_markCluster_L fu) (hpx_laws_markCluster_L fu)) (fn := Try.f76) (c := body_laws_markCluster_L) (out := out_laws_markCluster_L) (y := y) (by kernel_rfl) (by kernel_rfl) (by kernel_rfl) (lpok_laws_markCluster_L fu) (by kernel_rfl) (Nat.le_refl _) (fun d os hd => out_laws_markCluster_L_enc d os _ hd) ((ev_laws_markCluster_L fu a_0_0 a_0_1 a_0_2 k_1_3 rn0 rf0 rn1 rf1 rn2 rf2).trans hy)
theorem good_laws_markCluster_L (fu : Nat) : ∀ xs ins o, S_laws_markCluster_L fu xs ins = some o → ∀ y, o.x = some y → GoodX E Try.prog 76 xs ins (o.g y).1 (o.g y).2 := by
  intro xs ins o h y hy
  unfold S_laws_markCluster_L at h
  split at h
  · rename_i a0_0 a0_1 a0_2 a1_0 rn0 rf0 rn1 rf1 rn2 rf2
    cases h
    exact goodv_laws_markCluster_L fu a0_0 a0_1 a0_2 a1_0 rn0 rf0 rn1 rf1 rn2 rf2 y hy
  · cases h

/-! laws.markClusterResult -/
def F_laws_markClusterResult_L (fu : Nat) (a_0_0 : Int) (a_0_1 : Nat) (a_0_2 : Nat) (a_0_3 : Nat) (k_1_4 : Int) (rn0 : Nat) (rf0 : (Nat → S_impl_Node_0)) (rn1 : Nat) (rf1 : (Nat → S_impl_Won)) (rn2 : Nat) (rf2 : (Nat → S_impl_Seal)) : Option (Int × (Nat × (Nat → S_impl_Node_0)) × (Nat × (Nat → S_impl_Won)) × (Nat × (Nat → S_impl_Seal))) :=
  ((F_laws_markCluster_L fu a_0_1 a_0_2 a_0_3 k_1_4 rn0 rf0 rn1 rf1 rn2 rf2).bind fun y51 => (some (y51.1, (y51.2.1.1, y51.2.1.2), (y51.2.2.1.1, y51.2.2.1.2), (y51.2.2.2.1,
    y51.2.2.2.2))))
def pcf_laws_markClusterResult_L (fu : Nat) (f : Nat) (xs : List (D RT den)) : Option (Out RT den) := none
def pcx_laws_markClusterResult_L (fu : Nat) (f : Nat) (xs : List (D RT den)) (ins : List (Ob RT den)) : Option (OutX RT den) := match f with | 76 => S_laws_markCluster_L fu xs ins | _ => none
def pc_laws_markClusterResult_L (fu : Nat) : Pc RT den := ⟨pcf_laws_markClusterResult_L fu, fun f => match f with | 76 => true | _ => false, fun f => match f with | 76 => true | _ => false, pcx_laws_markClusterResult_L fu⟩
def msk_laws_markClusterResult_L (b : Nat) : List Nat := []
def lp_laws_markClusterResult_L (fu : Nat) : Lp RT den (Int × (Nat × (Nat → S_impl_Node_0)) × (Nat × (Nat → S_impl_Won)) × (Nat × (Nat → S_impl_Seal))) := fun b s k => none
def out_laws_markClusterResult_L (d : D RT den) (os : List (Ob RT den)) : Option (Int × (Nat × (Nat → S_impl_Node_0)) × (Nat × (Nat → S_impl_Won)) × (Nat × (Nat → S_impl_Seal))) := match d, os with | .int .i64 a0_0, [.row true .impl_Node n0 f0, .row true .impl_Won n1 f1, .row true .impl_Seal n2 f2] => some (a0_0, (n0, f0), (n1, f1), (n2, f2)) | _, _ => none
def enc_laws_markClusterResult_L (y : Int × (Nat × (Nat → S_impl_Node_0)) × (Nat × (Nat → S_impl_Won)) × (Nat × (Nat → S_impl_Seal))) : D RT den × List (Ob RT den) := ((.int .i64 y.1), [(.row true .impl_Node y.2.1.1 y.2.1.2), (.row true .impl_Won y.2.2.1.1 y.2.2.1.2), (.row true .impl_Seal y.2.2.2.1 y.2.2.2.2)])
theorem out_laws_markClusterResult_L_enc (d : D RT den) (os : List (Ob RT den)) (y : Int × (Nat × (Nat → S_impl_Node_0)) × (Nat × (Nat → S_impl_Won)) × (Nat × (Nat → S_impl_Seal))) (h : out_laws_markClusterResult_L d os = some y) : (unh 3 d).1 = (enc_laws_markClusterResult_L y).1 ∧ os ++ (unh 3 d).2 = (enc_laws_markClusterResult_L y).2 := by
  unfold out_laws_markClusterResult_L at h
  split at h
  · cases h; exact ⟨rfl, rfl⟩
  · cases h
theorem ev_laws_markClusterResult_L (fu : Nat) (a_0_0 : Int) (a_0_1 : Nat) (a_0_2 : Nat) (a_0_3 : Nat) (k_1_4 : Int) (rn0 : Nat) (rf0 : (Nat → S_impl_Node_0)) (rn1 : Nat) (rf1 : (Nat → S_impl_Won)) (rn2 : Nat) (rf2 : (Nat → S_impl_Seal)) : evFunX E false (pc_laws_markClusterResult_L fu) msk_laws_markClusterResult_L (lp_laws_markClusterResult_L fu) out_laws_markClusterResult_L 39 [(.agg [(.int .i64 a_0_0), (.os 0 a_0_1), (.emp true .impl_Mail), (.os 1 a_0_2), (.os 2 a_0_3)]), (.int .i64 k_1_4)] [(.row true .impl_Node rn0 rf0), (.row true .impl_Won rn1 rf1), (.row true .impl_Seal rn2 rf2)] = F_laws_markClusterResult_L fu a_0_0 a_0_1 a_0_2 a_0_3 k_1_4 rn0 rf0 rn1 rf1 rn2 rf2 := by kernel_rfl
noncomputable def body_laws_markClusterResult_L : Code := Try.f39.body.getD .skip
theorem lpok_laws_markClusterResult_L (fu : Nat) : LpOk E (pc_laws_markClusterResult_L fu) msk_laws_markClusterResult_L (lp_laws_markClusterResult_L fu) (loops 0 body_laws_markClusterResult_L) := by
  have h : loops 0 body_laws_markClusterResult_L = [] := by kernel_rfl
  rw [h]; intro p hp; cases hp
def S_laws_markClusterResult_L (fu : Nat) (xs : List (D RT den)) (ins : List (Ob RT den)) : Option (OutX RT den) := match xs, ins with | [.agg [.int .i64 a0_0, .os 0 a0_1, .emp true .impl_Mail, .os 1 a0_2, .os 2 a0_3], .int .i64 a1_0], [.row true .impl_Node rn0 rf0, .row true .impl_Won rn1 rf1, .row true .impl_Seal rn2 rf2] => some ⟨Int × (Nat × (Nat → S_impl_Node_0)) × (Nat × (Nat → S_impl_Won)) × (Nat × (Nat → S_impl_Seal)), F_laws_markClusterResult_L fu a0_0 a0_1 a0_2 a0_3 a1_0 rn0 rf0 rn1 rf1 rn2 rf2, enc_laws_markClusterResult_L⟩ | _, _ => none
theorem hpc_laws_markClusterResult_L (fu : Nat) : ∀ f xs o, pcf_laws_markClusterResult_L fu f xs = some o → ∀ y, o.x = some y → Good E Try.prog f xs (o.g y) := by
  intro f xs o h
  cases h
theorem hpx_laws_markClusterResult_L (fu : Nat) : ∀ f xs ins o, pcx_laws_markClusterResult_L fu f xs ins = some o → ∀ y, o.x = some y → GoodX E Try.prog f xs ins (o.g y).1 (o.g y).2 := by
  intro f xs ins o h
  unfold pcx_laws_markClusterResult_L at h
  split at h
  · exact good_laws_markCluster_L fu xs ins o h
  · cases h
theorem goodv_laws_markClusterResult_L (fu : Nat) (a_0_0 : Int) (a_0_1 : Nat) (a_0_2 : Nat) (a_0_3 : Nat) (k_1_4 : Int) (rn0 : Nat) (rf0 : (Nat → S_impl_Node_0)) (rn1 : Nat) (rf1 : (Nat → S_impl_Won)) (rn2 : Nat) (rf2 : (Nat → S_impl_Seal)) (y : Int × (Nat × (Nat → S_impl_Node_0)) × (Nat × (Nat → S_impl_Won)) × (Nat × (Nat → S_impl_Seal))) (hy : F_laws_markClusterResult_L fu a_0_0 a_0_1 a_0_2 a_0_3 k_1_4 rn0 rf0 rn1 rf1 rn2 rf2 = some y) : GoodX E Try.prog 39 [(.agg [(.int .i64 a_0_0), (.os 0 a_0_1), (.emp true .impl_Mail), (.os 1 a_0_2), (.os 2 a_0_3)]), (.int .i64 k_1_4)] [(.row true .impl_Node rn0 rf0), (.row true .impl_Won rn1 rf1), (.row true .impl_Seal rn2 rf2)] (enc_laws_markClusterResult_L y).1 (enc_laws_markClusterResult_L y).2 :=
  funX_good (ke := false) E_ok (pc_good (pc := pc_laws_markClusterResult_L fu) (hpc_laws_markClusterResult_L fu) (hpx_laws_markClusterResult_L fu)) (fn := Try.f39) (c := body_laws_markClusterResult_L) (out := out_laws_markClusterResult_L) (y := y) (by kernel_rfl) (by kernel_rfl) (by kernel_rfl) (lpok_laws_markClusterResult_L fu) (by kernel_rfl) (Nat.le_refl _) (fun d os hd => out_laws_markClusterResult_L_enc d os _ hd) ((ev_laws_markClusterResult_L fu a_0_0 a_0_1 a_0_2 a_0_3 k_1_4 rn0 rf0 rn1 rf1 rn2 rf2).trans hy)
theorem good_laws_markClusterResult_L (fu : Nat) : ∀ xs ins o, S_laws_markClusterResult_L fu xs ins = some o → ∀ y, o.x = some y → GoodX E Try.prog 39 xs ins (o.g y).1 (o.g y).2 := by
  intro xs ins o h y hy
  unfold S_laws_markClusterResult_L at h
  split at h
  · rename_i a0_0 a0_1 a0_2 a0_3 a1_0 rn0 rf0 rn1 rf1 rn2 rf2
    cases h
    exact goodv_laws_markClusterResult_L fu a0_0 a0_1 a0_2 a0_3 a1_0 rn0 rf0 rn1 rf1 rn2 rf2 y hy
  · cases h

/-! laws.eqCmd -/
def F_laws_eqCmd (fu : Nat) (a_0 : S_impl_Cmd) (b_1 : S_impl_Cmd) : Option (Bool) :=
  (bif (a_0.Kind != b_1.Kind) then (some false) else (bif (a_0.Expect != b_1.Expect) then (some false) else (bif (a_0.Name != b_1.Name) then (some false) else (bif (a_0.Addr != b_1.Addr) then
    (some false) else (bif (a_0.Number != b_1.Number) then (some false) else (bif (a_0.Proto != b_1.Proto) then (some false) else (some true)))))))
def pcf_laws_eqCmd (fu : Nat) (f : Nat) (xs : List (D RT den)) : Option (Out RT den) := none
def pcx_laws_eqCmd (fu : Nat) (f : Nat) (xs : List (D RT den)) (ins : List (Ob RT den)) : Option (OutX RT den) := none
def pc_laws_eqCmd (fu : Nat) : Pc RT den := ⟨pcf_laws_eqCmd fu, fun _ => false, fun _ => false, pcx_laws_eqCmd fu⟩
def msk_laws_eqCmd (b : Nat) : List Nat := []
def lp_laws_eqCmd (fu : Nat) : Lp RT den (Bool) := fun b s k => none
theorem ev_laws_eqCmd (fu : Nat) (a_0 : S_impl_Cmd) (b_1 : S_impl_Cmd) : evFun E (pc_laws_eqCmd fu) msk_laws_eqCmd (lp_laws_eqCmd fu) out_bo 81 [(.agg [(.int .i64 a_0.Kind), (.int .i64 a_0.Expect), (.int .i64 a_0.Name), (.int .i64 a_0.Addr), (.int .i64 a_0.Number), (.int .i64 a_0.Proto)]), (.agg [(.int .i64 b_1.Kind), (.int .i64 b_1.Expect), (.int .i64 b_1.Name), (.int .i64 b_1.Addr), (.int .i64 b_1.Number), (.int .i64 b_1.Proto)])] = F_laws_eqCmd fu a_0 b_1 := by kernel_rfl
noncomputable def body_laws_eqCmd : Code := Try.f81.body.getD .skip
theorem lpok_laws_eqCmd (fu : Nat) : LpOk E (pc_laws_eqCmd fu) msk_laws_eqCmd (lp_laws_eqCmd fu) (loops 0 body_laws_eqCmd) := by
  have h : loops 0 body_laws_eqCmd = [] := by kernel_rfl
  rw [h]; intro p hp; cases hp
def S_laws_eqCmd (fu : Nat) (xs : List (D RT den)) : Option (Out RT den) := match xs with | [.agg [.int .i64 a0_1, .int .i64 a0_2, .int .i64 a0_3, .int .i64 a0_4, .int .i64 a0_5, .int .i64 a0_6], .agg [.int .i64 a1_1, .int .i64 a1_2, .int .i64 a1_3, .int .i64 a1_4, .int .i64 a1_5, .int .i64 a1_6]] => some ⟨Bool, F_laws_eqCmd fu (⟨a0_1, a0_2, a0_3, a0_4, a0_5, a0_6⟩ : S_impl_Cmd) (⟨a1_1, a1_2, a1_3, a1_4, a1_5, a1_6⟩ : S_impl_Cmd), enc_bo, fun _ => true⟩ | _ => none
theorem hpc_laws_eqCmd (fu : Nat) : ∀ f xs o, pcf_laws_eqCmd fu f xs = some o → ∀ y, o.x = some y → Good E Try.prog f xs (o.g y) := by
  intro f xs o h
  cases h
theorem hpx_laws_eqCmd (fu : Nat) : ∀ f xs ins o, pcx_laws_eqCmd fu f xs ins = some o → ∀ y, o.x = some y → GoodX E Try.prog f xs ins (o.g y).1 (o.g y).2 := by
  intro f xs ins o h
  cases h
theorem goodv_laws_eqCmd (fu : Nat) (a_0 : S_impl_Cmd) (b_1 : S_impl_Cmd) (y : Bool) (hy : F_laws_eqCmd fu a_0 b_1 = some y) : Good E Try.prog 81 [(.agg [(.int .i64 a_0.Kind), (.int .i64 a_0.Expect), (.int .i64 a_0.Name), (.int .i64 a_0.Addr), (.int .i64 a_0.Number), (.int .i64 a_0.Proto)]), (.agg [(.int .i64 b_1.Kind), (.int .i64 b_1.Expect), (.int .i64 b_1.Name), (.int .i64 b_1.Addr), (.int .i64 b_1.Number), (.int .i64 b_1.Proto)])] (enc_bo y) :=
  fun_good E_ok (pc_good (pc := pc_laws_eqCmd fu) (hpc_laws_eqCmd fu) (hpx_laws_eqCmd fu)) (fn := Try.f81) (c := body_laws_eqCmd) (out := out_bo) (y := y) (by kernel_rfl) (by kernel_rfl) (by kernel_rfl) (lpok_laws_eqCmd fu) (fun d hd => out_bo_enc d _ hd) ((ev_laws_eqCmd fu a_0 b_1).trans hy)
theorem good_laws_eqCmd (fu : Nat) : ∀ xs o, S_laws_eqCmd fu xs = some o → ∀ y, o.x = some y → Good E Try.prog 81 xs (o.g y) := by
  intro xs o h y hy
  unfold S_laws_eqCmd at h
  split at h
  · rename_i a0_1 a0_2 a0_3 a0_4 a0_5 a0_6 a1_1 a1_2 a1_3 a1_4 a1_5 a1_6
    cases h
    exact goodv_laws_eqCmd fu (⟨a0_1, a0_2, a0_3, a0_4, a0_5, a0_6⟩ : S_impl_Cmd) (⟨a1_1, a1_2, a1_3, a1_4, a1_5, a1_6⟩ : S_impl_Cmd) y hy
  · cases h

/-! laws.eqEntry -/
def F_laws_eqEntry (fu : Nat) (a_0 : S_impl_Entry) (b_1 : S_impl_Entry) : Option (Bool) :=
  (bif (a_0.Term != b_1.Term) then (some false) else (bif (a_0.Client != b_1.Client) then (some false) else (bif (a_0.Seq != b_1.Seq) then (some false) else ((F_laws_eqCmd fu a_0.Cmd b_1.Cmd).bind fun y68 =>
    (bif (!y68) then (some false) else (some true))))))
def pcf_laws_eqEntry (fu : Nat) (f : Nat) (xs : List (D RT den)) : Option (Out RT den) := match f with | 81 => S_laws_eqCmd fu xs | _ => none
def pcx_laws_eqEntry (fu : Nat) (f : Nat) (xs : List (D RT den)) (ins : List (Ob RT den)) : Option (OutX RT den) := none
def pc_laws_eqEntry (fu : Nat) : Pc RT den := ⟨pcf_laws_eqEntry fu, fun _ => false, fun _ => false, pcx_laws_eqEntry fu⟩
def msk_laws_eqEntry (b : Nat) : List Nat := []
def lp_laws_eqEntry (fu : Nat) : Lp RT den (Bool) := fun b s k => none
theorem ev_laws_eqEntry (fu : Nat) (a_0 : S_impl_Entry) (b_1 : S_impl_Entry) : evFun E (pc_laws_eqEntry fu) msk_laws_eqEntry (lp_laws_eqEntry fu) out_bo 47 [(.agg [(.int .i64 a_0.Term), (.int .i64 a_0.Client), (.int .i64 a_0.Seq), (.int .i64 a_0.Cmd.Kind), (.int .i64 a_0.Cmd.Expect), (.int .i64 a_0.Cmd.Name), (.int .i64 a_0.Cmd.Addr), (.int .i64 a_0.Cmd.Number), (.int .i64 a_0.Cmd.Proto)]), (.agg [(.int .i64 b_1.Term), (.int .i64 b_1.Client), (.int .i64 b_1.Seq), (.int .i64 b_1.Cmd.Kind), (.int .i64 b_1.Cmd.Expect), (.int .i64 b_1.Cmd.Name), (.int .i64 b_1.Cmd.Addr), (.int .i64 b_1.Cmd.Number), (.int .i64 b_1.Cmd.Proto)])] = F_laws_eqEntry fu a_0 b_1 := by kernel_rfl
noncomputable def body_laws_eqEntry : Code := Try.f47.body.getD .skip
theorem lpok_laws_eqEntry (fu : Nat) : LpOk E (pc_laws_eqEntry fu) msk_laws_eqEntry (lp_laws_eqEntry fu) (loops 0 body_laws_eqEntry) := by
  have h : loops 0 body_laws_eqEntry = [] := by kernel_rfl
  rw [h]; intro p hp; cases hp
def S_laws_eqEntry (fu : Nat) (xs : List (D RT den)) : Option (Out RT den) := match xs with | [.agg [.int .i64 a0_1, .int .i64 a0_2, .int .i64 a0_3, .int .i64 a0_5, .int .i64 a0_6, .int .i64 a0_7, .int .i64 a0_8, .int .i64 a0_9, .int .i64 a0_10], .agg [.int .i64 a1_1, .int .i64 a1_2, .int .i64 a1_3, .int .i64 a1_5, .int .i64 a1_6, .int .i64 a1_7, .int .i64 a1_8, .int .i64 a1_9, .int .i64 a1_10]] => some ⟨Bool, F_laws_eqEntry fu (⟨a0_1, a0_2, a0_3, (⟨a0_5, a0_6, a0_7, a0_8, a0_9, a0_10⟩ : S_impl_Cmd)⟩ : S_impl_Entry) (⟨a1_1, a1_2, a1_3, (⟨a1_5, a1_6, a1_7, a1_8, a1_9, a1_10⟩ : S_impl_Cmd)⟩ : S_impl_Entry), enc_bo, fun _ => true⟩ | _ => none
theorem hpc_laws_eqEntry (fu : Nat) : ∀ f xs o, pcf_laws_eqEntry fu f xs = some o → ∀ y, o.x = some y → Good E Try.prog f xs (o.g y) := by
  intro f xs o h
  unfold pcf_laws_eqEntry at h
  split at h
  · exact good_laws_eqCmd fu xs o h
  · cases h
theorem hpx_laws_eqEntry (fu : Nat) : ∀ f xs ins o, pcx_laws_eqEntry fu f xs ins = some o → ∀ y, o.x = some y → GoodX E Try.prog f xs ins (o.g y).1 (o.g y).2 := by
  intro f xs ins o h
  cases h
theorem goodv_laws_eqEntry (fu : Nat) (a_0 : S_impl_Entry) (b_1 : S_impl_Entry) (y : Bool) (hy : F_laws_eqEntry fu a_0 b_1 = some y) : Good E Try.prog 47 [(.agg [(.int .i64 a_0.Term), (.int .i64 a_0.Client), (.int .i64 a_0.Seq), (.int .i64 a_0.Cmd.Kind), (.int .i64 a_0.Cmd.Expect), (.int .i64 a_0.Cmd.Name), (.int .i64 a_0.Cmd.Addr), (.int .i64 a_0.Cmd.Number), (.int .i64 a_0.Cmd.Proto)]), (.agg [(.int .i64 b_1.Term), (.int .i64 b_1.Client), (.int .i64 b_1.Seq), (.int .i64 b_1.Cmd.Kind), (.int .i64 b_1.Cmd.Expect), (.int .i64 b_1.Cmd.Name), (.int .i64 b_1.Cmd.Addr), (.int .i64 b_1.Cmd.Number), (.int .i64 b_1.Cmd.Proto)])] (enc_bo y) :=
  fun_good E_ok (pc_good (pc := pc_laws_eqEntry fu) (hpc_laws_eqEntry fu) (hpx_laws_eqEntry fu)) (fn := Try.f47) (c := body_laws_eqEntry) (out := out_bo) (y := y) (by kernel_rfl) (by kernel_rfl) (by kernel_rfl) (lpok_laws_eqEntry fu) (fun d hd => out_bo_enc d _ hd) ((ev_laws_eqEntry fu a_0 b_1).trans hy)
theorem good_laws_eqEntry (fu : Nat) : ∀ xs o, S_laws_eqEntry fu xs = some o → ∀ y, o.x = some y → Good E Try.prog 47 xs (o.g y) := by
  intro xs o h y hy
  unfold S_laws_eqEntry at h
  split at h
  · rename_i a0_1 a0_2 a0_3 a0_5 a0_6 a0_7 a0_8 a0_9 a0_10 a1_1 a1_2 a1_3 a1_5 a1_6 a1_7 a1_8 a1_9 a1_10
    cases h
    exact goodv_laws_eqEntry fu (⟨a0_1, a0_2, a0_3, (⟨a0_5, a0_6, a0_7, a0_8, a0_9, a0_10⟩ : S_impl_Cmd)⟩ : S_impl_Entry) (⟨a1_1, a1_2, a1_3, (⟨a1_5, a1_6, a1_7, a1_8, a1_9, a1_10⟩ : S_impl_Cmd)⟩ : S_impl_Entry) y hy
  · cases h

/-! laws.eqEntryS -/
def F_laws_eqEntryS_B0 {ρ : Type} (fu : Nat) (a0_0 : (Sl S_impl_Entry)) (b1_1 : (Sl S_impl_Entry)) (k0 : Option ρ) (k1 : Option ρ) (i5_2 : Int) (go : Int → Option ρ) : Option ρ :=
  (bif (decide (i5_2 < ((a0_0.n : Nat) : Int))) then ((bif (decide (0 ≤ i5_2) && decide ((Int.toNat i5_2) < a0_0.n)) then some () else none : Option Unit).bind fun _ => ((bif (decide (0 ≤ i5_2) &&
    decide ((Int.toNat i5_2) < b1_1.n)) then some () else none : Option Unit).bind fun _ => ((F_laws_eqEntry fu (a0_0.f (Int.toNat i5_2)) (b1_1.f (Int.toNat i5_2))).bind fun y67 =>
    (bif (!y67) then k0 else (go (IntKind.wrap .i64 (i5_2 + 1))))))) else k1)
def F_laws_eqEntryS (fu : Nat) (a_0 : (Sl S_impl_Entry)) (b_1 : (Sl S_impl_Entry)) : Option (Bool) :=
  (bif (((a_0.n : Nat) : Int) != ((b_1.n : Nat) : Int)) then (some false) else (L (fun w0 go0 => F_laws_eqEntryS_B0 fu a_0 b_1 (some false) (some true) w0 go0) fu (0 : Int)))
def pcf_laws_eqEntryS (fu : Nat) (f : Nat) (xs : List (D RT den)) : Option (Out RT den) := match f with | 47 => S_laws_eqEntry fu xs | _ => none
def pcx_laws_eqEntryS (fu : Nat) (f : Nat) (xs : List (D RT den)) (ins : List (Ob RT den)) : Option (OutX RT den) := none
def pc_laws_eqEntryS (fu : Nat) : Pc RT den := ⟨pcf_laws_eqEntryS fu, fun _ => false, fun _ => false, pcx_laws_eqEntryS fu⟩
def msk_laws_eqEntryS (b : Nat) : List Nat := match b with | 0 => [2, 3, 4, 6, 7, 8, 9, 10, 11, 12, 13, 14, 15, 16, 17, 18, 19, 20, 21, 22, 23, 24, 25, 26] | 100000 => [0, 1, 2, 3, 5, 6, 7, 8, 9, 10, 11, 12, 13, 14, 15, 16, 17, 18, 19, 20, 21, 22, 23, 24, 25, 26] | _ => []
def ps_laws_eqEntryS_0 : List (Pat RT) := [.flat (.rs .impl_Entry), .flat (.rs .impl_Entry), .flat .dead, .flat .dead, .flat .dead, .flat (.int .i64), .flat .dead, .flat .dead, .flat .dead, .flat .dead, .flat .dead, .flat .dead, .flat .dead, .flat .dead, .flat .dead, .flat .dead, .flat .dead, .flat .dead, .flat .dead, .flat .dead, .flat .dead, .flat .dead, .flat .dead, .flat .dead, .flat .dead, .flat .dead, .flat .dead]
def os_laws_eqEntryS_0 : List (OP RT) := []
def conv_laws_eqEntryS_0 (r : Raw den ps_laws_eqEntryS_0 os_laws_eqEntryS_0) : ((Sl S_impl_Entry) × (Sl S_impl_Entry)) × (Int) := ((r.1.1, r.1.2.1), r.1.2.2.2.2.2.1)
def back_laws_eqEntryS_0 (c : (Sl S_impl_Entry) × (Sl S_impl_Entry)) (w : Int) : St RT den := ⟨[(.rs c.1.z .impl_Entry c.1.n c.1.f), (.rs c.2.z .impl_Entry c.2.n c.2.f), .dead, .dead, .dead, (.int .i64 w), .dead, .dead, .dead, .dead, .dead, .dead, .dead, .dead, .dead, .dead, .dead, .dead, .dead, .dead, .dead, .dead, .dead, .dead, .dead, .dead, .dead], []⟩
def Bk_laws_eqEntryS_0 {ρ : Type} (fu : Nat) (c : (Sl S_impl_Entry) × (Sl S_impl_Entry)) (k : Ex → St RT den → Option ρ) (w : Int) (go : (Int) → Option ρ) : Option ρ := F_laws_eqEntryS_B0 fu c.1 c.2 (k .ret ⟨[.dead, .dead, .dead, .dead, (.bool false), .dead, .dead, .dead, .dead, .dead, .dead, .dead, .dead, .dead, .dead, .dead, .dead, .dead, .dead, .dead, .dead, .dead, .dead, .dead, .dead, .dead, .dead], []⟩) (k (.exit 0) ⟨[.dead, .dead, .dead, .dead, .dead, .dead, .dead, .dead, .dead, .dead, .dead, .dead, .dead, .dead, .dead, .dead, .dead, .dead, .dead, .dead, .dead, .dead, .dead, .dead, .dead, .dead, .dead], []⟩) w go
def lp_laws_eqEntryS (fu : Nat) : Lp RT den (Bool) := fun b s k => match b with | 0 => handle ps_laws_eqEntryS_0 os_laws_eqEntryS_0 conv_laws_eqEntryS_0 (Bk_laws_eqEntryS_0 fu) fu s k | _ => none
theorem ev_laws_eqEntryS (fu : Nat) (a_0 : (Sl S_impl_Entry)) (b_1 : (Sl S_impl_Entry)) : evFun E (pc_laws_eqEntryS fu) msk_laws_eqEntryS (lp_laws_eqEntryS fu) out_bo 13 [(.rs a_0.z .impl_Entry a_0.n a_0.f), (.rs b_1.z .impl_Entry b_1.n b_1.f)] = F_laws_eqEntryS fu a_0 b_1 := by kernel_rfl
noncomputable def body_laws_eqEntryS : Code := Try.f13.body.getD .skip
noncomputable def lc_laws_eqEntryS_0 : Code := ((loops 0 body_laws_eqEntryS).getD 0 (0, .skip)).2
theorem round_laws_eqEntryS_0 (fu : Nat) (it : St RT den → Option (Bool)) (k : Ex → St RT den → Option (Bool)) c w : evCode E (pc_laws_eqEntryS fu) msk_laws_eqEntryS (lp_laws_eqEntryS fu) 0 lc_laws_eqEntryS_0 (back_laws_eqEntryS_0 c w) (after (msk_laws_eqEntryS 0) (msk_laws_eqEntryS 100000) 0 it k) = Bk_laws_eqEntryS_0 fu c k w (fun w => it (back_laws_eqEntryS_0 c w)) := by kernel_rfl
theorem lpok_laws_eqEntryS_0 (fu : Nat) : ∀ s k r, lp_laws_eqEntryS fu 0 s k = some r → ∃ fuel, iter (msk_laws_eqEntryS 0) (msk_laws_eqEntryS 100000) s.objs.length (evCode E (pc_laws_eqEntryS fu) msk_laws_eqEntryS (lp_laws_eqEntryS fu) 0 lc_laws_eqEntryS_0) fuel s k = some r :=
  handle_ok (ps := ps_laws_eqEntryS_0) (os := os_laws_eqEntryS_0) (conv := conv_laws_eqEntryS_0) (B := Bk_laws_eqEntryS_0 fu) (fu := fu) back_laws_eqEntryS_0 (fun raw => by kernel_rfl) 0 (fun c w => by kernel_rfl) (round_laws_eqEntryS_0 fu)
theorem lpok_laws_eqEntryS (fu : Nat) : LpOk E (pc_laws_eqEntryS fu) msk_laws_eqEntryS (lp_laws_eqEntryS fu) (loops 0 body_laws_eqEntryS) := loop_all 1 (by kernel_rfl) fun i hi => match i, hi with
  | 0, _ => by
    have h : (loops 0 body_laws_eqEntryS).getD 0 (0, .skip) = (0, lc_laws_eqEntryS_0) := by kernel_rfl
    rw [h]; exact lpok_laws_eqEntryS_0 fu
  | i + 1, hi => absurd hi (by omega)
def S_laws_eqEntryS (fu : Nat) (xs : List (D RT den)) : Option (Out RT den) := match xs with | [.rs za0_0 .impl_Entry na0_0 fa0_0, .rs za1_0 .impl_Entry na1_0 fa1_0] => some ⟨Bool, F_laws_eqEntryS fu (⟨za0_0, na0_0, fa0_0⟩ : (Sl S_impl_Entry)) (⟨za1_0, na1_0, fa1_0⟩ : (Sl S_impl_Entry)), enc_bo, fun _ => true⟩ | _ => none
theorem hpc_laws_eqEntryS (fu : Nat) : ∀ f xs o, pcf_laws_eqEntryS fu f xs = some o → ∀ y, o.x = some y → Good E Try.prog f xs (o.g y) := by
  intro f xs o h
  unfold pcf_laws_eqEntryS at h
  split at h
  · exact good_laws_eqEntry fu xs o h
  · cases h
theorem hpx_laws_eqEntryS (fu : Nat) : ∀ f xs ins o, pcx_laws_eqEntryS fu f xs ins = some o → ∀ y, o.x = some y → GoodX E Try.prog f xs ins (o.g y).1 (o.g y).2 := by
  intro f xs ins o h
  cases h
theorem goodv_laws_eqEntryS (fu : Nat) (a_0 : (Sl S_impl_Entry)) (b_1 : (Sl S_impl_Entry)) (y : Bool) (hy : F_laws_eqEntryS fu a_0 b_1 = some y) : Good E Try.prog 13 [(.rs a_0.z .impl_Entry a_0.n a_0.f), (.rs b_1.z .impl_Entry b_1.n b_1.f)] (enc_bo y) :=
  fun_good E_ok (pc_good (pc := pc_laws_eqEntryS fu) (hpc_laws_eqEntryS fu) (hpx_laws_eqEntryS fu)) (fn := Try.f13) (c := body_laws_eqEntryS) (out := out_bo) (y := y) (by kernel_rfl) (by kernel_rfl) (by kernel_rfl) (lpok_laws_eqEntryS fu) (fun d hd => out_bo_enc d _ hd) ((ev_laws_eqEntryS fu a_0 b_1).trans hy)
theorem good_laws_eqEntryS (fu : Nat) : ∀ xs o, S_laws_eqEntryS fu xs = some o → ∀ y, o.x = some y → Good E Try.prog 13 xs (o.g y) := by
  intro xs o h y hy
  unfold S_laws_eqEntryS at h
  split at h
  · rename_i za0_0 na0_0 fa0_0 za1_0 na1_0 fa1_0
    cases h
    exact goodv_laws_eqEntryS fu (⟨za0_0, na0_0, fa0_0⟩ : (Sl S_impl_Entry)) (⟨za1_0, na1_0, fa1_0⟩ : (Sl S_impl_Entry)) y hy
  · cases h

/-! laws.eqInt64S -/
def F_laws_eqInt64S_B0 {ρ : Type} (fu : Nat) (a0_0 : (Sl Int)) (b1_1 : (Sl Int)) (k0 : Option ρ) (k1 : Option ρ) (i5_2 : Int) (go : Int → Option ρ) : Option ρ :=
  (bif (decide (i5_2 < ((a0_0.n : Nat) : Int))) then ((bif (decide (0 ≤ i5_2) && decide ((Int.toNat i5_2) < a0_0.n)) then some () else none : Option Unit).bind fun _ => ((bif (decide (0 ≤ i5_2) &&
    decide ((Int.toNat i5_2) < b1_1.n)) then some () else none : Option Unit).bind fun _ => (bif ((a0_0.f (Int.toNat i5_2)) != (b1_1.f (Int.toNat i5_2))) then k0 else (go (IntKind.wrap .i64 (i5_2 + 1)))))) else
    k1)
def F_laws_eqInt64S (fu : Nat) (a_0 : (Sl Int)) (b_1 : (Sl Int)) : Option (Bool) :=
  (bif (((a_0.n : Nat) : Int) != ((b_1.n : Nat) : Int)) then (some false) else (L (fun w0 go0 => F_laws_eqInt64S_B0 fu a_0 b_1 (some false) (some true) w0 go0) fu (0 : Int)))
def pcf_laws_eqInt64S (fu : Nat) (f : Nat) (xs : List (D RT den)) : Option (Out RT den) := none
def pcx_laws_eqInt64S (fu : Nat) (f : Nat) (xs : List (D RT den)) (ins : List (Ob RT den)) : Option (OutX RT den) := none
def pc_laws_eqInt64S (fu : Nat) : Pc RT den := ⟨pcf_laws_eqInt64S fu, fun _ => false, fun _ => false, pcx_laws_eqInt64S fu⟩
def msk_laws_eqInt64S (b : Nat) : List Nat := match b with | 0 => [2, 3, 4, 6, 7, 8, 9, 10, 11, 12, 13, 14, 15, 16, 17, 18, 19, 20, 21, 22, 23, 24, 25] | 100000 => [0, 1, 2, 3, 5, 6, 7, 8, 9, 10, 11, 12, 13, 14, 15, 16, 17, 18, 19, 20, 21, 22, 23, 24, 25] | _ => []
def ps_laws_eqInt64S_0 : List (Pat RT) := [.flat (.rs .i64), .flat (.rs .i64), .flat .dead, .flat .dead, .flat .dead, .flat (.int .i64), .flat .dead, .flat .dead, .flat .dead, .flat .dead, .flat .dead, .flat .dead, .flat .dead, .flat .dead, .flat .dead, .flat .dead, .flat .dead, .flat .dead, .flat .dead, .flat .dead, .flat .dead, .flat .dead, .flat .dead, .flat .dead, .flat .dead, .flat .dead]
def os_laws_eqInt64S_0 : List (OP RT) := []
def conv_laws_eqInt64S_0 (r : Raw den ps_laws_eqInt64S_0 os_laws_eqInt64S_0) : ((Sl Int) × (Sl Int)) × (Int) := ((r.1.1, r.1.2.1), r.1.2.2.2.2.2.1)
def back_laws_eqInt64S_0 (c : (Sl Int) × (Sl Int)) (w : Int) : St RT den := ⟨[(.rs c.1.z .i64 c.1.n c.1.f), (.rs c.2.z .i64 c.2.n c.2.f), .dead, .dead, .dead, (.int .i64 w), .dead, .dead, .dead, .dead, .dead, .dead, .dead, .dead, .dead, .dead, .dead, .dead, .dead, .dead, .dead, .dead, .dead, .dead, .dead, .dead], []⟩
def Bk_laws_eqInt64S_0 {ρ : Type} (fu : Nat) (c : (Sl Int) × (Sl Int)) (k : Ex → St RT den → Option ρ) (w : Int) (go : (Int) → Option ρ) : Option ρ := F_laws_eqInt64S_B0 fu c.1 c.2 (k .ret ⟨[.dead, .dead, .dead, .dead, (.bool false), .dead, .dead, .dead, .dead, .dead, .dead, .dead, .dead, .dead, .dead, .dead, .dead, .dead, .dead, .dead, .dead, .dead, .dead, .dead, .dead, .dead], []⟩) (k (.exit 0) ⟨[.dead, .dead, .dead, .dead, .dead, .dead, .dead, .dead, .dead, .dead, .dead, .dead, .dead, .dead, .dead, .dead, .dead, .dead, .dead, .dead, .dead, .dead, .dead, .dead, .dead, .dead], []⟩) w go
def lp_laws_eqInt64S (fu : Nat) : Lp RT den (Bool) := fun b s k => match b with | 0 => handle ps_laws_eqInt64S_0 os_laws_eqInt64S_0 conv_laws_eqInt64S_0 (Bk_laws_eqInt64S_0 fu) fu s k | _ => none
theorem ev_laws_eqInt64S (fu : Nat) (a_0 : (Sl Int)) (b_1 : (Sl Int)) : evFun E (pc_laws_eqInt64S fu) msk_laws_eqInt64S (lp_laws_eqInt64S fu) out_bo 72 [(.rs a_0.z .i64 a_0.n a_0.f), (.rs b_1.z .i64 b_1.n b_1.f)] = F_laws_eqInt64S fu a_0 b_1 := by kernel_rfl
noncomputable def body_laws_eqInt64S : Code := Try.f72.body.getD .skip
noncomputable def lc_laws_eqInt64S_0 : Code := ((loops 0 body_laws_eqInt64S).getD 0 (0, .skip)).2
theorem round_laws_eqInt64S_0 (fu : Nat) (it : St RT den → Option (Bool)) (k : Ex → St RT den → Option (Bool)) c w : evCode E (pc_laws_eqInt64S fu) msk_laws_eqInt64S (lp_laws_eqInt64S fu) 0 lc_laws_eqInt64S_0 (back_laws_eqInt64S_0 c w) (after (msk_laws_eqInt64S 0) (msk_laws_eqInt64S 100000) 0 it k) = Bk_laws_eqInt64S_0 fu c k w (fun w => it (back_laws_eqInt64S_0 c w)) := by kernel_rfl
theorem lpok_laws_eqInt64S_0 (fu : Nat) : ∀ s k r, lp_laws_eqInt64S fu 0 s k = some r → ∃ fuel, iter (msk_laws_eqInt64S 0) (msk_laws_eqInt64S 100000) s.objs.length (evCode E (pc_laws_eqInt64S fu) msk_laws_eqInt64S (lp_laws_eqInt64S fu) 0 lc_laws_eqInt64S_0) fuel s k = some r :=
  handle_ok (ps := ps_laws_eqInt64S_0) (os := os_laws_eqInt64S_0) (conv := conv_laws_eqInt64S_0) (B := Bk_laws_eqInt64S_0 fu) (fu := fu) back_laws_eqInt64S_0 (fun raw => by kernel_rfl) 0 (fun c w => by kernel_rfl) (round_laws_eqInt64S_0 fu)
theorem lpok_laws_eqInt64S (fu : Nat) : LpOk E (pc_laws_eqInt64S fu) msk_laws_eqInt64S (lp_laws_eqInt64S fu) (loops 0 body_laws_eqInt64S) := loop_all 1 (by kernel_rfl) fun i hi => match i, hi with
  | 0, _ => by
    have h : (loops 0 body_laws_eqInt64S).getD 0 (0, .skip) = (0, lc_laws_eqInt64S_0) := by kernel_rfl
    rw [h]; exact lpok_laws_eqInt64S_0 fu
  | i + 1, hi => absurd hi (by omega)
def S_laws_eqInt64S (fu : Nat) (xs : List (D RT den)) : Option (Out RT den) := match xs with | [.rs za0_0 .i64 na0_0 fa0_0, .rs za1_0 .i64 na1_0 fa1_0] => some ⟨Bool, F_laws_eqInt64S fu (⟨za0_0, na0_0, fa0_0⟩ : (Sl Int)) (⟨za1_0, na1_0, fa1_0⟩ : (Sl Int)), enc_bo, fun _ => true⟩ | _ => none
theorem hpc_laws_eqInt64S (fu : Nat) : ∀ f xs o, pcf_laws_eqInt64S fu f xs = some o → ∀ y, o.x = some y → Good E Try.prog f xs (o.g y) := by
  intro f xs o h
  cases h
theorem hpx_laws_eqInt64S (fu : Nat) : ∀ f xs ins o, pcx_laws_eqInt64S fu f xs ins = some o → ∀ y, o.x = some y → GoodX E Try.prog f xs ins (o.g y).1 (o.g y).2 := by
  intro f xs ins o h
  cases h
theorem goodv_laws_eqInt64S (fu : Nat) (a_0 : (Sl Int)) (b_1 : (Sl Int)) (y : Bool) (hy : F_laws_eqInt64S fu a_0 b_1 = some y) : Good E Try.prog 72 [(.rs a_0.z .i64 a_0.n a_0.f), (.rs b_1.z .i64 b_1.n b_1.f)] (enc_bo y) :=
  fun_good E_ok (pc_good (pc := pc_laws_eqInt64S fu) (hpc_laws_eqInt64S fu) (hpx_laws_eqInt64S fu)) (fn := Try.f72) (c := body_laws_eqInt64S) (out := out_bo) (y := y) (by kernel_rfl) (by kernel_rfl) (by kernel_rfl) (lpok_laws_eqInt64S fu) (fun d hd => out_bo_enc d _ hd) ((ev_laws_eqInt64S fu a_0 b_1).trans hy)
theorem good_laws_eqInt64S (fu : Nat) : ∀ xs o, S_laws_eqInt64S fu xs = some o → ∀ y, o.x = some y → Good E Try.prog 72 xs (o.g y) := by
  intro xs o h y hy
  unfold S_laws_eqInt64S at h
  split at h
  · rename_i za0_0 na0_0 fa0_0 za1_0 na1_0 fa1_0
    cases h
    exact goodv_laws_eqInt64S fu (⟨za0_0, na0_0, fa0_0⟩ : (Sl Int)) (⟨za1_0, na1_0, fa1_0⟩ : (Sl Int)) y hy
  · cases h

/-! laws.eqNode -/
def F_laws_eqNode (fu : Nat) (a_0 : S_impl_Node) (b_1 : S_impl_Node) : Option (Bool) :=
  (bif (a_0.Id != b_1.Id) then (some false) else (bif (a_0.Peers != b_1.Peers) then (some false) else (bif (a_0.Term != b_1.Term) then (some false) else (bif (a_0.Voted != b_1.Voted) then
    (some false) else ((F_laws_eqEntryS fu a_0.Log b_1.Log).bind fun y63 => (bif (!y63) then (some false) else (bif (a_0.Role != b_1.Role) then (some false) else (bif (a_0.Commit != b_1.Commit) then
    (some false) else ((F_laws_eqInt64S fu a_0.Votes b_1.Votes).bind fun y64 => (bif (!y64) then (some false) else ((F_laws_eqInt64S fu a_0.Next b_1.Next).bind fun y65 => (bif (!y65) then
    (some false) else ((F_laws_eqInt64S fu a_0.Match b_1.Match).bind fun y66 => (bif (!y66) then (some false) else (some true)))))))))))))))
def pcf_laws_eqNode (fu : Nat) (f : Nat) (xs : List (D RT den)) : Option (Out RT den) := match f with | 13 => S_laws_eqEntryS fu xs | 72 => S_laws_eqInt64S fu xs | _ => none
def pcx_laws_eqNode (fu : Nat) (f : Nat) (xs : List (D RT den)) (ins : List (Ob RT den)) : Option (OutX RT den) := none
def pc_laws_eqNode (fu : Nat) : Pc RT den := ⟨pcf_laws_eqNode fu, fun _ => false, fun _ => false, pcx_laws_eqNode fu⟩
def msk_laws_eqNode (b : Nat) : List Nat := []
def lp_laws_eqNode (fu : Nat) : Lp RT den (Bool) := fun b s k => none
theorem ev_laws_eqNode (fu : Nat) (a_0 : S_impl_Node) (b_1 : S_impl_Node) : evFun E (pc_laws_eqNode fu) msk_laws_eqNode (lp_laws_eqNode fu) out_bo 34 [(.agg [(.int .i64 a_0.Id), (.int .i64 a_0.Peers), (.int .i64 a_0.Term), (.int .i64 a_0.Voted), (.rs a_0.Log.z .impl_Entry a_0.Log.n a_0.Log.f), (.int .i64 a_0.Role), (.int .i64 a_0.Commit), (.rs a_0.Votes.z .i64 a_0.Votes.n a_0.Votes.f), (.rs a_0.Next.z .i64 a_0.Next.n a_0.Next.f), (.rs a_0.Match.z .i64 a_0.Match.n a_0.Match.f)]), (.agg [(.int .i64 b_1.Id), (.int .i64 b_1.Peers), (.int .i64 b_1.Term), (.int .i64 b_1.Voted), (.rs b_1.Log.z .impl_Entry b_1.Log.n b_1.Log.f), (.int .i64 b_1.Role), (.int .i64 b_1.Commit), (.rs b_1.Votes.z .i64 b_1.Votes.n b_1.Votes.f), (.rs b_1.Next.z .i64 b_1.Next.n b_1.Next.f), (.rs b_1.Match.z .i64 b_1.Match.n b_1.Match.f)])] = F_laws_eqNode fu a_0 b_1 := by kernel_rfl
noncomputable def body_laws_eqNode : Code := Try.f34.body.getD .skip
theorem lpok_laws_eqNode (fu : Nat) : LpOk E (pc_laws_eqNode fu) msk_laws_eqNode (lp_laws_eqNode fu) (loops 0 body_laws_eqNode) := by
  have h : loops 0 body_laws_eqNode = [] := by kernel_rfl
  rw [h]; intro p hp; cases hp
def S_laws_eqNode (fu : Nat) (xs : List (D RT den)) : Option (Out RT den) := match xs with | [.agg [.int .i64 a0_1, .int .i64 a0_2, .int .i64 a0_3, .int .i64 a0_4, .rs za0_5 .impl_Entry na0_5 fa0_5, .int .i64 a0_6, .int .i64 a0_7, .rs za0_8 .i64 na0_8 fa0_8, .rs za0_9 .i64 na0_9 fa0_9, .rs za0_10 .i64 na0_10 fa0_10], .agg [.int .i64 a1_1, .int .i64 a1_2, .int .i64 a1_3, .int .i64 a1_4, .rs za1_5 .impl_Entry na1_5 fa1_5, .int .i64 a1_6, .int .i64 a1_7, .rs za1_8 .i64 na1_8 fa1_8, .rs za1_9 .i64 na1_9 fa1_9, .rs za1_10 .i64 na1_10 fa1_10]] => some ⟨Bool, F_laws_eqNode fu (⟨a0_1, a0_2, a0_3, a0_4, (⟨za0_5, na0_5, fa0_5⟩ : (Sl S_impl_Entry)), a0_6, a0_7, (⟨za0_8, na0_8, fa0_8⟩ : (Sl Int)), (⟨za0_9, na0_9, fa0_9⟩ : (Sl Int)), (⟨za0_10, na0_10, fa0_10⟩ : (Sl Int))⟩ : S_impl_Node) (⟨a1_1, a1_2, a1_3, a1_4, (⟨za1_5, na1_5, fa1_5⟩ : (Sl S_impl_Entry)), a1_6, a1_7, (⟨za1_8, na1_8, fa1_8⟩ : (Sl Int)), (⟨za1_9, na1_9, fa1_9⟩ : (Sl Int)), (⟨za1_10, na1_10, fa1_10⟩ : (Sl Int))⟩ : S_impl_Node), enc_bo, fun _ => true⟩ | _ => none
theorem hpc_laws_eqNode (fu : Nat) : ∀ f xs o, pcf_laws_eqNode fu f xs = some o → ∀ y, o.x = some y → Good E Try.prog f xs (o.g y) := by
  intro f xs o h
  unfold pcf_laws_eqNode at h
  split at h
  · exact good_laws_eqEntryS fu xs o h
  · exact good_laws_eqInt64S fu xs o h
  · cases h
theorem hpx_laws_eqNode (fu : Nat) : ∀ f xs ins o, pcx_laws_eqNode fu f xs ins = some o → ∀ y, o.x = some y → GoodX E Try.prog f xs ins (o.g y).1 (o.g y).2 := by
  intro f xs ins o h
  cases h
theorem goodv_laws_eqNode (fu : Nat) (a_0 : S_impl_Node) (b_1 : S_impl_Node) (y : Bool) (hy : F_laws_eqNode fu a_0 b_1 = some y) : Good E Try.prog 34 [(.agg [(.int .i64 a_0.Id), (.int .i64 a_0.Peers), (.int .i64 a_0.Term), (.int .i64 a_0.Voted), (.rs a_0.Log.z .impl_Entry a_0.Log.n a_0.Log.f), (.int .i64 a_0.Role), (.int .i64 a_0.Commit), (.rs a_0.Votes.z .i64 a_0.Votes.n a_0.Votes.f), (.rs a_0.Next.z .i64 a_0.Next.n a_0.Next.f), (.rs a_0.Match.z .i64 a_0.Match.n a_0.Match.f)]), (.agg [(.int .i64 b_1.Id), (.int .i64 b_1.Peers), (.int .i64 b_1.Term), (.int .i64 b_1.Voted), (.rs b_1.Log.z .impl_Entry b_1.Log.n b_1.Log.f), (.int .i64 b_1.Role), (.int .i64 b_1.Commit), (.rs b_1.Votes.z .i64 b_1.Votes.n b_1.Votes.f), (.rs b_1.Next.z .i64 b_1.Next.n b_1.Next.f), (.rs b_1.Match.z .i64 b_1.Match.n b_1.Match.f)])] (enc_bo y) :=
  fun_good E_ok (pc_good (pc := pc_laws_eqNode fu) (hpc_laws_eqNode fu) (hpx_laws_eqNode fu)) (fn := Try.f34) (c := body_laws_eqNode) (out := out_bo) (y := y) (by kernel_rfl) (by kernel_rfl) (by kernel_rfl) (lpok_laws_eqNode fu) (fun d hd => out_bo_enc d _ hd) ((ev_laws_eqNode fu a_0 b_1).trans hy)
theorem good_laws_eqNode (fu : Nat) : ∀ xs o, S_laws_eqNode fu xs = some o → ∀ y, o.x = some y → Good E Try.prog 34 xs (o.g y) := by
  intro xs o h y hy
  unfold S_laws_eqNode at h
  split at h
  · rename_i a0_1 a0_2 a0_3 a0_4 za0_5 na0_5 fa0_5 a0_6 a0_7 za0_8 na0_8 fa0_8 za0_9 na0_9 fa0_9 za0_10 na0_10 fa0_10 a1_1 a1_2 a1_3 a1_4 za1_5 na1_5 fa1_5 a1_6 a1_7 za1_8 na1_8 fa1_8 za1_9 na1_9 fa1_9 za1_10 na1_10 fa1_10
    cases h
    exact goodv_laws_eqNode fu (⟨a0_1, a0_2, a0_3, a0_4, (⟨za0_5, na0_5, fa0_5⟩ : (Sl S_impl_Entry)), a0_6, a0_7, (⟨za0_8, na0_8, fa0_8⟩ : (Sl Int)), (⟨za0_9, na0_9, fa0_9⟩ : (Sl Int)), (⟨za0_10, na0_10, fa0_10⟩ : (Sl Int))⟩ : S_impl_Node) (⟨a1_1, a1_2, a1_3, a1_4, (⟨za1_5, na1_5, fa1_5⟩ : (Sl S_impl_Entry)), a1_6, a1_7, (⟨za1_8, na1_8, fa1_8⟩ : (Sl Int)), (⟨za1_9, na1_9, fa1_9⟩ : (Sl Int)), (⟨za1_10, na1_10, fa1_10⟩ : (Sl Int))⟩ : S_impl_Node) y hy
  · cases h

/-! laws.eqNodeS -/
def F_laws_eqNodeS_B0 {ρ : Type} (fu : Nat) (a0_0 : (Sl S_impl_Node_0)) (b1_1 : (Sl S_impl_Node_0)) (k0 : Option ρ) (k1 : Option ρ) (i5_2 : Int) (go : Int → Option ρ) : Option ρ :=
  (bif (decide (i5_2 < ((a0_0.n : Nat) : Int))) then ((bif (decide (0 ≤ i5_2) && decide ((Int.toNat i5_2) < a0_0.n)) then some () else none : Option Unit).bind fun _ => ((bif (decide (0 ≤ i5_2) &&
    decide ((Int.toNat i5_2) < b1_1.n)) then some () else none : Option Unit).bind fun _ => ((F_laws_eqNode fu (⟨(a0_0.f (Int.toNat i5_2)).Id, (a0_0.f (Int.toNat i5_2)).Peers,
    (a0_0.f (Int.toNat i5_2)).Term, (a0_0.f (Int.toNat i5_2)).Voted, (⟨(some true), 0, (fun _ => dflt .impl_Entry)⟩ : (Sl S_impl_Entry)), (a0_0.f (Int.toNat i5_2)).Role, (a0_0.f (Int.toNat i5_2)).Commit,
    (⟨(some true), 0, (fun _ => dflt .i64)⟩ : (Sl Int)), (⟨(some true), 0, (fun _ => dflt .i64)⟩ : (Sl Int)), (⟨(some true), 0, (fun _ => dflt .i64)⟩ : (Sl Int))⟩ : S_impl_Node) (⟨(b1_1.f (Int.toNat i5_2)).Id,
    (b1_1.f (Int.toNat i5_2)).Peers, (b1_1.f (Int.toNat i5_2)).Term, (b1_1.f (Int.toNat i5_2)).Voted, (⟨(some true), 0, (fun _ => dflt .impl_Entry)⟩ : (Sl S_impl_Entry)), (b1_1.f (Int.toNat i5_2)).Role,
    (b1_1.f (Int.toNat i5_2)).Commit, (⟨(some true), 0, (fun _ => dflt .i64)⟩ : (Sl Int)), (⟨(some true), 0, (fun _ => dflt .i64)⟩ : (Sl Int)), (⟨(some true), 0, (fun _ => dflt .i64)⟩ : (Sl Int))⟩ : S_impl_Node)).bind fun y62 =>
    (bif (!y62) then k0 else (go (IntKind.wrap .i64 (i5_2 + 1))))))) else k1)
def F_laws_eqNodeS (fu : Nat) (a_0 : (Sl S_impl_Node_0)) (b_1 : (Sl S_impl_Node_0)) : Option (Bool) :=
  (bif (((a_0.n : Nat) : Int) != ((b_1.n : Nat) : Int)) then (some false) else (L (fun w0 go0 => F_laws_eqNodeS_B0 fu a_0 b_1 (some false) (some true) w0 go0) fu (0 : Int)))
def pcf_laws_eqNodeS (fu : Nat) (f : Nat) (xs : List (D RT den)) : Option (Out RT den) := match f with | 34 => S_laws_eqNode fu xs | _ => none
def pcx_laws_eqNodeS (fu : Nat) (f : Nat) (xs : List (D RT den)) (ins : List (Ob RT den)) : Option (OutX RT den) := none
def pc_laws_eqNodeS (fu : Nat) : Pc RT den := ⟨pcf_laws_eqNodeS fu, fun _ => false, fun _ => false, pcx_laws_eqNodeS fu⟩
def msk_laws_eqNodeS (b : Nat) : List Nat := match b with | 0 => [2, 3, 4, 6, 7, 8, 9, 10, 11, 12, 13, 14, 15, 16, 17, 18, 19, 20, 21, 22, 23, 24, 25, 26] | 100000 => [0, 1, 2, 3, 5, 6, 7, 8, 9, 10, 11, 12, 13, 14, 15, 16, 17, 18, 19, 20, 21, 22, 23, 24, 25, 26] | _ => []
def ps_laws_eqNodeS_0 : List (Pat RT) := [.flat (.rs .impl_Node), .flat (.rs .impl_Node), .flat .dead, .flat .dead, .flat .dead, .flat (.int .i64), .flat .dead, .flat .dead, .flat .dead, .flat .dead, .flat .dead, .flat .dead, .flat .dead, .flat .dead, .flat .dead, .flat .dead, .flat .dead, .flat .dead, .flat .dead, .flat .dead, .flat .dead, .flat .dead, .flat .dead, .flat .dead, .flat .dead, .flat .dead, .flat .dead]
def os_laws_eqNodeS_0 : List (OP RT) := []
def conv_laws_eqNodeS_0 (r : Raw den ps_laws_eqNodeS_0 os_laws_eqNodeS_0) : ((Sl S_impl_Node_0) × (Sl S_impl_Node_0)) × (Int) := ((r.1.1, r.1.2.1), r.1.2.2.2.2.2.1)
def back_laws_eqNodeS_0 (c : (Sl S_impl_Node_0) × (Sl S_impl_Node_0)) (w : Int) : St RT den := ⟨[(.rs c.1.z .impl_Node c.1.n c.1.f), (.rs c.2.z .impl_Node c.2.n c.2.f), .dead, .dead, .dead, (.int .i64 w), .dead, .dead, .dead, .dead, .dead, .dead, .dead, .dead, .dead, .dead, .dead, .dead, .dead, .dead, .dead, .dead, .dead, .dead, .dead, .dead, .dead], []⟩
def Bk_laws_eqNodeS_0 {ρ : Type} (fu : Nat) (c : (Sl S_impl_Node_0) × (Sl S_impl_Node_0)) (k : Ex → St RT den → Option ρ) (w : Int) (go : (Int) → Option ρ) : Option ρ := F_laws_eqNodeS_B0 fu c.1 c.2 (k .ret ⟨[.dead, .dead, .dead, .dead, (.bool false), .dead, .dead, .dead, .dead, .dead, .dead, .dead, .dead, .dead, .dead, .dead, .dead, .dead, .dead, .dead, .dead, .dead, .dead, .dead, .dead, .dead, .dead], []⟩) (k (.exit 0) ⟨[.dead, .dead, .dead, .dead, .dead, .dead, .dead, .dead, .dead, .dead, .dead, .dead, .dead, .dead, .dead, .dead, .dead, .dead, .dead, .dead, .dead, .dead, .dead, .dead, .dead, .dead, .dead], []⟩) w go
def lp_laws_eqNodeS (fu : Nat) : Lp RT den (Bool) := fun b s k => match b with | 0 => handle ps_laws_eqNodeS_0 os_laws_eqNodeS_0 conv_laws_eqNodeS_0 (Bk_laws_eqNodeS_0 fu) fu s k | _ => none
theorem ev_laws_eqNodeS (fu : Nat) (a_0 : (Sl S_impl_Node_0)) (b_1 : (Sl S_impl_Node_0)) : evFun E (pc_laws_eqNodeS fu) msk_laws_eqNodeS (lp_laws_eqNodeS fu) out_bo 97 [(.rs a_0.z .impl_Node a_0.n a_0.f), (.rs b_1.z .impl_Node b_1.n b_1.f)] = F_laws_eqNodeS fu a_0 b_1 := by kernel_rfl
noncomputable def body_laws_eqNodeS : Code := Try.f97.body.getD .skip
noncomputable def lc_laws_eqNodeS_0 : Code := ((loops 0 body_laws_eqNodeS).getD 0 (0, .skip)).2
theorem round_laws_eqNodeS_0 (fu : Nat) (it : St RT den → Option (Bool)) (k : Ex → St RT den → Option (Bool)) c w : evCode E (pc_laws_eqNodeS fu) msk_laws_eqNodeS (lp_laws_eqNodeS fu) 0 lc_laws_eqNodeS_0 (back_laws_eqNodeS_0 c w) (after (msk_laws_eqNodeS 0) (msk_laws_eqNodeS 100000) 0 it k) = Bk_laws_eqNodeS_0 fu c k w (fun w => it (back_laws_eqNodeS_0 c w)) := by kernel_rfl
theorem lpok_laws_eqNodeS_0 (fu : Nat) : ∀ s k r, lp_laws_eqNodeS fu 0 s k = some r → ∃ fuel, iter (msk_laws_eqNodeS 0) (msk_laws_eqNodeS 100000) s.objs.length (evCode E (pc_laws_eqNodeS fu) msk_laws_eqNodeS (lp_laws_eqNodeS fu) 0 lc_laws_eqNodeS_0) fuel s k = some r :=
  handle_ok (ps := ps_laws_eqNodeS_0) (os := os_laws_eqNodeS_0) (conv := conv_laws_eqNodeS_0) (B := Bk_laws_eqNodeS_0 fu) (fu := fu) back_laws_eqNodeS_0 (fun raw => by kernel_rfl) 0 (fun c w => by kernel_rfl) (round_laws_eqNodeS_0 fu)
theorem lpok_laws_eqNodeS (fu : Nat) : LpOk E (pc_laws_eqNodeS fu) msk_laws_eqNodeS (lp_laws_eqNodeS fu) (loops 0 body_laws_eqNodeS) := loop_all 1 (by kernel_rfl) fun i hi => match i, hi with
  | 0, _ => by
    have h : (loops 0 body_laws_eqNodeS).getD 0 (0, .skip) = (0, lc_laws_eqNodeS_0) := by kernel_rfl
    rw [h]; exact lpok_laws_eqNodeS_0 fu
  | i + 1, hi => absurd hi (by omega)
def S_laws_eqNodeS (fu : Nat) (xs : List (D RT den)) : Option (Out RT den) := match xs with | [.rs za0_0 .impl_Node na0_0 fa0_0, .rs za1_0 .impl_Node na1_0 fa1_0] => some ⟨Bool, F_laws_eqNodeS fu (⟨za0_0, na0_0, fa0_0⟩ : (Sl S_impl_Node_0)) (⟨za1_0, na1_0, fa1_0⟩ : (Sl S_impl_Node_0)), enc_bo, fun _ => true⟩ | _ => none
theorem hpc_laws_eqNodeS (fu : Nat) : ∀ f xs o, pcf_laws_eqNodeS fu f xs = some o → ∀ y, o.x = some y → Good E Try.prog f xs (o.g y) := by
  intro f xs o h
  unfold pcf_laws_eqNodeS at h
  split at h
  · exact good_laws_eqNode fu xs o h
  · cases h
theorem hpx_laws_eqNodeS (fu : Nat) : ∀ f xs ins o, pcx_laws_eqNodeS fu f xs ins = some o → ∀ y, o.x = some y → GoodX E Try.prog f xs ins (o.g y).1 (o.g y).2 := by
  intro f xs ins o h
  cases h
theorem goodv_laws_eqNodeS (fu : Nat) (a_0 : (Sl S_impl_Node_0)) (b_1 : (Sl S_impl_Node_0)) (y : Bool) (hy : F_laws_eqNodeS fu a_0 b_1 = some y) : Good E Try.prog 97 [(.rs a_0.z .impl_Node a_0.n a_0.f), (.rs b_1.z .impl_Node b_1.n b_1.f)] (enc_bo y) :=
  fun_good E_ok (pc_good (pc := pc_laws_eqNodeS fu) (hpc_laws_eqNodeS fu) (hpx_laws_eqNodeS fu)) (fn := Try.f97) (c := body_laws_eqNodeS) (out := out_bo) (y := y) (by kernel_rfl) (by kernel_rfl) (by kernel_rfl) (lpok_laws_eqNodeS fu) (fun d hd => out_bo_enc d _ hd) ((ev_laws_eqNodeS fu a_0 b_1).trans hy)
theorem good_laws_eqNodeS (fu : Nat) : ∀ xs o, S_laws_eqNodeS fu xs = some o → ∀ y, o.x = some y → Good E Try.prog 97 xs (o.g y) := by
  intro xs o h y hy
  unfold S_laws_eqNodeS at h
  split at h
  · rename_i za0_0 na0_0 fa0_0 za1_0 na1_0 fa1_0
    cases h
    exact goodv_laws_eqNodeS fu (⟨za0_0, na0_0, fa0_0⟩ : (Sl S_impl_Node_0)) (⟨za1_0, na1_0, fa1_0⟩ : (Sl S_impl_Node_0)) y hy
  · cases h

/-! laws.eqMail -/
def F_laws_eqMail (fu : Nat) (a_0 : S_impl_Mail) (b_1 : S_impl_Mail) : Option (Bool) :=
  (bif (a_0.Kind != b_1.Kind) then (some false) else (bif (a_0.From != b_1.From) then (some false) else (bif (a_0.To != b_1.To) then (some false) else (bif (a_0.Term != b_1.Term) then
    (some false) else (bif (a_0.Index != b_1.Index) then (some false) else (bif (a_0.Last != b_1.Last) then (some false) else (bif (a_0.Commit != b_1.Commit) then (some false) else
    (bif (!(a_0.Ok == b_1.Ok)) then (some false) else ((F_laws_eqEntryS fu a_0.Entries b_1.Entries).bind fun y70 => (bif (!y70) then (some false) else (some true)))))))))))
def pcf_laws_eqMail (fu : Nat) (f : Nat) (xs : List (D RT den)) : Option (Out RT den) := match f with | 13 => S_laws_eqEntryS fu xs | _ => none
def pcx_laws_eqMail (fu : Nat) (f : Nat) (xs : List (D RT den)) (ins : List (Ob RT den)) : Option (OutX RT den) := none
def pc_laws_eqMail (fu : Nat) : Pc RT den := ⟨pcf_laws_eqMail fu, fun _ => false, fun _ => false, pcx_laws_eqMail fu⟩
def msk_laws_eqMail (b : Nat) : List Nat := []
def lp_laws_eqMail (fu : Nat) : Lp RT den (Bool) := fun b s k => none
theorem ev_laws_eqMail (fu : Nat) (a_0 : S_impl_Mail) (b_1 : S_impl_Mail) : evFun E (pc_laws_eqMail fu) msk_laws_eqMail (lp_laws_eqMail fu) out_bo 87 [(.agg [(.int .i64 a_0.Kind), (.int .i64 a_0.From), (.int .i64 a_0.To), (.int .i64 a_0.Term), (.int .i64 a_0.Index), (.int .i64 a_0.Last), (.int .i64 a_0.Commit), (.bool a_0.Ok), (.rs a_0.Entries.z .impl_Entry a_0.Entries.n a_0.Entries.f)]), (.agg [(.int .i64 b_1.Kind), (.int .i64 b_1.From), (.int .i64 b_1.To), (.int .i64 b_1.Term), (.int .i64 b_1.Index), (.int .i64 b_1.Last), (.int .i64 b_1.Commit), (.bool b_1.Ok), (.rs b_1.Entries.z .impl_Entry b_1.Entries.n b_1.Entries.f)])] = F_laws_eqMail fu a_0 b_1 := by kernel_rfl
noncomputable def body_laws_eqMail : Code := Try.f87.body.getD .skip
theorem lpok_laws_eqMail (fu : Nat) : LpOk E (pc_laws_eqMail fu) msk_laws_eqMail (lp_laws_eqMail fu) (loops 0 body_laws_eqMail) := by
  have h : loops 0 body_laws_eqMail = [] := by kernel_rfl
  rw [h]; intro p hp; cases hp
def S_laws_eqMail (fu : Nat) (xs : List (D RT den)) : Option (Out RT den) := match xs with | [.agg [.int .i64 a0_1, .int .i64 a0_2, .int .i64 a0_3, .int .i64 a0_4, .int .i64 a0_5, .int .i64 a0_6, .int .i64 a0_7, .bool a0_8, .rs za0_9 .impl_Entry na0_9 fa0_9], .agg [.int .i64 a1_1, .int .i64 a1_2, .int .i64 a1_3, .int .i64 a1_4, .int .i64 a1_5, .int .i64 a1_6, .int .i64 a1_7, .bool a1_8, .rs za1_9 .impl_Entry na1_9 fa1_9]] => some ⟨Bool, F_laws_eqMail fu (⟨a0_1, a0_2, a0_3, a0_4, a0_5, a0_6, a0_7, a0_8, (⟨za0_9, na0_9, fa0_9⟩ : (Sl S_impl_Entry))⟩ : S_impl_Mail) (⟨a1_1, a1_2, a1_3, a1_4, a1_5, a1_6, a1_7, a1_8, (⟨za1_9, na1_9, fa1_9⟩ : (Sl S_impl_Entry))⟩ : S_impl_Mail), enc_bo, fun _ => true⟩ | _ => none
theorem hpc_laws_eqMail (fu : Nat) : ∀ f xs o, pcf_laws_eqMail fu f xs = some o → ∀ y, o.x = some y → Good E Try.prog f xs (o.g y) := by
  intro f xs o h
  unfold pcf_laws_eqMail at h
  split at h
  · exact good_laws_eqEntryS fu xs o h
  · cases h
theorem hpx_laws_eqMail (fu : Nat) : ∀ f xs ins o, pcx_laws_eqMail fu f xs ins = some o → ∀ y, o.x = some y → GoodX E Try.prog f xs ins (o.g y).1 (o.g y).2 := by
  intro f xs ins o h
  cases h
theorem goodv_laws_eqMail (fu : Nat) (a_0 : S_impl_Mail) (b_1 : S_impl_Mail) (y : Bool) (hy : F_laws_eqMail fu a_0 b_1 = some y) : Good E Try.prog 87 [(.agg [(.int .i64 a_0.Kind), (.int .i64 a_0.From), (.int .i64 a_0.To), (.int .i64 a_0.Term), (.int .i64 a_0.Index), (.int .i64 a_0.Last), (.int .i64 a_0.Commit), (.bool a_0.Ok), (.rs a_0.Entries.z .impl_Entry a_0.Entries.n a_0.Entries.f)]), (.agg [(.int .i64 b_1.Kind), (.int .i64 b_1.From), (.int .i64 b_1.To), (.int .i64 b_1.Term), (.int .i64 b_1.Index), (.int .i64 b_1.Last), (.int .i64 b_1.Commit), (.bool b_1.Ok), (.rs b_1.Entries.z .impl_Entry b_1.Entries.n b_1.Entries.f)])] (enc_bo y) :=
  fun_good E_ok (pc_good (pc := pc_laws_eqMail fu) (hpc_laws_eqMail fu) (hpx_laws_eqMail fu)) (fn := Try.f87) (c := body_laws_eqMail) (out := out_bo) (y := y) (by kernel_rfl) (by kernel_rfl) (by kernel_rfl) (lpok_laws_eqMail fu) (fun d hd => out_bo_enc d _ hd) ((ev_laws_eqMail fu a_0 b_1).trans hy)
theorem good_laws_eqMail (fu : Nat) : ∀ xs o, S_laws_eqMail fu xs = some o → ∀ y, o.x = some y → Good E Try.prog 87 xs (o.g y) := by
  intro xs o h y hy
  unfold S_laws_eqMail at h
  split at h
  · rename_i a0_1 a0_2 a0_3 a0_4 a0_5 a0_6 a0_7 a0_8 za0_9 na0_9 fa0_9 a1_1 a1_2 a1_3 a1_4 a1_5 a1_6 a1_7 a1_8 za1_9 na1_9 fa1_9
    cases h
    exact goodv_laws_eqMail fu (⟨a0_1, a0_2, a0_3, a0_4, a0_5, a0_6, a0_7, a0_8, (⟨za0_9, na0_9, fa0_9⟩ : (Sl S_impl_Entry))⟩ : S_impl_Mail) (⟨a1_1, a1_2, a1_3, a1_4, a1_5, a1_6, a1_7, a1_8, (⟨za1_9, na1_9, fa1_9⟩ : (Sl S_impl_Entry))⟩ : S_impl_Mail) y hy
  · cases h

/-! laws.eqMailS -/
def F_laws_eqMailS_B0 {ρ : Type} (fu : Nat) (a0_0 : (Sl S_impl_Mail)) (b1_1 : (Sl S_impl_Mail)) (k0 : Option ρ) (k1 : Option ρ) (i5_2 : Int) (go : Int → Option ρ) : Option ρ :=
  (bif (decide (i5_2 < ((a0_0.n : Nat) : Int))) then ((bif (decide (0 ≤ i5_2) && decide ((Int.toNat i5_2) < a0_0.n)) then some () else none : Option Unit).bind fun _ => ((bif (decide (0 ≤ i5_2) &&
    decide ((Int.toNat i5_2) < b1_1.n)) then some () else none : Option Unit).bind fun _ => ((F_laws_eqMail fu (a0_0.f (Int.toNat i5_2)) (b1_1.f (Int.toNat i5_2))).bind fun y69 =>
    (bif (!y69) then k0 else (go (IntKind.wrap .i64 (i5_2 + 1))))))) else k1)
def F_laws_eqMailS (fu : Nat) (a_0 : (Sl S_impl_Mail)) (b_1 : (Sl S_impl_Mail)) : Option (Bool) :=
  (bif (((a_0.n : Nat) : Int) != ((b_1.n : Nat) : Int)) then (some false) else (L (fun w0 go0 => F_laws_eqMailS_B0 fu a_0 b_1 (some false) (some true) w0 go0) fu (0 : Int)))
def pcf_laws_eqMailS (fu : Nat) (f : Nat) (xs : List (D RT den)) : Option (Out RT den) := match f with | 87 => S_laws_eqMail fu xs | _ => none
def pcx_laws_eqMailS (fu : Nat) (f : Nat) (xs : List (D RT den)) (ins : List (Ob RT den)) : Option (OutX RT den) := none
def pc_laws_eqMailS (fu : Nat) : Pc RT den := ⟨pcf_laws_eqMailS fu, fun _ => false, fun _ => false, pcx_laws_eqMailS fu⟩
def msk_laws_eqMailS (b : Nat) : List Nat := match b with | 0 => [2, 3, 4, 6, 7, 8, 9, 10, 11, 12, 13, 14, 15, 16, 17, 18, 19, 20, 21, 22, 23, 24, 25, 26] | 100000 => [0, 1, 2, 3, 5, 6, 7, 8, 9, 10, 11, 12, 13, 14, 15, 16, 17, 18, 19, 20, 21, 22, 23, 24, 25, 26] | _ => []
def ps_laws_eqMailS_0 : List (Pat RT) := [.flat (.rs .impl_Mail), .flat (.rs .impl_Mail), .flat .dead, .flat .dead, .flat .dead, .flat (.int .i64), .flat .dead, .flat .dead, .flat .dead, .flat .dead, .flat .dead, .flat .dead, .flat .dead, .flat .dead, .flat .dead, .flat .dead, .flat .dead, .flat .dead, .flat .dead, .flat .dead, .flat .dead, .flat .dead, .flat .dead, .flat .dead, .flat .dead, .flat .dead, .flat .dead]
def os_laws_eqMailS_0 : List (OP RT) := []
def conv_laws_eqMailS_0 (r : Raw den ps_laws_eqMailS_0 os_laws_eqMailS_0) : ((Sl S_impl_Mail) × (Sl S_impl_Mail)) × (Int) := ((r.1.1, r.1.2.1), r.1.2.2.2.2.2.1)
def back_laws_eqMailS_0 (c : (Sl S_impl_Mail) × (Sl S_impl_Mail)) (w : Int) : St RT den := ⟨[(.rs c.1.z .impl_Mail c.1.n c.1.f), (.rs c.2.z .impl_Mail c.2.n c.2.f), .dead, .dead, .dead, (.int .i64 w), .dead, .dead, .dead, .dead, .dead, .dead, .dead, .dead, .dead, .dead, .dead, .dead, .dead, .dead, .dead, .dead, .dead, .dead, .dead, .dead, .dead], []⟩
def Bk_laws_eqMailS_0 {ρ : Type} (fu : Nat) (c : (Sl S_impl_Mail) × (Sl S_impl_Mail)) (k : Ex → St RT den → Option ρ) (w : Int) (go : (Int) → Option ρ) : Option ρ := F_laws_eqMailS_B0 fu c.1 c.2 (k .ret ⟨[.dead, .dead, .dead, .dead, (.bool false), .dead, .dead, .dead, .dead, .dead, .dead, .dead, .dead, .dead, .dead, .dead, .dead, .dead, .dead, .dead, .dead, .dead, .dead, .dead, .dead, .dead, .dead], []⟩) (k (.exit 0) ⟨[.dead, .dead, .dead, .dead, .dead, .dead, .dead, .dead, .dead, .dead, .dead, .dead, .dead, .dead, .dead, .dead, .dead, .dead, .dead, .dead, .dead, .dead, .dead, .dead, .dead, .dead, .dead], []⟩) w go
def lp_laws_eqMailS (fu : Nat) : Lp RT den (Bool) := fun b s k => match b with | 0 => handle ps_laws_eqMailS_0 os_laws_eqMailS_0 conv_laws_eqMailS_0 (Bk_laws_eqMailS_0 fu) fu s k | _ => none
theorem ev_laws_eqMailS (fu : Nat) (a_0 : (Sl S_impl_Mail)) (b_1 : (Sl S_impl_Mail)) : evFun E (pc_laws_eqMailS fu) msk_laws_eqMailS (lp_laws_eqMailS fu) out_bo 63 [(.rs a_0.z .impl_Mail a_0.n a_0.f), (.rs b_1.z .impl_Mail b_1.n b_1.f)] = F_laws_eqMailS fu a_0 b_1 := by kernel_rfl
noncomputable def body_laws_eqMailS : Code := Try.f63.body.getD .skip
noncomputable def lc_laws_eqMailS_0 : Code := ((loops 0 body_laws_eqMailS).getD 0 (0, .skip)).2
theorem round_laws_eqMailS_0 (fu : Nat) (it : St RT den → Option (Bool)) (k : Ex → St RT den → Option (Bool)) c w : evCode E (pc_laws_eqMailS fu) msk_laws_eqMailS (lp_laws_eqMailS fu) 0 lc_laws_eqMailS_0 (back_laws_eqMailS_0 c w) (after (msk_laws_eqMailS 0) (msk_laws_eqMailS 100000) 0 it k) = Bk_laws_eqMailS_0 fu c k w (fun w => it (back_laws_eqMailS_0 c w)) := by kernel_rfl
theorem lpok_laws_eqMailS_0 (fu : Nat) : ∀ s k r, lp_laws_eqMailS fu 0 s k = some r → ∃ fuel, iter (msk_laws_eqMailS 0) (msk_laws_eqMailS 100000) s.objs.length (evCode E (pc_laws_eqMailS fu) msk_laws_eqMailS (lp_laws_eqMailS fu) 0 lc_laws_eqMailS_0) fuel s k = some r :=
  handle_ok (ps := ps_laws_eqMailS_0) (os := os_laws_eqMailS_0) (conv := conv_laws_eqMailS_0) (B := Bk_laws_eqMailS_0 fu) (fu := fu) back_laws_eqMailS_0 (fun raw => by kernel_rfl) 0 (fun c w => by kernel_rfl) (round_laws_eqMailS_0 fu)
theorem lpok_laws_eqMailS (fu : Nat) : LpOk E (pc_laws_eqMailS fu) msk_laws_eqMailS (lp_laws_eqMailS fu) (loops 0 body_laws_eqMailS) := loop_all 1 (by kernel_rfl) fun i hi => match i, hi with
  | 0, _ => by
    have h : (loops 0 body_laws_eqMailS).getD 0 (0, .skip) = (0, lc_laws_eqMailS_0) := by kernel_rfl
    rw [h]; exact lpok_laws_eqMailS_0 fu
  | i + 1, hi => absurd hi (by omega)
def S_laws_eqMailS (fu : Nat) (xs : List (D RT den)) : Option (Out RT den) := match xs with | [.rs za0_0 .impl_Mail na0_0 fa0_0, .rs za1_0 .impl_Mail na1_0 fa1_0] => some ⟨Bool, F_laws_eqMailS fu (⟨za0_0, na0_0, fa0_0⟩ : (Sl S_impl_Mail)) (⟨za1_0, na1_0, fa1_0⟩ : (Sl S_impl_Mail)), enc_bo, fun _ => true⟩ | _ => none
theorem hpc_laws_eqMailS (fu : Nat) : ∀ f xs o, pcf_laws_eqMailS fu f xs = some o → ∀ y, o.x = some y → Good E Try.prog f xs (o.g y) := by
  intro f xs o h
  unfold pcf_laws_eqMailS at h
  split at h
  · exact good_laws_eqMail fu xs o h
  · cases h
theorem hpx_laws_eqMailS (fu : Nat) : ∀ f xs ins o, pcx_laws_eqMailS fu f xs ins = some o → ∀ y, o.x = some y → GoodX E Try.prog f xs ins (o.g y).1 (o.g y).2 := by
  intro f xs ins o h
  cases h
theorem goodv_laws_eqMailS (fu : Nat) (a_0 : (Sl S_impl_Mail)) (b_1 : (Sl S_impl_Mail)) (y : Bool) (hy : F_laws_eqMailS fu a_0 b_1 = some y) : Good E Try.prog 63 [(.rs a_0.z .impl_Mail a_0.n a_0.f), (.rs b_1.z .impl_Mail b_1.n b_1.f)] (enc_bo y) :=
  fun_good E_ok (pc_good (pc := pc_laws_eqMailS fu) (hpc_laws_eqMailS fu) (hpx_laws_eqMailS fu)) (fn := Try.f63) (c := body_laws_eqMailS) (out := out_bo) (y := y) (by kernel_rfl) (by kernel_rfl) (by kernel_rfl) (lpok_laws_eqMailS fu) (fun d hd => out_bo_enc d _ hd) ((ev_laws_eqMailS fu a_0 b_1).trans hy)
theorem good_laws_eqMailS (fu : Nat) : ∀ xs o, S_laws_eqMailS fu xs = some o → ∀ y, o.x = some y → Good E Try.prog 63 xs (o.g y) := by
  intro xs o h y hy
  unfold S_laws_eqMailS at h
  split at h
  · rename_i za0_0 na0_0 fa0_0 za1_0 na1_0 fa1_0
    cases h
    exact goodv_laws_eqMailS fu (⟨za0_0, na0_0, fa0_0⟩ : (Sl S_impl_Mail)) (⟨za1_0, na1_0, fa1_0⟩ : (Sl S_impl_Mail)) y hy
  · cases h

/-! laws.eqWon -/
def F_laws_eqWon (fu : Nat) (a_0 : S_impl_Won) (b_1 : S_impl_Won) : Option (Bool) :=
  (bif (a_0.Term != b_1.Term) then (some false) else (bif (a_0.Node != b_1.Node) then (some false) else (some true)))
def pcf_laws_eqWon (fu : Nat) (f : Nat) (xs : List (D RT den)) : Option (Out RT den) := none
def pcx_laws_eqWon (fu : Nat) (f : Nat) (xs : List (D RT den)) (ins : List (Ob RT den)) : Option (OutX RT den) := none
def pc_laws_eqWon (fu : Nat) : Pc RT den := ⟨pcf_laws_eqWon fu, fun _ => false, fun _ => false, pcx_laws_eqWon fu⟩
def msk_laws_eqWon (b : Nat) : List Nat := []
def lp_laws_eqWon (fu : Nat) : Lp RT den (Bool) := fun b s k => none
theorem ev_laws_eqWon (fu : Nat) (a_0 : S_impl_Won) (b_1 : S_impl_Won) : evFun E (pc_laws_eqWon fu) msk_laws_eqWon (lp_laws_eqWon fu) out_bo 115 [(.agg [(.int .i64 a_0.Term), (.int .i64 a_0.Node)]), (.agg [(.int .i64 b_1.Term), (.int .i64 b_1.Node)])] = F_laws_eqWon fu a_0 b_1 := by kernel_rfl
noncomputable def body_laws_eqWon : Code := Try.f115.body.getD .skip
theorem lpok_laws_eqWon (fu : Nat) : LpOk E (pc_laws_eqWon fu) msk_laws_eqWon (lp_laws_eqWon fu) (loops 0 body_laws_eqWon) := by
  have h : loops 0 body_laws_eqWon = [] := by kernel_rfl
  rw [h]; intro p hp; cases hp
def S_laws_eqWon (fu : Nat) (xs : List (D RT den)) : Option (Out RT den) := match xs with | [.agg [.int .i64 a0_1, .int .i64 a0_2], .agg [.int .i64 a1_1, .int .i64 a1_2]] => some ⟨Bool, F_laws_eqWon fu (⟨a0_1, a0_2⟩ : S_impl_Won) (⟨a1_1, a1_2⟩ : S_impl_Won), enc_bo, fun _ => true⟩ | _ => none
theorem hpc_laws_eqWon (fu : Nat) : ∀ f xs o, pcf_laws_eqWon fu f xs = some o → ∀ y, o.x = some y → Good E Try.prog f xs (o.g y) := by
  intro f xs o h
  cases h
theorem hpx_laws_eqWon (fu : Nat) : ∀ f xs ins o, pcx_laws_eqWon fu f xs ins = some o → ∀ y, o.x = some y → GoodX E Try.prog f xs ins (o.g y).1 (o.g y).2 := by
  intro f xs ins o h
  cases h
theorem goodv_laws_eqWon (fu : Nat) (a_0 : S_impl_Won) (b_1 : S_impl_Won) (y : Bool) (hy : F_laws_eqWon fu a_0 b_1 = some y) : Good E Try.prog 115 [(.agg [(.int .i64 a_0.Term), (.int .i64 a_0.Node)]), (.agg [(.int .i64 b_1.Term), (.int .i64 b_1.Node)])] (enc_bo y) :=
  fun_good E_ok (pc_good (pc := pc_laws_eqWon fu) (hpc_laws_eqWon fu) (hpx_laws_eqWon fu)) (fn := Try.f115) (c := body_laws_eqWon) (out := out_bo) (y := y) (by kernel_rfl) (by kernel_rfl) (by kernel_rfl) (lpok_laws_eqWon fu) (fun d hd => out_bo_enc d _ hd) ((ev_laws_eqWon fu a_0 b_1).trans hy)
theorem good_laws_eqWon (fu : Nat) : ∀ xs o, S_laws_eqWon fu xs = some o → ∀ y, o.x = some y → Good E Try.prog 115 xs (o.g y) := by
  intro xs o h y hy
  unfold S_laws_eqWon at h
  split at h
  · rename_i a0_1 a0_2 a1_1 a1_2
    cases h
    exact goodv_laws_eqWon fu (⟨a0_1, a0_2⟩ : S_impl_Won) (⟨a1_1, a1_2⟩ : S_impl_Won) y hy
  · cases h

/-! laws.eqWonS -/
def F_laws_eqWonS_B0 {ρ : Type} (fu : Nat) (a0_0 : (Sl S_impl_Won)) (b1_1 : (Sl S_impl_Won)) (k0 : Option ρ) (k1 : Option ρ) (i5_2 : Int) (go : Int → Option ρ) : Option ρ :=
  (bif (decide (i5_2 < ((a0_0.n : Nat) : Int))) then ((bif (decide (0 ≤ i5_2) && decide ((Int.toNat i5_2) < a0_0.n)) then some () else none : Option Unit).bind fun _ => ((bif (decide (0 ≤ i5_2) &&
    decide ((Int.toNat i5_2) < b1_1.n)) then some () else none : Option Unit).bind fun _ => ((F_laws_eqWon fu (a0_0.f (Int.toNat i5_2)) (b1_1.f (Int.toNat i5_2))).bind fun y71 =>
    (bif (!y71) then k0 else (go (IntKind.wrap .i64 (i5_2 + 1))))))) else k1)
def F_laws_eqWonS (fu : Nat) (a_0 : (Sl S_impl_Won)) (b_1 : (Sl S_impl_Won)) : Option (Bool) :=
  (bif (((a_0.n : Nat) : Int) != ((b_1.n : Nat) : Int)) then (some false) else (L (fun w0 go0 => F_laws_eqWonS_B0 fu a_0 b_1 (some false) (some true) w0 go0) fu (0 : Int)))
def pcf_laws_eqWonS (fu : Nat) (f : Nat) (xs : List (D RT den)) : Option (Out RT den) := match f with | 115 => S_laws_eqWon fu xs | _ => none
def pcx_laws_eqWonS (fu : Nat) (f : Nat) (xs : List (D RT den)) (ins : List (Ob RT den)) : Option (OutX RT den) := none
def pc_laws_eqWonS (fu : Nat) : Pc RT den := ⟨pcf_laws_eqWonS fu, fun _ => false, fun _ => false, pcx_laws_eqWonS fu⟩
def msk_laws_eqWonS (b : Nat) : List Nat := match b with | 0 => [2, 3, 4, 6, 7, 8, 9, 10, 11, 12, 13, 14, 15, 16, 17, 18, 19, 20, 21, 22, 23, 24, 25, 26] | 100000 => [0, 1, 2, 3, 5, 6, 7, 8, 9, 10, 11, 12, 13, 14, 15, 16, 17, 18, 19, 20, 21, 22, 23, 24, 25, 26] | _ => []
def ps_laws_eqWonS_0 : List (Pat RT) := [.flat (.rs .impl_Won), .flat (.rs .impl_Won), .flat .dead, .flat .dead, .flat .dead, .flat (.int .i64), .flat .dead, .flat .dead, .flat .dead, .flat .dead, .flat .dead, .flat .dead, .flat .dead, .flat .dead, .flat .dead, .flat .dead, .flat .dead, .flat .dead, .flat .dead, .flat .dead, .flat .dead, .flat .dead, .flat .dead, .flat .dead, .flat .dead, .flat .dead, .flat .dead]
def os_laws_eqWonS_0 : List (OP RT) := []
def conv_laws_eqWonS_0 (r : Raw den ps_laws_eqWonS_0 os_laws_eqWonS_0) : ((Sl S_impl_Won) × (Sl S_impl_Won)) × (Int) := ((r.1.1, r.1.2.1), r.1.2.2.2.2.2.1)
def back_laws_eqWonS_0 (c : (Sl S_impl_Won) × (Sl S_impl_Won)) (w : Int) : St RT den := ⟨[(.rs c.1.z .impl_Won c.1.n c.1.f), (.rs c.2.z .impl_Won c.2.n c.2.f), .dead, .dead, .dead, (.int .i64 w), .dead, .dead, .dead, .dead, .dead, .dead, .dead, .dead, .dead, .dead, .dead, .dead, .dead, .dead, .dead, .dead, .dead, .dead, .dead, .dead, .dead], []⟩
def Bk_laws_eqWonS_0 {ρ : Type} (fu : Nat) (c : (Sl S_impl_Won) × (Sl S_impl_Won)) (k : Ex → St RT den → Option ρ) (w : Int) (go : (Int) → Option ρ) : Option ρ := F_laws_eqWonS_B0 fu c.1 c.2 (k .ret ⟨[.dead, .dead, .dead, .dead, (.bool false), .dead, .dead, .dead, .dead, .dead, .dead, .dead, .dead, .dead, .dead, .dead, .dead, .dead, .dead, .dead, .dead, .dead, .dead, .dead, .dead, .dead, .dead], []⟩) (k (.exit 0) ⟨[.dead, .dead, .dead, .dead, .dead, .dead, .dead, .dead, .dead, .dead, .dead, .dead, .dead, .dead, .dead, .dead, .dead, .dead, .dead, .dead, .dead, .dead, .dead, .dead, .dead, .dead, .dead], []⟩) w go
def lp_laws_eqWonS (fu : Nat) : Lp RT den (Bool) := fun b s k => match b with | 0 => handle ps_laws_eqWonS_0 os_laws_eqWonS_0 conv_laws_eqWonS_0 (Bk_laws_eqWonS_0 fu) fu s k | _ => none
theorem ev_laws_eqWonS (fu : Nat) (a_0 : (Sl S_impl_Won)) (b_1 : (Sl S_impl_Won)) : evFun E (pc_laws_eqWonS fu) msk_laws_eqWonS (lp_laws_eqWonS fu) out_bo 98 [(.rs a_0.z .impl_Won a_0.n a_0.f), (.rs b_1.z .impl_Won b_1.n b_1.f)] = F_laws_eqWonS fu a_0 b_1 := by kernel_rfl
noncomputable def body_laws_eqWonS : Code := Try.f98.body.getD .skip
noncomputable def lc_laws_eqWonS_0 : Code := ((loops 0 body_laws_eqWonS).getD 0 (0, .skip)).2
theorem round_laws_eqWonS_0 (fu : Nat) (it : St RT den → Option (Bool)) (k : Ex → St RT den → Option (Bool)) c w : evCode E (pc_laws_eqWonS fu) msk_laws_eqWonS (lp_laws_eqWonS fu) 0 lc_laws_eqWonS_0 (back_laws_eqWonS_0 c w) (after (msk_laws_eqWonS 0) (msk_laws_eqWonS 100000) 0 it k) = Bk_laws_eqWonS_0 fu c k w (fun w => it (back_laws_eqWonS_0 c w)) := by kernel_rfl
theorem lpok_laws_eqWonS_0 (fu : Nat) : ∀ s k r, lp_laws_eqWonS fu 0 s k = some r → ∃ fuel, iter (msk_laws_eqWonS 0) (msk_laws_eqWonS 100000) s.objs.length (evCode E (pc_laws_eqWonS fu) msk_laws_eqWonS (lp_laws_eqWonS fu) 0 lc_laws_eqWonS_0) fuel s k = some r :=
  handle_ok (ps := ps_laws_eqWonS_0) (os := os_laws_eqWonS_0) (conv := conv_laws_eqWonS_0) (B := Bk_laws_eqWonS_0 fu) (fu := fu) back_laws_eqWonS_0 (fun raw => by kernel_rfl) 0 (fun c w => by kernel_rfl) (round_laws_eqWonS_0 fu)
theorem lpok_laws_eqWonS (fu : Nat) : LpOk E (pc_laws_eqWonS fu) msk_laws_eqWonS (lp_laws_eqWonS fu) (loops 0 body_laws_eqWonS) := loop_all 1 (by kernel_rfl) fun i hi => match i, hi with
  | 0, _ => by
    have h : (loops 0 body_laws_eqWonS).getD 0 (0, .skip) = (0, lc_laws_eqWonS_0) := by kernel_rfl
    rw [h]; exact lpok_laws_eqWonS_0 fu
  | i + 1, hi => absurd hi (by omega)
def S_laws_eqWonS (fu : Nat) (xs : List (D RT den)) : Option (Out RT den) := match xs with | [.rs za0_0 .impl_Won na0_0 fa0_0, .rs za1_0 .impl_Won na1_0 fa1_0] => some ⟨Bool, F_laws_eqWonS fu (⟨za0_0, na0_0, fa0_0⟩ : (Sl S_impl_Won)) (⟨za1_0, na1_0, fa1_0⟩ : (Sl S_impl_Won)), enc_bo, fun _ => true⟩ | _ => none
theorem hpc_laws_eqWonS (fu : Nat) : ∀ f xs o, pcf_laws_eqWonS fu f xs = some o → ∀ y, o.x = some y → Good E Try.prog f xs (o.g y) := by
  intro f xs o h
  unfold pcf_laws_eqWonS at h
  split at h
  · exact good_laws_eqWon fu xs o h
  · cases h
theorem hpx_laws_eqWonS (fu : Nat) : ∀ f xs ins o, pcx_laws_eqWonS fu f xs ins = some o → ∀ y, o.x = some y → GoodX E Try.prog f xs ins (o.g y).1 (o.g y).2 := by
  intro f xs ins o h
  cases h
theorem goodv_laws_eqWonS (fu : Nat) (a_0 : (Sl S_impl_Won)) (b_1 : (Sl S_impl_Won)) (y : Bool) (hy : F_laws_eqWonS fu a_0 b_1 = some y) : Good E Try.prog 98 [(.rs a_0.z .impl_Won a_0.n a_0.f), (.rs b_1.z .impl_Won b_1.n b_1.f)] (enc_bo y) :=
  fun_good E_ok (pc_good (pc := pc_laws_eqWonS fu) (hpc_laws_eqWonS fu) (hpx_laws_eqWonS fu)) (fn := Try.f98) (c := body_laws_eqWonS) (out := out_bo) (y := y) (by kernel_rfl) (by kernel_rfl) (by kernel_rfl) (lpok_laws_eqWonS fu) (fun d hd => out_bo_enc d _ hd) ((ev_laws_eqWonS fu a_0 b_1).trans hy)
theorem good_laws_eqWonS (fu : Nat) : ∀ xs o, S_laws_eqWonS fu xs = some o → ∀ y, o.x = some y → Good E Try.prog 98 xs (o.g y) := by
  intro xs o h y hy
  unfold S_laws_eqWonS at h
  split at h
  · rename_i za0_0 na0_0 fa0_0 za1_0 na1_0 fa1_0
    cases h
    exact goodv_laws_eqWonS fu (⟨za0_0, na0_0, fa0_0⟩ : (Sl S_impl_Won)) (⟨za1_0, na1_0, fa1_0⟩ : (Sl S_impl_Won)) y hy
  · cases h

/-! laws.eqSeal -/
def F_laws_eqSeal (fu : Nat) (a_0 : S_impl_Seal) (b_1 : S_impl_Seal) : Option (Bool) :=
  (bif (a_0.Term != b_1.Term) then (some false) else ((F_laws_eqEntry fu a_0.Entry b_1.Entry).bind fun y73 => (bif (!y73) then (some false) else (some true))))
def pcf_laws_eqSeal (fu : Nat) (f : Nat) (xs : List (D RT den)) : Option (Out RT den) := match f with | 47 => S_laws_eqEntry fu xs | _ => none
def pcx_laws_eqSeal (fu : Nat) (f : Nat) (xs : List (D RT den)) (ins : List (Ob RT den)) : Option (OutX RT den) := none
def pc_laws_eqSeal (fu : Nat) : Pc RT den := ⟨pcf_laws_eqSeal fu, fun _ => false, fun _ => false, pcx_laws_eqSeal fu⟩
def msk_laws_eqSeal (b : Nat) : List Nat := []
def lp_laws_eqSeal (fu : Nat) : Lp RT den (Bool) := fun b s k => none
theorem ev_laws_eqSeal (fu : Nat) (a_0 : S_impl_Seal) (b_1 : S_impl_Seal) : evFun E (pc_laws_eqSeal fu) msk_laws_eqSeal (lp_laws_eqSeal fu) out_bo 116 [(.agg [(.int .i64 a_0.Term), (.int .i64 a_0.Entry.Term), (.int .i64 a_0.Entry.Client), (.int .i64 a_0.Entry.Seq), (.int .i64 a_0.Entry.Cmd.Kind), (.int .i64 a_0.Entry.Cmd.Expect), (.int .i64 a_0.Entry.Cmd.Name), (.int .i64 a_0.Entry.Cmd.Addr), (.int .i64 a_0.Entry.Cmd.Number), (.int .i64 a_0.Entry.Cmd.Proto)]), (.agg [(.int .i64 b_1.Term), (.int .i64 b_1.Entry.Term), (.int .i64 b_1.Entry.Client), (.int .i64 b_1.Entry.Seq), (.int .i64 b_1.Entry.Cmd.Kind), (.int .i64 b_1.Entry.Cmd.Expect), (.int .i64 b_1.Entry.Cmd.Name), (.int .i64 b_1.Entry.Cmd.Addr), (.int .i64 b_1.Entry.Cmd.Number), (.int .i64 b_1.Entry.Cmd.Proto)])] = F_laws_eqSeal fu a_0 b_1 := by kernel_rfl
noncomputable def body_laws_eqSeal : Code := Try.f116.body.getD .skip
theorem lpok_laws_eqSeal (fu : Nat) : LpOk E (pc_laws_eqSeal fu) msk_laws_eqSeal (lp_laws_eqSeal fu) (loops 0 body_laws_eqSeal) := by
  have h : loops 0 body_laws_eqSeal = [] := by kernel_rfl
  rw [h]; intro p hp; cases hp
def S_laws_eqSeal (fu : Nat) (xs : List (D RT den)) : Option (Out RT den) := match xs with | [.agg [.int .i64 a0_1, .int .i64 a0_3, .int .i64 a0_4, .int .i64 a0_5, .int .i64 a0_7, .int .i64 a0_8, .int .i64 a0_9, .int .i64 a0_10, .int .i64 a0_11, .int .i64 a0_12], .agg [.int .i64 a1_1, .int .i64 a1_3, .int .i64 a1_4, .int .i64 a1_5, .int .i64 a1_7, .int .i64 a1_8, .int .i64 a1_9, .int .i64 a1_10, .int .i64 a1_11, .int .i64 a1_12]] => some ⟨Bool, F_laws_eqSeal fu (⟨a0_1, (⟨a0_3, a0_4, a0_5, (⟨a0_7, a0_8, a0_9, a0_10, a0_11, a0_12⟩ : S_impl_Cmd)⟩ : S_impl_Entry)⟩ : S_impl_Seal) (⟨a1_1, (⟨a1_3, a1_4, a1_5, (⟨a1_7, a1_8, a1_9, a1_10, a1_11, a1_12⟩ : S_impl_Cmd)⟩ : S_impl_Entry)⟩ : S_impl_Seal), enc_bo, fun _ => true⟩ | _ => none
theorem hpc_laws_eqSeal (fu : Nat) : ∀ f xs o, pcf_laws_eqSeal fu f xs = some o → ∀ y, o.x = some y → Good E Try.prog f xs (o.g y) := by
  intro f xs o h
  unfold pcf_laws_eqSeal at h
  split at h
  · exact good_laws_eqEntry fu xs o h
  · cases h
theorem hpx_laws_eqSeal (fu : Nat) : ∀ f xs ins o, pcx_laws_eqSeal fu f xs ins = some o → ∀ y, o.x = some y → GoodX E Try.prog f xs ins (o.g y).1 (o.g y).2 := by
  intro f xs ins o h
  cases h
theorem goodv_laws_eqSeal (fu : Nat) (a_0 : S_impl_Seal) (b_1 : S_impl_Seal) (y : Bool) (hy : F_laws_eqSeal fu a_0 b_1 = some y) : Good E Try.prog 116 [(.agg [(.int .i64 a_0.Term), (.int .i64 a_0.Entry.Term), (.int .i64 a_0.Entry.Client), (.int .i64 a_0.Entry.Seq), (.int .i64 a_0.Entry.Cmd.Kind), (.int .i64 a_0.Entry.Cmd.Expect), (.int .i64 a_0.Entry.Cmd.Name), (.int .i64 a_0.Entry.Cmd.Addr), (.int .i64 a_0.Entry.Cmd.Number), (.int .i64 a_0.Entry.Cmd.Proto)]), (.agg [(.int .i64 b_1.Term), (.int .i64 b_1.Entry.Term), (.int .i64 b_1.Entry.Client), (.int .i64 b_1.Entry.Seq), (.int .i64 b_1.Entry.Cmd.Kind), (.int .i64 b_1.Entry.Cmd.Expect), (.int .i64 b_1.Entry.Cmd.Name), (.int .i64 b_1.Entry.Cmd.Addr), (.int .i64 b_1.Entry.Cmd.Number), (.int .i64 b_1.Entry.Cmd.Proto)])] (enc_bo y) :=
  fun_good E_ok (pc_good (pc := pc_laws_eqSeal fu) (hpc_laws_eqSeal fu) (hpx_laws_eqSeal fu)) (fn := Try.f116) (c := body_laws_eqSeal) (out := out_bo) (y := y) (by kernel_rfl) (by kernel_rfl) (by kernel_rfl) (lpok_laws_eqSeal fu) (fun d hd => out_bo_enc d _ hd) ((ev_laws_eqSeal fu a_0 b_1).trans hy)
theorem good_laws_eqSeal (fu : Nat) : ∀ xs o, S_laws_eqSeal fu xs = some o → ∀ y, o.x = some y → Good E Try.prog 116 xs (o.g y) := by
  intro xs o h y hy
  unfold S_laws_eqSeal at h
  split at h
  · rename_i a0_1 a0_3 a0_4 a0_5 a0_7 a0_8 a0_9 a0_10 a0_11 a0_12 a1_1 a1_3 a1_4 a1_5 a1_7 a1_8 a1_9 a1_10 a1_11 a1_12
    cases h
    exact goodv_laws_eqSeal fu (⟨a0_1, (⟨a0_3, a0_4, a0_5, (⟨a0_7, a0_8, a0_9, a0_10, a0_11, a0_12⟩ : S_impl_Cmd)⟩ : S_impl_Entry)⟩ : S_impl_Seal) (⟨a1_1, (⟨a1_3, a1_4, a1_5, (⟨a1_7, a1_8, a1_9, a1_10, a1_11, a1_12⟩ : S_impl_Cmd)⟩ : S_impl_Entry)⟩ : S_impl_Seal) y hy
  · cases h

/-! laws.eqSealS -/
def F_laws_eqSealS_B0 {ρ : Type} (fu : Nat) (a0_0 : (Sl S_impl_Seal)) (b1_1 : (Sl S_impl_Seal)) (k0 : Option ρ) (k1 : Option ρ) (i5_2 : Int) (go : Int → Option ρ) : Option ρ :=
  (bif (decide (i5_2 < ((a0_0.n : Nat) : Int))) then ((bif (decide (0 ≤ i5_2) && decide ((Int.toNat i5_2) < a0_0.n)) then some () else none : Option Unit).bind fun _ => ((bif (decide (0 ≤ i5_2) &&
    decide ((Int.toNat i5_2) < b1_1.n)) then some () else none : Option Unit).bind fun _ => ((F_laws_eqSeal fu (a0_0.f (Int.toNat i5_2)) (b1_1.f (Int.toNat i5_2))).bind fun y72 =>
    (bif (!y72) then k0 else (go (IntKind.wrap .i64 (i5_2 + 1))))))) else k1)
def F_laws_eqSealS (fu : Nat) (a_0 : (Sl S_impl_Seal)) (b_1 : (Sl S_impl_Seal)) : Option (Bool) :=
  (bif (((a_0.n : Nat) : Int) != ((b_1.n : Nat) : Int)) then (some false) else (L (fun w0 go0 => F_laws_eqSealS_B0 fu a_0 b_1 (some false) (some true) w0 go0) fu (0 : Int)))
def pcf_laws_eqSealS (fu : Nat) (f : Nat) (xs : List (D RT den)) : Option (Out RT den) := match f with | 116 => S_laws_eqSeal fu xs | _ => none
def pcx_laws_eqSealS (fu : Nat) (f : Nat) (xs : List (D RT den)) (ins : List (Ob RT den)) : Option (OutX RT den) := none
def pc_laws_eqSealS (fu : Nat) : Pc RT den := ⟨pcf_laws_eqSealS fu, fun _ => false, fun _ => false, pcx_laws_eqSealS fu⟩
def msk_laws_eqSealS (b : Nat) : List Nat := match b with | 0 => [2, 3, 4, 6, 7, 8, 9, 10, 11, 12, 13, 14, 15, 16, 17, 18, 19, 20, 21, 22, 23, 24, 25, 26] | 100000 => [0, 1, 2, 3, 5, 6, 7, 8, 9, 10, 11, 12, 13, 14, 15, 16, 17, 18, 19, 20, 21, 22, 23, 24, 25, 26] | _ => []
def ps_laws_eqSealS_0 : List (Pat RT) := [.flat (.rs .impl_Seal), .flat (.rs .impl_Seal), .flat .dead, .flat .dead, .flat .dead, .flat (.int .i64), .flat .dead, .flat .dead, .flat .dead, .flat .dead, .flat .dead, .flat .dead, .flat .dead, .flat .dead, .flat .dead, .flat .dead, .flat .dead, .flat .dead, .flat .dead, .flat .dead, .flat .dead, .flat .dead, .flat .dead, .flat .dead, .flat .dead, .flat .dead, .flat .dead]
def os_laws_eqSealS_0 : List (OP RT) := []
def conv_laws_eqSealS_0 (r : Raw den ps_laws_eqSealS_0 os_laws_eqSealS_0) : ((Sl S_impl_Seal) × (Sl S_impl_Seal)) × (Int) := ((r.1.1, r.1.2.1), r.1.2.2.2.2.2.1)
def back_laws_eqSealS_0 (c : (Sl S_impl_Seal) × (Sl S_impl_Seal)) (w : Int) : St RT den := ⟨[(.rs c.1.z .impl_Seal c.1.n c.1.f), (.rs c.2.z .impl_Seal c.2.n c.2.f), .dead, .dead, .dead, (.int .i64 w), .dead, .dead, .dead, .dead, .dead, .dead, .dead, .dead, .dead, .dead, .dead, .dead, .dead, .dead, .dead, .dead, .dead, .dead, .dead, .dead, .dead], []⟩
def Bk_laws_eqSealS_0 {ρ : Type} (fu : Nat) (c : (Sl S_impl_Seal) × (Sl S_impl_Seal)) (k : Ex → St RT den → Option ρ) (w : Int) (go : (Int) → Option ρ) : Option ρ := F_laws_eqSealS_B0 fu c.1 c.2 (k .ret ⟨[.dead, .dead, .dead, .dead, (.bool false), .dead, .dead, .dead, .dead, .dead, .dead, .dead, .dead, .dead, .dead, .dead, .dead, .dead, .dead, .dead, .dead, .dead, .dead, .dead, .dead, .dead, .dead], []⟩) (k (.exit 0) ⟨[.dead, .dead, .dead, .dead, .dead, .dead, .dead, .dead, .dead, .dead, .dead, .dead, .dead, .dead, .dead, .dead, .dead, .dead, .dead, .dead, .dead, .dead, .dead, .dead, .dead, .dead, .dead], []⟩) w go
def lp_laws_eqSealS (fu : Nat) : Lp RT den (Bool) := fun b s k => match b with | 0 => handle ps_laws_eqSealS_0 os_laws_eqSealS_0 conv_laws_eqSealS_0 (Bk_laws_eqSealS_0 fu) fu s k | _ => none
theorem ev_laws_eqSealS (fu : Nat) (a_0 : (Sl S_impl_Seal)) (b_1 : (Sl S_impl_Seal)) : evFun E (pc_laws_eqSealS fu) msk_laws_eqSealS (lp_laws_eqSealS fu) out_bo 99 [(.rs a_0.z .impl_Seal a_0.n a_0.f), (.rs b_1.z .impl_Seal b_1.n b_1.f)] = F_laws_eqSealS fu a_0 b_1 := by kernel_rfl
noncomputable def body_laws_eqSealS : Code := Try.f99.body.getD .skip
noncomputable def lc_laws_eqSealS_0 : Code := ((loops 0 body_laws_eqSealS).getD 0 (0, .skip)).2
theorem round_laws_eqSealS_0 (fu : Nat) (it : St RT den → Option (Bool)) (k : Ex → St RT den → Option (Bool)) c w : evCode E (pc_laws_eqSealS fu) msk_laws_eqSealS (lp_laws_eqSealS fu) 0 lc_laws_eqSealS_0 (back_laws_eqSealS_0 c w) (after (msk_laws_eqSealS 0) (msk_laws_eqSealS 100000) 0 it k) = Bk_laws_eqSealS_0 fu c k w (fun w => it (back_laws_eqSealS_0 c w)) := by kernel_rfl
theorem lpok_laws_eqSealS_0 (fu : Nat) : ∀ s k r, lp_laws_eqSealS fu 0 s k = some r → ∃ fuel, iter (msk_laws_eqSealS 0) (msk_laws_eqSealS 100000) s.objs.length (evCode E (pc_laws_eqSealS fu) msk_laws_eqSealS (lp_laws_eqSealS fu) 0 lc_laws_eqSealS_0) fuel s k = some r :=
  handle_ok (ps := ps_laws_eqSealS_0) (os := os_laws_eqSealS_0) (conv := conv_laws_eqSealS_0) (B := Bk_laws_eqSealS_0 fu) (fu := fu) back_laws_eqSealS_0 (fun raw => by kernel_rfl) 0 (fun c w => by kernel_rfl) (round_laws_eqSealS_0 fu)
theorem lpok_laws_eqSealS (fu : Nat) : LpOk E (pc_laws_eqSealS fu) msk_laws_eqSealS (lp_laws_eqSealS fu) (loops 0 body_laws_eqSealS) := loop_all 1 (by kernel_rfl) fun i hi => match i, hi with
  | 0, _ => by
    have h : (loops 0 body_laws_eqSealS).getD 0 (0, .skip) = (0, lc_laws_eqSealS_0) := by kernel_rfl
    rw [h]; exact lpok_laws_eqSealS_0 fu
  | i + 1, hi => absurd hi (by omega)
def S_laws_eqSealS (fu : Nat) (xs : List (D RT den)) : Option (Out RT den) := match xs with | [.rs za0_0 .impl_Seal na0_0 fa0_0, .rs za1_0 .impl_Seal na1_0 fa1_0] => some ⟨Bool, F_laws_eqSealS fu (⟨za0_0, na0_0, fa0_0⟩ : (Sl S_impl_Seal)) (⟨za1_0, na1_0, fa1_0⟩ : (Sl S_impl_Seal)), enc_bo, fun _ => true⟩ | _ => none
theorem hpc_laws_eqSealS (fu : Nat) : ∀ f xs o, pcf_laws_eqSealS fu f xs = some o → ∀ y, o.x = some y → Good E Try.prog f xs (o.g y) := by
  intro f xs o h
  unfold pcf_laws_eqSealS at h
  split at h
  · exact good_laws_eqSeal fu xs o h
  · cases h
theorem hpx_laws_eqSealS (fu : Nat) : ∀ f xs ins o, pcx_laws_eqSealS fu f xs ins = some o → ∀ y, o.x = some y → GoodX E Try.prog f xs ins (o.g y).1 (o.g y).2 := by
  intro f xs ins o h
  cases h
theorem goodv_laws_eqSealS (fu : Nat) (a_0 : (Sl S_impl_Seal)) (b_1 : (Sl S_impl_Seal)) (y : Bool) (hy : F_laws_eqSealS fu a_0 b_1 = some y) : Good E Try.prog 99 [(.rs a_0.z .impl_Seal a_0.n a_0.f), (.rs b_1.z .impl_Seal b_1.n b_1.f)] (enc_bo y) :=
  fun_good E_ok (pc_good (pc := pc_laws_eqSealS fu) (hpc_laws_eqSealS fu) (hpx_laws_eqSealS fu)) (fn := Try.f99) (c := body_laws_eqSealS) (out := out_bo) (y := y) (by kernel_rfl) (by kernel_rfl) (by kernel_rfl) (lpok_laws_eqSealS fu) (fun d hd => out_bo_enc d _ hd) ((ev_laws_eqSealS fu a_0 b_1).trans hy)
theorem good_laws_eqSealS (fu : Nat) : ∀ xs o, S_laws_eqSealS fu xs = some o → ∀ y, o.x = some y → Good E Try.prog 99 xs (o.g y) := by
  intro xs o h y hy
  unfold S_laws_eqSealS at h
  split at h
  · rename_i za0_0 na0_0 fa0_0 za1_0 na1_0 fa1_0
    cases h
    exact goodv_laws_eqSealS fu (⟨za0_0, na0_0, fa0_0⟩ : (Sl S_impl_Seal)) (⟨za1_0, na1_0, fa1_0⟩ : (Sl S_impl_Seal)) y hy
  · cases h

/-! laws.eqCluster -/
def F_laws_eqCluster (fu : Nat) (a_0 : S_impl_Cluster) (b_1 : S_impl_Cluster) : Option (Bool) :=
  ((F_laws_eqNodeS fu a_0.Nodes b_1.Nodes).bind fun y58 => (bif (!y58) then (some false) else ((F_laws_eqMailS fu a_0.Mails b_1.Mails).bind fun y59 => (bif (!y59) then (some false) else
    ((F_laws_eqWonS fu a_0.Wins b_1.Wins).bind fun y60 => (bif (!y60) then (some false) else ((F_laws_eqSealS fu a_0.Seals b_1.Seals).bind fun y61 => (bif (!y61) then (some false) else
    (some true)))))))))
def pcf_laws_eqCluster (fu : Nat) (f : Nat) (xs : List (D RT den)) : Option (Out RT den) := match f with | 63 => S_laws_eqMailS fu xs | 97 => S_laws_eqNodeS fu xs | 98 => S_laws_eqWonS fu xs | 99 => S_laws_eqSealS fu xs | _ => none
def pcx_laws_eqCluster (fu : Nat) (f : Nat) (xs : List (D RT den)) (ins : List (Ob RT den)) : Option (OutX RT den) := none
def pc_laws_eqCluster (fu : Nat) : Pc RT den := ⟨pcf_laws_eqCluster fu, fun _ => false, fun _ => false, pcx_laws_eqCluster fu⟩
def msk_laws_eqCluster (b : Nat) : List Nat := []
def lp_laws_eqCluster (fu : Nat) : Lp RT den (Bool) := fun b s k => none
theorem ev_laws_eqCluster (fu : Nat) (a_0 : S_impl_Cluster) (b_1 : S_impl_Cluster) : evFun E (pc_laws_eqCluster fu) msk_laws_eqCluster (lp_laws_eqCluster fu) out_bo 75 [(.agg [(.rs a_0.Nodes.z .impl_Node a_0.Nodes.n a_0.Nodes.f), (.rs a_0.Mails.z .impl_Mail a_0.Mails.n a_0.Mails.f), (.rs a_0.Wins.z .impl_Won a_0.Wins.n a_0.Wins.f), (.rs a_0.Seals.z .impl_Seal a_0.Seals.n a_0.Seals.f)]), (.agg [(.rs b_1.Nodes.z .impl_Node b_1.Nodes.n b_1.Nodes.f), (.rs b_1.Mails.z .impl_Mail b_1.Mails.n b_1.Mails.f), (.rs b_1.Wins.z .impl_Won b_1.Wins.n b_1.Wins.f), (.rs b_1.Seals.z .impl_Seal b_1.Seals.n b_1.Seals.f)])] = F_laws_eqCluster fu a_0 b_1 := by kernel_rfl
noncomputable def body_laws_eqCluster : Code := Try.f75.body.getD .skip
theorem lpok_laws_eqCluster (fu : Nat) : LpOk E (pc_laws_eqCluster fu) msk_laws_eqCluster (lp_laws_eqCluster fu) (loops 0 body_laws_eqCluster) := by
  have h : loops 0 body_laws_eqCluster = [] := by kernel_rfl
  rw [h]; intro p hp; cases hp
def S_laws_eqCluster (fu : Nat) (xs : List (D RT den)) : Option (Out RT den) := match xs with | [.agg [.rs za0_1 .impl_Node na0_1 fa0_1, .rs za0_2 .impl_Mail na0_2 fa0_2, .rs za0_3 .impl_Won na0_3 fa0_3, .rs za0_4 .impl_Seal na0_4 fa0_4], .agg [.rs za1_1 .impl_Node na1_1 fa1_1, .rs za1_2 .impl_Mail na1_2 fa1_2, .rs za1_3 .impl_Won na1_3 fa1_3, .rs za1_4 .impl_Seal na1_4 fa1_4]] => some ⟨Bool, F_laws_eqCluster fu (⟨(⟨za0_1, na0_1, fa0_1⟩ : (Sl S_impl_Node_0)), (⟨za0_2, na0_2, fa0_2⟩ : (Sl S_impl_Mail)), (⟨za0_3, na0_3, fa0_3⟩ : (Sl S_impl_Won)), (⟨za0_4, na0_4, fa0_4⟩ : (Sl S_impl_Seal))⟩ : S_impl_Cluster) (⟨(⟨za1_1, na1_1, fa1_1⟩ : (Sl S_impl_Node_0)), (⟨za1_2, na1_2, fa1_2⟩ : (Sl S_impl_Mail)), (⟨za1_3, na1_3, fa1_3⟩ : (Sl S_impl_Won)), (⟨za1_4, na1_4, fa1_4⟩ : (Sl S_impl_Seal))⟩ : S_impl_Cluster), enc_bo, fun _ => true⟩ | _ => none
theorem hpc_laws_eqCluster (fu : Nat) : ∀ f xs o, pcf_laws_eqCluster fu f xs = some o → ∀ y, o.x = some y → Good E Try.prog f xs (o.g y) := by
  intro f xs o h
  unfold pcf_laws_eqCluster at h
  split at h
  · exact good_laws_eqMailS fu xs o h
  · exact good_laws_eqNodeS fu xs o h
  · exact good_laws_eqWonS fu xs o h
  · exact good_laws_eqSealS fu xs o h
  · cases h
theorem hpx_laws_eqCluster (fu : Nat) : ∀ f xs ins o, pcx_laws_eqCluster fu f xs ins = some o → ∀ y, o.x = some y → GoodX E Try.prog f xs ins (o.g y).1 (o.g y).2 := by
  intro f xs ins o h
  cases h
theorem goodv_laws_eqCluster (fu : Nat) (a_0 : S_impl_Cluster) (b_1 : S_impl_Cluster) (y : Bool) (hy : F_laws_eqCluster fu a_0 b_1 = some y) : Good E Try.prog 75 [(.agg [(.rs a_0.Nodes.z .impl_Node a_0.Nodes.n a_0.Nodes.f), (.rs a_0.Mails.z .impl_Mail a_0.Mails.n a_0.Mails.f), (.rs a_0.Wins.z .impl_Won a_0.Wins.n a_0.Wins.f), (.rs a_0.Seals.z .impl_Seal a_0.Seals.n a_0.Seals.f)]), (.agg [(.rs b_1.Nodes.z .impl_Node b_1.Nodes.n b_1.Nodes.f), (.rs b_1.Mails.z .impl_Mail b_1.Mails.n b_1.Mails.f), (.rs b_1.Wins.z .impl_Won b_1.Wins.n b_1.Wins.f), (.rs b_1.Seals.z .impl_Seal b_1.Seals.n b_1.Seals.f)])] (enc_bo y) :=
  fun_good E_ok (pc_good (pc := pc_laws_eqCluster fu) (hpc_laws_eqCluster fu) (hpx_laws_eqCluster fu)) (fn := Try.f75) (c := body_laws_eqCluster) (out := out_bo) (y := y) (by kernel_rfl) (by kernel_rfl) (by kernel_rfl) (lpok_laws_eqCluster fu) (fun d hd => out_bo_enc d _ hd) ((ev_laws_eqCluster fu a_0 b_1).trans hy)
theorem good_laws_eqCluster (fu : Nat) : ∀ xs o, S_laws_eqCluster fu xs = some o → ∀ y, o.x = some y → Good E Try.prog 75 xs (o.g y) := by
  intro xs o h y hy
  unfold S_laws_eqCluster at h
  split at h
  · rename_i za0_1 na0_1 fa0_1 za0_2 na0_2 fa0_2 za0_3 na0_3 fa0_3 za0_4 na0_4 fa0_4 za1_1 na1_1 fa1_1 za1_2 na1_2 fa1_2 za1_3 na1_3 fa1_3 za1_4 na1_4 fa1_4
    cases h
    exact goodv_laws_eqCluster fu (⟨(⟨za0_1, na0_1, fa0_1⟩ : (Sl S_impl_Node_0)), (⟨za0_2, na0_2, fa0_2⟩ : (Sl S_impl_Mail)), (⟨za0_3, na0_3, fa0_3⟩ : (Sl S_impl_Won)), (⟨za0_4, na0_4, fa0_4⟩ : (Sl S_impl_Seal))⟩ : S_impl_Cluster) (⟨(⟨za1_1, na1_1, fa1_1⟩ : (Sl S_impl_Node_0)), (⟨za1_2, na1_2, fa1_2⟩ : (Sl S_impl_Mail)), (⟨za1_3, na1_3, fa1_3⟩ : (Sl S_impl_Won)), (⟨za1_4, na1_4, fa1_4⟩ : (Sl S_impl_Seal))⟩ : S_impl_Cluster) y hy
  · cases h
end Go.Proofs.Ytmdjkdgjmbfegaa.Pn
