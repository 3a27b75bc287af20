/- The functions' evaluated forms, each a proved summary. Conditions: none. -/
import Derived.Test.YtjdgfkmiaikegaaPeF1
namespace Go.Proofs.Ytjdgfkmiaikegaa.Pe
open Go Go.RowKit Go.Proofs Vm
set_option linter.unusedVariables false
set_option linter.unusedSimpArgs false
set_option maxRecDepth 100000
abbrev Yc0 : Type := Int × Int × Int × Int × (Sl S_impl_Entry) × Int × Int × (Sl Int) × (Sl Int) × (Sl Int)
abbrev Yc1 : Type := Int × Int × Int × Int × (Sl S_impl_Entry) × Int × Int × (Sl Int) × (Sl Int) × (Sl Int) × Int
abbrev Yc2 : Type := Int × Int × Int × Int × Int × Nat × Int × Int × Nat × Nat × Nat × Nat × Nat × (Nat → S_impl_Entry) × Nat × (Nat → Int) × Nat × (Nat → Int) × Nat × (Nat → Int) × Nat × (Nat → S_impl_Mail)
def F_spec_l8Id (fu : Nat) (n_0 : S_impl_Node) (id_1 : Int) : Option (Bool) :=
 ((F_spec_l1In fu id_1 0 (IntKind.wrap .i64 (n_0.Peers - 1))).bind fun y173 => (some y173))
def pcf_a32 (fu f : Nat) (xs : List (D RT den)) : Option (Out RT den) := match f with | 69 => S_a31 fu xs | _ => none
def pc_a32 (fu : Nat) : Pc RT den := ⟨pcf_a32 fu, fun _ => false, fun _ => false, pcd0, pcd0, pcx0⟩
def msk_a32 (b : Nat) : List Nat := []
def lp_a32 (fu : Nat) : Lp RT den (Bool) := ⟨fun b s k => none, inl0⟩
theorem ev_a32 (fu : Nat) (n_0 : S_impl_Node) (id_1 : Int) : evFun E (pc_a32 fu) msk_a32 (lp_a32 fu) out_bo 70 [(.rptr [(ii n_0.Id), (ii n_0.Peers), (ii n_0.Term), (ii n_0.Voted), (.rs n_0.Log.z .impl_Entry n_0.Log.n n_0.Log.f), (ii n_0.Role), (ii n_0.Commit), (.rs n_0.Votes.z .i64 n_0.Votes.n n_0.Votes.f), (.rs n_0.Next.z .i64 n_0.Next.n n_0.Next.f), (.rs n_0.Match.z .i64 n_0.Match.n n_0.Match.f)]), (ii id_1)] = F_spec_l8Id fu n_0 id_1 := by kernel_rfl
noncomputable def body_a32 : Code := Try.f70.body.getD .skip
theorem lpok_a32 (fu : Nat) : LpOk E (pc_a32 fu) 0 msk_a32 (lp_a32 fu) (loops 0 body_a32) := lp_nil (loop_nil (by kernel_rfl)) (by kernel_rfl)
def S_a32 (fu : Nat) (xs : List (D RT den)) : Option (Out RT den) := match xs with | [.rptr (.int .i64 a0_1 :: .int .i64 a0_2 :: .int .i64 a0_3 :: .int .i64 a0_4 :: .rs za0_5 .impl_Entry na0_5 fa0_5 :: .int .i64 a0_6 :: .int .i64 a0_7 :: .rs za0_8 .i64 na0_8 fa0_8 :: .rs za0_9 .i64 na0_9 fa0_9 :: .rs za0_10 .i64 na0_10 fa0_10 :: ra0), .int .i64 a1_0] => some ⟨Bool, F_spec_l8Id fu (⟨a0_1, a0_2, a0_3, a0_4, (⟨za0_5, na0_5, fa0_5⟩ : (Sl S_impl_Entry)), a0_6, a0_7, (⟨za0_8, na0_8, fa0_8⟩ : (Sl Int)), (⟨za0_9, na0_9, fa0_9⟩ : (Sl Int)), (⟨za0_10, na0_10, fa0_10⟩ : (Sl Int))⟩ : S_impl_Node) a1_0, enc_bo, fun _ => true⟩ | _ => none
theorem hpc_a32 (fu : Nat) : HpcOk E Try.prog (pcf_a32 fu) := by
 intro f xs o h
 unfold pcf_a32 at h
 split at h
 ·exact good_a31 fu xs o h
 ·cases h
theorem goodv_a32 (fu : Nat) (n_0 : S_impl_Node) (id_1 : Int) (y : Bool) (hy : F_spec_l8Id fu n_0 id_1 = some y) : Good E Try.prog 70 [(.rptr [(ii n_0.Id), (ii n_0.Peers), (ii n_0.Term), (ii n_0.Voted), (.rs n_0.Log.z .impl_Entry n_0.Log.n n_0.Log.f), (ii n_0.Role), (ii n_0.Commit), (.rs n_0.Votes.z .i64 n_0.Votes.n n_0.Votes.f), (.rs n_0.Next.z .i64 n_0.Next.n n_0.Next.f), (.rs n_0.Match.z .i64 n_0.Match.n n_0.Match.f)]), (ii id_1)] (enc_bo y) :=
 fun_good E_ok (pc_good (pc := pc_a32 fu) (hpc_a32 fu) hpx0) (fn := Try.f70) (by kernel_rfl) (by kernel_rfl) (by kernel_rfl) (lpok_a32 fu) (fun d hd => out_bo_enc d _ hd) ((ev_a32 fu n_0 id_1).trans hy)
theorem good_a32 (fu : Nat) : GoodS E Try.prog 70 (S_a32 fu) := by
 intro xs o h y hy
 unfold S_a32 at h
 split at h
 ·rename_i a0_1 a0_2 a0_3 a0_4 za0_5 na0_5 fa0_5 a0_6 a0_7 za0_8 na0_8 fa0_8 za0_9 na0_9 fa0_9 za0_10 na0_10 fa0_10 ra0 a1_0
  cases h
  exact (goodv_a32 fu (⟨a0_1, a0_2, a0_3, a0_4, (⟨za0_5, na0_5, fa0_5⟩ : (Sl S_impl_Entry)), a0_6, a0_7, (⟨za0_8, na0_8, fa0_8⟩ : (Sl Int)), (⟨za0_9, na0_9, fa0_9⟩ : (Sl Int)), (⟨za0_10, na0_10, fa0_10⟩ : (Sl Int))⟩ : S_impl_Node) a1_0 y hy).sub ⟨Sub.of_eq ra0 rfl, .refl _, trivial⟩
 ·cases h
def F_spec_l5Needs (fu : Nat) (kind_0 : Int) : Option (Bool × Bool × Bool × Bool) :=
 ((F_spec_l1In fu kind_0 5 8).bind fun y217 => (bif (kind_0 != 5) then (bif (kind_0 == 1) then (some ((kind_0 != 6), true, (kind_0 != 4), y217)) else (some ((kind_0 != 6), y217,
  (kind_0 != 4), y217))) else (bif (kind_0 == 1) then (some (false, true, (kind_0 != 4), y217)) else (some (false, y217, (kind_0 != 4), y217)))))
def pcf_a33 (fu f : Nat) (xs : List (D RT den)) : Option (Out RT den) := match f with | 69 => S_a31 fu xs | _ => none
def pc_a33 (fu : Nat) : Pc RT den := ⟨pcf_a33 fu, fun _ => false, fun _ => false, pcd0, pcd0, pcx0⟩
def msk_a33 (b : Nat) : List Nat := []
def lp_a33 (fu : Nat) : Lp RT den (Bool × Bool × Bool × Bool) := ⟨fun b s k => none, inl0⟩
theorem ev_a33 (fu : Nat) (kind_0 : Int) : evFun E (pc_a33 fu) msk_a33 (lp_a33 fu) out_bo_bo_bo_bo 95 [(ii kind_0)] = F_spec_l5Needs fu kind_0 := by kernel_rfl
noncomputable def body_a33 : Code := Try.f95.body.getD .skip
theorem lpok_a33 (fu : Nat) : LpOk E (pc_a33 fu) 0 msk_a33 (lp_a33 fu) (loops 0 body_a33) := lp_nil (loop_nil (by kernel_rfl)) (by kernel_rfl)
def S_a33 (fu : Nat) (xs : List (D RT den)) : Option (Out RT den) := match xs with | [.int .i64 a0_0] => some ⟨Bool × Bool × Bool × Bool, F_spec_l5Needs fu a0_0, enc_bo_bo_bo_bo, fun _ => true⟩ | _ => none
theorem hpc_a33 (fu : Nat) : HpcOk E Try.prog (pcf_a33 fu) := by
 intro f xs o h
 unfold pcf_a33 at h
 split at h
 ·exact good_a31 fu xs o h
 ·cases h
theorem goodv_a33 (fu : Nat) (kind_0 : Int) (y : Bool × Bool × Bool × Bool) (hy : F_spec_l5Needs fu kind_0 = some y) : Good E Try.prog 95 [(ii kind_0)] (enc_bo_bo_bo_bo y) :=
 fun_good E_ok (pc_good (pc := pc_a33 fu) (hpc_a33 fu) hpx0) (fn := Try.f95) (by kernel_rfl) (by kernel_rfl) (by kernel_rfl) (lpok_a33 fu) (fun d hd => out_bo_bo_bo_bo_enc d _ hd) ((ev_a33 fu kind_0).trans hy)
theorem good_a33 (fu : Nat) : GoodS E Try.prog 95 (S_a33 fu) := by
 intro xs o h y hy
 unfold S_a33 at h
 split at h
 ·rename_i a0_0
  cases h
  exact goodv_a33 fu a0_0 y hy
 ·cases h
def F_spec_l5Version (fu : Nat) (v_0 : Int) : Option (Bool) :=
 ((F_spec_l1In fu v_0 0 1000000).bind fun y218 => (some y218))
def pcf_a34 (fu f : Nat) (xs : List (D RT den)) : Option (Out RT den) := match f with | 69 => S_a31 fu xs | _ => none
def pc_a34 (fu : Nat) : Pc RT den := ⟨pcf_a34 fu, fun _ => false, fun _ => false, pcd0, pcd0, pcx0⟩
def msk_a34 (b : Nat) : List Nat := []
def lp_a34 (fu : Nat) : Lp RT den (Bool) := ⟨fun b s k => none, inl0⟩
theorem ev_a34 (fu : Nat) (v_0 : Int) : evFun E (pc_a34 fu) msk_a34 (lp_a34 fu) out_bo 101 [(ii v_0)] = F_spec_l5Version fu v_0 := by kernel_rfl
noncomputable def body_a34 : Code := Try.f101.body.getD .skip
theorem lpok_a34 (fu : Nat) : LpOk E (pc_a34 fu) 0 msk_a34 (lp_a34 fu) (loops 0 body_a34) := lp_nil (loop_nil (by kernel_rfl)) (by kernel_rfl)
def S_a34 (fu : Nat) (xs : List (D RT den)) : Option (Out RT den) := match xs with | [.int .i64 a0_0] => some ⟨Bool, F_spec_l5Version fu a0_0, enc_bo, fun _ => true⟩ | _ => none
theorem hpc_a34 (fu : Nat) : HpcOk E Try.prog (pcf_a34 fu) := by
 intro f xs o h
 unfold pcf_a34 at h
 split at h
 ·exact good_a31 fu xs o h
 ·cases h
theorem goodv_a34 (fu : Nat) (v_0 : Int) (y : Bool) (hy : F_spec_l5Version fu v_0 = some y) : Good E Try.prog 101 [(ii v_0)] (enc_bo y) :=
 fun_good E_ok (pc_good (pc := pc_a34 fu) (hpc_a34 fu) hpx0) (fn := Try.f101) (by kernel_rfl) (by kernel_rfl) (by kernel_rfl) (lpok_a34 fu) (fun d hd => out_bo_enc d _ hd) ((ev_a34 fu v_0).trans hy)
theorem good_a34 (fu : Nat) : GoodS E Try.prog 101 (S_a34 fu) := by
 intro xs o h y hy
 unfold S_a34 at h
 split at h
 ·rename_i a0_0
  cases h
  exact goodv_a34 fu a0_0 y hy
 ·cases h
def F_spec_l3Name (fu : Nat) (name_0 : Int) : Option (Bool) :=
 ((F_spec_l1In fu name_0 1 999).bind fun y219 => (some y219))
def pcf_a35 (fu f : Nat) (xs : List (D RT den)) : Option (Out RT den) := match f with | 69 => S_a31 fu xs | _ => none
def pc_a35 (fu : Nat) : Pc RT den := ⟨pcf_a35 fu, fun _ => false, fun _ => false, pcd0, pcd0, pcx0⟩
def msk_a35 (b : Nat) : List Nat := []
def lp_a35 (fu : Nat) : Lp RT den (Bool) := ⟨fun b s k => none, inl0⟩
theorem ev_a35 (fu : Nat) (name_0 : Int) : evFun E (pc_a35 fu) msk_a35 (lp_a35 fu) out_bo 102 [(ii name_0)] = F_spec_l3Name fu name_0 := by kernel_rfl
noncomputable def body_a35 : Code := Try.f102.body.getD .skip
theorem lpok_a35 (fu : Nat) : LpOk E (pc_a35 fu) 0 msk_a35 (lp_a35 fu) (loops 0 body_a35) := lp_nil (loop_nil (by kernel_rfl)) (by kernel_rfl)
def S_a35 (fu : Nat) (xs : List (D RT den)) : Option (Out RT den) := match xs with | [.int .i64 a0_0] => some ⟨Bool, F_spec_l3Name fu a0_0, enc_bo, fun _ => true⟩ | _ => none
theorem hpc_a35 (fu : Nat) : HpcOk E Try.prog (pcf_a35 fu) := by
 intro f xs o h
 unfold pcf_a35 at h
 split at h
 ·exact good_a31 fu xs o h
 ·cases h
theorem goodv_a35 (fu : Nat) (name_0 : Int) (y : Bool) (hy : F_spec_l3Name fu name_0 = some y) : Good E Try.prog 102 [(ii name_0)] (enc_bo y) :=
 fun_good E_ok (pc_good (pc := pc_a35 fu) (hpc_a35 fu) hpx0) (fn := Try.f102) (by kernel_rfl) (by kernel_rfl) (by kernel_rfl) (lpok_a35 fu) (fun d hd => out_bo_enc d _ hd) ((ev_a35 fu name_0).trans hy)
theorem good_a35 (fu : Nat) : GoodS E Try.prog 102 (S_a35 fu) := by
 intro xs o h y hy
 unfold S_a35 at h
 split at h
 ·rename_i a0_0
  cases h
  exact goodv_a35 fu a0_0 y hy
 ·cases h
def F_spec_l2Address (fu : Nat) (a_0 : Int) : Option (Bool) :=
 ((F_spec_l1In fu a_0 0 4294967295).bind fun y220 => (some y220))
def pcf_a36 (fu f : Nat) (xs : List (D RT den)) : Option (Out RT den) := match f with | 69 => S_a31 fu xs | _ => none
def pc_a36 (fu : Nat) : Pc RT den := ⟨pcf_a36 fu, fun _ => false, fun _ => false, pcd0, pcd0, pcx0⟩
def msk_a36 (b : Nat) : List Nat := []
def lp_a36 (fu : Nat) : Lp RT den (Bool) := ⟨fun b s k => none, inl0⟩
theorem ev_a36 (fu : Nat) (a_0 : Int) : evFun E (pc_a36 fu) msk_a36 (lp_a36 fu) out_bo 103 [(ii a_0)] = F_spec_l2Address fu a_0 := by kernel_rfl
noncomputable def body_a36 : Code := Try.f103.body.getD .skip
theorem lpok_a36 (fu : Nat) : LpOk E (pc_a36 fu) 0 msk_a36 (lp_a36 fu) (loops 0 body_a36) := lp_nil (loop_nil (by kernel_rfl)) (by kernel_rfl)
def S_a36 (fu : Nat) (xs : List (D RT den)) : Option (Out RT den) := match xs with | [.int .i64 a0_0] => some ⟨Bool, F_spec_l2Address fu a0_0, enc_bo, fun _ => true⟩ | _ => none
theorem hpc_a36 (fu : Nat) : HpcOk E Try.prog (pcf_a36 fu) := by
 intro f xs o h
 unfold pcf_a36 at h
 split at h
 ·exact good_a31 fu xs o h
 ·cases h
theorem goodv_a36 (fu : Nat) (a_0 : Int) (y : Bool) (hy : F_spec_l2Address fu a_0 = some y) : Good E Try.prog 103 [(ii a_0)] (enc_bo y) :=
 fun_good E_ok (pc_good (pc := pc_a36 fu) (hpc_a36 fu) hpx0) (fn := Try.f103) (by kernel_rfl) (by kernel_rfl) (by kernel_rfl) (lpok_a36 fu) (fun d hd => out_bo_enc d _ hd) ((ev_a36 fu a_0).trans hy)
theorem good_a36 (fu : Nat) : GoodS E Try.prog 103 (S_a36 fu) := by
 intro xs o h y hy
 unfold S_a36 at h
 split at h
 ·rename_i a0_0
  cases h
  exact goodv_a36 fu a0_0 y hy
 ·cases h
def F_spec_l2Port (fu : Nat) (p_0 : Int) : Option (Bool) :=
 ((F_spec_l1In fu p_0 0 65535).bind fun y226 => (some y226))
def pcf_a37 (fu f : Nat) (xs : List (D RT den)) : Option (Out RT den) := match f with | 69 => S_a31 fu xs | _ => none
def pc_a37 (fu : Nat) : Pc RT den := ⟨pcf_a37 fu, fun _ => false, fun _ => false, pcd0, pcd0, pcx0⟩
def msk_a37 (b : Nat) : List Nat := []
def lp_a37 (fu : Nat) : Lp RT den (Bool) := ⟨fun b s k => none, inl0⟩
theorem ev_a37 (fu : Nat) (p_0 : Int) : evFun E (pc_a37 fu) msk_a37 (lp_a37 fu) out_bo 109 [(ii p_0)] = F_spec_l2Port fu p_0 := by kernel_rfl
noncomputable def body_a37 : Code := Try.f109.body.getD .skip
theorem lpok_a37 (fu : Nat) : LpOk E (pc_a37 fu) 0 msk_a37 (lp_a37 fu) (loops 0 body_a37) := lp_nil (loop_nil (by kernel_rfl)) (by kernel_rfl)
def S_a37 (fu : Nat) (xs : List (D RT den)) : Option (Out RT den) := match xs with | [.int .i64 a0_0] => some ⟨Bool, F_spec_l2Port fu a0_0, enc_bo, fun _ => true⟩ | _ => none
theorem hpc_a37 (fu : Nat) : HpcOk E Try.prog (pcf_a37 fu) := by
 intro f xs o h
 unfold pcf_a37 at h
 split at h
 ·exact good_a31 fu xs o h
 ·cases h
theorem goodv_a37 (fu : Nat) (p_0 : Int) (y : Bool) (hy : F_spec_l2Port fu p_0 = some y) : Good E Try.prog 109 [(ii p_0)] (enc_bo y) :=
 fun_good E_ok (pc_good (pc := pc_a37 fu) (hpc_a37 fu) hpx0) (fn := Try.f109) (by kernel_rfl) (by kernel_rfl) (by kernel_rfl) (lpok_a37 fu) (fun d hd => out_bo_enc d _ hd) ((ev_a37 fu p_0).trans hy)
theorem good_a37 (fu : Nat) : GoodS E Try.prog 109 (S_a37 fu) := by
 intro xs o h y hy
 unfold S_a37 at h
 split at h
 ·rename_i a0_0
  cases h
  exact goodv_a37 fu a0_0 y hy
 ·cases h
def F_spec_l5Number (fu : Nat) (x_0 : S_impl_Cmd) : Option (Bool) :=
 (bif (x_0.Kind == 1) then ((F_spec_l1In fu x_0.Number 0 9).bind fun y221 => (some y221)) else (bif (x_0.Kind == 2) then ((F_spec_l1In fu x_0.Number 0 9).bind fun y222 => (some y222)) else
  (bif (x_0.Kind == 3) then ((F_spec_l1In fu x_0.Number 1 3).bind fun y223 => (some y223)) else (bif (x_0.Kind == 9) then ((F_spec_l1In fu x_0.Number 0 1).bind fun y224 => (some y224)) else
  ((F_spec_l2Port fu x_0.Number).bind fun y225 => (some y225))))))
def pcf_a38 (fu f : Nat) (xs : List (D RT den)) : Option (Out RT den) := match f with | 69 => S_a31 fu xs | 109 => S_a37 fu xs | _ => none
def pc_a38 (fu : Nat) : Pc RT den := ⟨pcf_a38 fu, fun _ => false, fun _ => false, pcd0, pcd0, pcx0⟩
def msk_a38 (b : Nat) : List Nat := []
def lp_a38 (fu : Nat) : Lp RT den (Bool) := ⟨fun b s k => none, inl0⟩
theorem ev_a38 (fu : Nat) (x_0 : S_impl_Cmd) : evFun E (pc_a38 fu) msk_a38 (lp_a38 fu) out_bo 104 [(.agg [(ii x_0.Kind), (ii x_0.Expect), (ii x_0.Name), (ii x_0.Addr), (ii x_0.Number), (ii x_0.Proto)])] = F_spec_l5Number fu x_0 := by kernel_rfl
noncomputable def body_a38 : Code := Try.f104.body.getD .skip
theorem lpok_a38 (fu : Nat) : LpOk E (pc_a38 fu) 0 msk_a38 (lp_a38 fu) (loops 0 body_a38) := lp_nil (loop_nil (by kernel_rfl)) (by kernel_rfl)
def S_a38 (fu : Nat) (xs : List (D RT den)) : Option (Out RT den) := match xs with | [.agg [.int .i64 a0_1, .int .i64 a0_2, .int .i64 a0_3, .int .i64 a0_4, .int .i64 a0_5, .int .i64 a0_6]] => some ⟨Bool, F_spec_l5Number fu (⟨a0_1, a0_2, a0_3, a0_4, a0_5, a0_6⟩ : S_impl_Cmd), enc_bo, fun _ => true⟩ | _ => none
theorem hpc_a38 (fu : Nat) : HpcOk E Try.prog (pcf_a38 fu) := by
 intro f xs o h
 unfold pcf_a38 at h
 split at h
 ·exact good_a31 fu xs o h
 ·exact good_a37 fu xs o h
 ·cases h
theorem goodv_a38 (fu : Nat) (x_0 : S_impl_Cmd) (y : Bool) (hy : F_spec_l5Number fu x_0 = some y) : Good E Try.prog 104 [(.agg [(ii x_0.Kind), (ii x_0.Expect), (ii x_0.Name), (ii x_0.Addr), (ii x_0.Number), (ii x_0.Proto)])] (enc_bo y) :=
 fun_good E_ok (pc_good (pc := pc_a38 fu) (hpc_a38 fu) hpx0) (fn := Try.f104) (by kernel_rfl) (by kernel_rfl) (by kernel_rfl) (lpok_a38 fu) (fun d hd => out_bo_enc d _ hd) ((ev_a38 fu x_0).trans hy)
theorem good_a38 (fu : Nat) : GoodS E Try.prog 104 (S_a38 fu) := by
 intro xs o h y hy
 unfold S_a38 at h
 split at h
 ·rename_i a0_1 a0_2 a0_3 a0_4 a0_5 a0_6
  cases h
  exact goodv_a38 fu (⟨a0_1, a0_2, a0_3, a0_4, a0_5, a0_6⟩ : S_impl_Cmd) y hy
 ·cases h
def F_spec_l5Proto (fu : Nat) (p_0 : Int) : Option (Bool) :=
 (((bif (p_0 == 6) then (some true) else (some (p_0 == 17))) : Option Bool).bind fun m227 => (some m227))
def pc_a39 (fu : Nat) : Pc RT den := ⟨pcf0, fun _ => false, fun _ => false, pcd0, pcd0, pcx0⟩
def msk_a39 (b : Nat) : List Nat := match b with | 200001 => [2] | _ => []
def lp_a39 (fu : Nat) : Lp RT den (Bool) := ⟨fun b s k => none, inl0⟩
theorem ev_a39 (fu : Nat) (p_0 : Int) : evFun E (pc_a39 fu) msk_a39 (lp_a39 fu) out_bo 105 [(ii p_0)] = F_spec_l5Proto fu p_0 := by kernel_rfl
noncomputable def body_a39 : Code := Try.f105.body.getD .skip
theorem lpok_a39 (fu : Nat) : LpOk E (pc_a39 fu) 0 msk_a39 (lp_a39 fu) (loops 0 body_a39) := lp_nil (loop_nil (by kernel_rfl)) (by kernel_rfl)
def S_a39 (fu : Nat) (xs : List (D RT den)) : Option (Out RT den) := match xs with | [.int .i64 a0_0] => some ⟨Bool, F_spec_l5Proto fu a0_0, enc_bo, fun _ => true⟩ | _ => none
theorem goodv_a39 (fu : Nat) (p_0 : Int) (y : Bool) (hy : F_spec_l5Proto fu p_0 = some y) : Good E Try.prog 105 [(ii p_0)] (enc_bo y) :=
 fun_good E_ok (pc_good (pc := pc_a39 fu) hpc0 hpx0) (fn := Try.f105) (by kernel_rfl) (by kernel_rfl) (by kernel_rfl) (lpok_a39 fu) (fun d hd => out_bo_enc d _ hd) ((ev_a39 fu p_0).trans hy)
theorem good_a39 (fu : Nat) : GoodS E Try.prog 105 (S_a39 fu) := by
 intro xs o h y hy
 unfold S_a39 at h
 split at h
 ·rename_i a0_0
  cases h
  exact goodv_a39 fu a0_0 y hy
 ·cases h
def F_spec_CmdFault (fu : Nat) (x_0 : S_impl_Cmd) : Option (Int) :=
 ((F_spec_l1In fu x_0.Kind 1 9).bind fun y182 => (bif (!y182) then (some 1) else ((F_spec_l5Needs fu x_0.Kind).bind fun y183 => (((bif (x_0.Expect != (-1)) then ((F_spec_l5Version fu x_0.Expect).bind fun y184 =>
  (bif (!y184) then (some true) else (bif y183.1 then ((F_spec_l3Name fu x_0.Name).bind fun y185 => (bif (!y185) then (some true) else (bif y183.2.1 then ((F_spec_l2Address fu x_0.Addr).bind fun y186 =>
  (bif (!y186) then (some true) else (bif y183.2.2.1 then ((F_spec_l5Number fu x_0).bind fun y187 => (bif (!y187) then (some true) else (bif y183.2.2.2 then ((F_spec_l5Proto fu x_0.Proto).bind fun y188 =>
  (some (!y188))) else (some false)))) else (bif y183.2.2.2 then ((F_spec_l5Proto fu x_0.Proto).bind fun y189 => (some (!y189))) else (some false))))) else (bif y183.2.2.1 then
  ((F_spec_l5Number fu x_0).bind fun y190 => (bif (!y190) then (some true) else (bif y183.2.2.2 then ((F_spec_l5Proto fu x_0.Proto).bind fun y191 => (some (!y191))) else (some false)))) else
  (bif y183.2.2.2 then ((F_spec_l5Proto fu x_0.Proto).bind fun y192 => (some (!y192))) else (some false)))))) else (bif y183.2.1 then ((F_spec_l2Address fu x_0.Addr).bind fun y193 =>
  (bif (!y193) then (some true) else (bif y183.2.2.1 then ((F_spec_l5Number fu x_0).bind fun y194 => (bif (!y194) then (some true) else (bif y183.2.2.2 then ((F_spec_l5Proto fu x_0.Proto).bind fun y195 =>
  (some (!y195))) else (some false)))) else (bif y183.2.2.2 then ((F_spec_l5Proto fu x_0.Proto).bind fun y196 => (some (!y196))) else (some false))))) else (bif y183.2.2.1 then
  ((F_spec_l5Number fu x_0).bind fun y197 => (bif (!y197) then (some true) else (bif y183.2.2.2 then ((F_spec_l5Proto fu x_0.Proto).bind fun y198 => (some (!y198))) else (some false)))) else
  (bif y183.2.2.2 then ((F_spec_l5Proto fu x_0.Proto).bind fun y199 => (some (!y199))) else (some false))))))) else (bif y183.1 then ((F_spec_l3Name fu x_0.Name).bind fun y200 =>
  (bif (!y200) then (some true) else (bif y183.2.1 then ((F_spec_l2Address fu x_0.Addr).bind fun y201 => (bif (!y201) then (some true) else (bif y183.2.2.1 then ((F_spec_l5Number fu x_0).bind fun y202 =>
  (bif (!y202) then (some true) else (bif y183.2.2.2 then ((F_spec_l5Proto fu x_0.Proto).bind fun y203 => (some (!y203))) else (some false)))) else (bif y183.2.2.2 then
  ((F_spec_l5Proto fu x_0.Proto).bind fun y204 => (some (!y204))) else (some false))))) else (bif y183.2.2.1 then ((F_spec_l5Number fu x_0).bind fun y205 => (bif (!y205) then
  (some true) else (bif y183.2.2.2 then ((F_spec_l5Proto fu x_0.Proto).bind fun y206 => (some (!y206))) else (some false)))) else (bif y183.2.2.2 then ((F_spec_l5Proto fu x_0.Proto).bind fun y207 =>
  (some (!y207))) else (some false)))))) else (bif y183.2.1 then ((F_spec_l2Address fu x_0.Addr).bind fun y208 => (bif (!y208) then (some true) else (bif y183.2.2.1 then
  ((F_spec_l5Number fu x_0).bind fun y209 => (bif (!y209) then (some true) else (bif y183.2.2.2 then ((F_spec_l5Proto fu x_0.Proto).bind fun y210 => (some (!y210))) else (some false)))) else
  (bif y183.2.2.2 then ((F_spec_l5Proto fu x_0.Proto).bind fun y211 => (some (!y211))) else (some false))))) else (bif y183.2.2.1 then ((F_spec_l5Number fu x_0).bind fun y212 =>
  (bif (!y212) then (some true) else (bif y183.2.2.2 then ((F_spec_l5Proto fu x_0.Proto).bind fun y213 => (some (!y213))) else (some false)))) else (bif y183.2.2.2 then
  ((F_spec_l5Proto fu x_0.Proto).bind fun y214 => (some (!y214))) else (some false)))))) : Option Bool).bind fun m215 => (bif m215 then (some 3) else (((bif (!y183.1) then (bif (x_0.Name != 0) then
  (some true) else (bif (!y183.2.1) then (bif (x_0.Addr != 0) then (some true) else (bif (!y183.2.2.1) then (bif (x_0.Number != 0) then (some true) else (bif (!y183.2.2.2) then
  (some (x_0.Proto != 0)) else (some false))) else (bif (!y183.2.2.2) then (some (x_0.Proto != 0)) else (some false)))) else (bif (!y183.2.2.1) then (bif (x_0.Number != 0) then
  (some true) else (bif (!y183.2.2.2) then (some (x_0.Proto != 0)) else (some false))) else (bif (!y183.2.2.2) then (some (x_0.Proto != 0)) else (some false))))) else (bif (!y183.2.1) then
  (bif (x_0.Addr != 0) then (some true) else (bif (!y183.2.2.1) then (bif (x_0.Number != 0) then (some true) else (bif (!y183.2.2.2) then (some (x_0.Proto != 0)) else (some false))) else
  (bif (!y183.2.2.2) then (some (x_0.Proto != 0)) else (some false)))) else (bif (!y183.2.2.1) then (bif (x_0.Number != 0) then (some true) else (bif (!y183.2.2.2) then (some (x_0.Proto != 0)) else
  (some false))) else (bif (!y183.2.2.2) then (some (x_0.Proto != 0)) else (some false))))) : Option Bool).bind fun m216 => (bif m216 then (some 1) else (some 0))))))))
def pcf_b0 (fu f : Nat) (xs : List (D RT den)) : Option (Out RT den) := match f with | 69 => S_a31 fu xs | 95 => S_a33 fu xs | 101 => S_a34 fu xs | 102 => S_a35 fu xs | 103 => S_a36 fu xs | 104 => S_a38 fu xs | 105 => S_a39 fu xs | _ => none
def pc_b0 (fu : Nat) : Pc RT den := ⟨pcf_b0 fu, fun _ => false, fun _ => false, pcd0, pcd0, pcx0⟩
def msk_b0 (b : Nat) : List Nat := match b with | 200004 => [62] | 200006 => [96] | _ => []
def lp_b0 (fu : Nat) : Lp RT den (Int) := ⟨fun b s k => none, inl0⟩
theorem ev_b0 (fu : Nat) (x_0 : S_impl_Cmd) : evFun E (pc_b0 fu) msk_b0 (lp_b0 fu) out_i64 89 [(.agg [(ii x_0.Kind), (ii x_0.Expect), (ii x_0.Name), (ii x_0.Addr), (ii x_0.Number), (ii x_0.Proto)])] = F_spec_CmdFault fu x_0 := by kernel_rfl
noncomputable def body_b0 : Code := Try.f89.body.getD .skip
theorem lpok_b0 (fu : Nat) : LpOk E (pc_b0 fu) 0 msk_b0 (lp_b0 fu) (loops 0 body_b0) := lp_nil (loop_nil (by kernel_rfl)) (by kernel_rfl)
def S_b0 (fu : Nat) (xs : List (D RT den)) : Option (Out RT den) := match xs with | [.agg [.int .i64 a0_1, .int .i64 a0_2, .int .i64 a0_3, .int .i64 a0_4, .int .i64 a0_5, .int .i64 a0_6]] => some ⟨Int, F_spec_CmdFault fu (⟨a0_1, a0_2, a0_3, a0_4, a0_5, a0_6⟩ : S_impl_Cmd), enc_i64, fun _ => true⟩ | _ => none
theorem hpc_b0 (fu : Nat) : HpcOk E Try.prog (pcf_b0 fu) := by
 intro f xs o h
 unfold pcf_b0 at h
 split at h
 ·exact good_a31 fu xs o h
 ·exact good_a33 fu xs o h
 ·exact good_a34 fu xs o h
 ·exact good_a35 fu xs o h
 ·exact good_a36 fu xs o h
 ·exact good_a38 fu xs o h
 ·exact good_a39 fu xs o h
 ·cases h
theorem goodv_b0 (fu : Nat) (x_0 : S_impl_Cmd) (y : Int) (hy : F_spec_CmdFault fu x_0 = some y) : Good E Try.prog 89 [(.agg [(ii x_0.Kind), (ii x_0.Expect), (ii x_0.Name), (ii x_0.Addr), (ii x_0.Number), (ii x_0.Proto)])] (enc_i64 y) :=
 fun_good E_ok (pc_good (pc := pc_b0 fu) (hpc_b0 fu) hpx0) (fn := Try.f89) (by kernel_rfl) (by kernel_rfl) (by kernel_rfl) (lpok_b0 fu) (fun d hd => out_i64_enc d _ hd) ((ev_b0 fu x_0).trans hy)
theorem good_b0 (fu : Nat) : GoodS E Try.prog 89 (S_b0 fu) := by
 intro xs o h y hy
 unfold S_b0 at h
 split at h
 ·rename_i a0_1 a0_2 a0_3 a0_4 a0_5 a0_6
  cases h
  exact goodv_b0 fu (⟨a0_1, a0_2, a0_3, a0_4, a0_5, a0_6⟩ : S_impl_Cmd) y hy
 ·cases h
def F_spec_EntryFault (fu : Nat) (x_0 : S_impl_Entry) : Option (Int) :=
 ((((F_spec_l1In fu x_0.Term 1 100000).bind fun y177 => (bif (!y177) then (some true) else ((F_spec_l1In fu x_0.Client 0 999).bind fun y178 => (bif (!y178) then (some true) else
  ((F_spec_l1In fu x_0.Seq 0 1000000).bind fun y179 => (some (!y179))))))) : Option Bool).bind fun m180 => (bif m180 then (some 3) else (bif (!((x_0.Client == 0) == (x_0.Seq == 0))) then
  (some 1) else (bif (x_0.Client != 0) then ((F_spec_CmdFault fu x_0.Cmd).bind fun y181 => (some y181)) else (bif (!((x_0.Cmd.Kind == 0) && ((x_0.Cmd.Expect == 0) &&
  ((x_0.Cmd.Name == 0) && ((x_0.Cmd.Addr == 0) && ((x_0.Cmd.Number == 0) && ((x_0.Cmd.Proto == 0) && true))))))) then (some 1) else (some 0))))))
def pcf_b1 (fu f : Nat) (xs : List (D RT den)) : Option (Out RT den) := match f with | 69 => S_a31 fu xs | 89 => S_b0 fu xs | _ => none
def pc_b1 (fu : Nat) : Pc RT den := ⟨pcf_b1 fu, fun _ => false, fun _ => false, pcd0, pcd0, pcx0⟩
def msk_b1 (b : Nat) : List Nat := match b with | 200001 => [19] | _ => []
def lp_b1 (fu : Nat) : Lp RT den (Int) := ⟨fun b s k => none, inl0⟩
theorem ev_b1 (fu : Nat) (x_0 : S_impl_Entry) : evFun E (pc_b1 fu) msk_b1 (lp_b1 fu) out_i64 67 [(.agg [(ii x_0.Term), (ii x_0.Client), (ii x_0.Seq), (ii x_0.Cmd.Kind), (ii x_0.Cmd.Expect), (ii x_0.Cmd.Name), (ii x_0.Cmd.Addr), (ii x_0.Cmd.Number), (ii x_0.Cmd.Proto)])] = F_spec_EntryFault fu x_0 := by kernel_rfl
noncomputable def body_b1 : Code := Try.f67.body.getD .skip
theorem lpok_b1 (fu : Nat) : LpOk E (pc_b1 fu) 0 msk_b1 (lp_b1 fu) (loops 0 body_b1) := lp_nil (loop_nil (by kernel_rfl)) (by kernel_rfl)
def S_b1 (fu : Nat) (xs : List (D RT den)) : Option (Out RT den) := match xs with | [.agg [.int .i64 a0_1, .int .i64 a0_2, .int .i64 a0_3, .int .i64 a0_5, .int .i64 a0_6, .int .i64 a0_7, .int .i64 a0_8, .int .i64 a0_9, .int .i64 a0_10]] => some ⟨Int, F_spec_EntryFault fu (⟨a0_1, a0_2, a0_3, (⟨a0_5, a0_6, a0_7, a0_8, a0_9, a0_10⟩ : S_impl_Cmd)⟩ : S_impl_Entry), enc_i64, fun _ => true⟩ | _ => none
theorem hpc_b1 (fu : Nat) : HpcOk E Try.prog (pcf_b1 fu) := by
 intro f xs o h
 unfold pcf_b1 at h
 split at h
 ·exact good_a31 fu xs o h
 ·exact good_b0 fu xs o h
 ·cases h
theorem goodv_b1 (fu : Nat) (x_0 : S_impl_Entry) (y : Int) (hy : F_spec_EntryFault fu x_0 = some y) : Good E Try.prog 67 [(.agg [(ii x_0.Term), (ii x_0.Client), (ii x_0.Seq), (ii x_0.Cmd.Kind), (ii x_0.Cmd.Expect), (ii x_0.Cmd.Name), (ii x_0.Cmd.Addr), (ii x_0.Cmd.Number), (ii x_0.Cmd.Proto)])] (enc_i64 y) :=
 fun_good E_ok (pc_good (pc := pc_b1 fu) (hpc_b1 fu) hpx0) (fn := Try.f67) (by kernel_rfl) (by kernel_rfl) (by kernel_rfl) (lpok_b1 fu) (fun d hd => out_i64_enc d _ hd) ((ev_b1 fu x_0).trans hy)
theorem good_b1 (fu : Nat) : GoodS E Try.prog 67 (S_b1 fu) := by
 intro xs o h y hy
 unfold S_b1 at h
 split at h
 ·rename_i a0_1 a0_2 a0_3 a0_5 a0_6 a0_7 a0_8 a0_9 a0_10
  cases h
  exact goodv_b1 fu (⟨a0_1, a0_2, a0_3, (⟨a0_5, a0_6, a0_7, a0_8, a0_9, a0_10⟩ : S_impl_Cmd)⟩ : S_impl_Entry) y hy
 ·cases h
def F_spec_LogFault_B0 {ρ : Type} (fu : Nat) (log0_0 : (Sl S_impl_Entry)) (k0 : Int → Option ρ) (k1 : Option ρ) (k2 : Option ρ) (i3_1 : Int) (go : Int → Option ρ) : Option ρ :=
 (bif (decide (i3_1 < ((log0_0.n : Nat) : Int))) then ((bif (decide (0 ≤ i3_1) && decide ((Int.toNat i3_1) < log0_0.n)) then some () else none : Option Unit).bind fun _ =>
  ((F_spec_EntryFault fu (log0_0.f (Int.toNat i3_1))).bind fun y174 => (bif (y174 != 0) then (k0 y174) else (((bif (decide (i3_1 > 0)) then ((bif (decide (0 ≤ i3_1) && decide ((Int.toNat i3_1) < log0_0.n)) then
  some () else none : Option Unit).bind fun _ => ((bif (decide (0 ≤ (IntKind.wrap .i64 (i3_1 - 1))) && decide ((Int.toNat (IntKind.wrap .i64 (i3_1 - 1))) < log0_0.n)) then some () else
  none : Option Unit).bind fun _ => (some (decide ((log0_0.f (Int.toNat i3_1)).Term < (log0_0.f (Int.toNat (IntKind.wrap .i64 (i3_1 - 1)))).Term))))) else (some false)) : Option Bool).bind fun m175 =>
  (bif m175 then k1 else (go (IntKind.wrap .i64 (i3_1 + 1)))))))) else k2)
def F_spec_LogFault (fu : Nat) (log_0 : (Sl S_impl_Entry)) : Option (Int) :=
 (bif (decide (((log_0.n : Nat) : Int) > 40)) then (some 2) else (L (fun w0 go0 => F_spec_LogFault_B0 fu log_0 (fun z176 => (some z176)) (some 1) (some 0) w0 go0) fu (0 : Int)))
def pcf_b2 (fu f : Nat) (xs : List (D RT den)) : Option (Out RT den) := match f with | 67 => S_b1 fu xs | _ => none
def pc_b2 (fu : Nat) : Pc RT den := ⟨pcf_b2 fu, fun _ => false, fun _ => false, pcd0, pcd0, pcx0⟩
def msk_b2 (b : Nat) : List Nat := match b with | 0 => (1 :: 2 :: (rg 4 34 [])) | 100000 => (0 :: 1 :: (rg 3 35 [])) | 200009 => [37] | _ => []
def ps_b2_0 : List (Pat RT) := (.flat (.rs .impl_Entry) :: .flat .q :: .flat .q :: .flat (.int .i64) :: (fq 34 []))
def os_b2_0 : List (OP RT) := []
def conv_b2_0 (r : Raw den ps_b2_0 os_b2_0) : ((Sl S_impl_Entry)) × (Int) := (r.1.1, r.1.2.2.2.1)
def back_b2_0 (c : (Sl S_impl_Entry)) (w : Int) : St RT den := ⟨((.rs c.z .impl_Entry c.n c.f) :: .q :: .q :: (ii w) :: (qs 34 [])), []⟩
def Bk_b2_0 {ρ : Type} (fu : Nat) (c : (Sl S_impl_Entry)) (k : Ex → St RT den → Option ρ) (w : Int) (go : (Int) → Option ρ) : Option ρ := F_spec_LogFault_B0 fu c (fun a0 => k .ret ⟨(.q :: .q :: (ii a0) :: (qs 35 [])), []⟩) (k .ret ⟨(.q :: .q :: (ii 1) :: (qs 35 [])), []⟩) (k (.exit 0) ⟨(qs 38 []), []⟩) w go
def lp_b2 (fu : Nat) : Lp RT den (Int) := ⟨fun b s k => match b with | 0 => handle ps_b2_0 os_b2_0 conv_b2_0 (Bk_b2_0 fu) fu s k | _ => none, inl0⟩
theorem ev_b2 (fu : Nat) (log_0 : (Sl S_impl_Entry)) : evFun E (pc_b2 fu) msk_b2 (lp_b2 fu) out_i64 71 [(.rs log_0.z .impl_Entry log_0.n log_0.f)] = F_spec_LogFault fu log_0 := by kernel_rfl
noncomputable def body_b2 : Code := Try.f71.body.getD .skip
noncomputable def lc_b2_0 : Code := ((loops 0 body_b2).getD 0 (0, .skip)).2
theorem round_b2_0 (fu : Nat) : RoundOk E (pc_b2 fu) msk_b2 (lp_b2 fu) 0 lc_b2_0 back_b2_0 0 100000 0 (Bk_b2_0 fu) := fun it k c w => by kernel_rfl
theorem lpok_b2_0 (fu : Nat) : LpAt E (pc_b2 fu) msk_b2 (lp_b2 fu) 0 0 100000 0 lc_b2_0 :=
 handle_ok (ps := ps_b2_0) (os := os_b2_0) (conv := conv_b2_0) (B := Bk_b2_0 fu) (fu := fu) back_b2_0 (fun raw => by kernel_rfl) 0 (fun c w => by kernel_rfl) (round_b2_0 fu)
theorem lpok_b2 (fu : Nat) : LpOk E (pc_b2 fu) 0 msk_b2 (lp_b2 fu) (loops 0 body_b2) := lp_nil (loop_all 1 (by kernel_rfl) fun i hi => match i, hi with
 | 0, _ => by
  have h : (loops 0 body_b2).getD 0 (0, .skip) = (0, lc_b2_0) := by kernel_rfl
  rw [h]; exact lpok_b2_0 fu
 | i + 1, hi => absurd hi (by omega)) (by kernel_rfl)
def S_b2 (fu : Nat) (xs : List (D RT den)) : Option (Out RT den) := match xs with | [.rs za0_0 .impl_Entry na0_0 fa0_0] => some ⟨Int, F_spec_LogFault fu (⟨za0_0, na0_0, fa0_0⟩ : (Sl S_impl_Entry)), enc_i64, fun _ => true⟩ | _ => none
theorem hpc_b2 (fu : Nat) : HpcOk E Try.prog (pcf_b2 fu) := by
 intro f xs o h
 unfold pcf_b2 at h
 split at h
 ·exact good_b1 fu xs o h
 ·cases h
theorem goodv_b2 (fu : Nat) (log_0 : (Sl S_impl_Entry)) (y : Int) (hy : F_spec_LogFault fu log_0 = some y) : Good E Try.prog 71 [(.rs log_0.z .impl_Entry log_0.n log_0.f)] (enc_i64 y) :=
 fun_good E_ok (pc_good (pc := pc_b2 fu) (hpc_b2 fu) hpx0) (fn := Try.f71) (by kernel_rfl) (by kernel_rfl) (by kernel_rfl) (lpok_b2 fu) (fun d hd => out_i64_enc d _ hd) ((ev_b2 fu log_0).trans hy)
theorem good_b2 (fu : Nat) : GoodS E Try.prog 71 (S_b2 fu) := by
 intro xs o h y hy
 unfold S_b2 at h
 split at h
 ·rename_i za0_0 na0_0 fa0_0
  cases h
  exact goodv_b2 fu (⟨za0_0, na0_0, fa0_0⟩ : (Sl S_impl_Entry)) y hy
 ·cases h
def F_spec_LastOf (fu : Nat) (log_0 : (Sl S_impl_Entry)) : Option (S_impl_Entry) :=
 (bif (((log_0.n : Nat) : Int) == 0) then (some (⟨0, 0, 0, (⟨0, 0, 0, 0, 0, 0⟩ : S_impl_Cmd)⟩ : S_impl_Entry)) else ((bif (decide (0 ≤ (IntKind.wrap .i64 (((log_0.n : Nat) : Int) - 1))) &&
  decide ((Int.toNat (IntKind.wrap .i64 (((log_0.n : Nat) : Int) - 1))) < log_0.n)) then some () else none : Option Unit).bind fun _ => (some (log_0.f (Int.toNat (IntKind.wrap .i64 (((log_0.n : Nat) : Int) - 1)))))))
def pc_b3 (fu : Nat) : Pc RT den := ⟨pcf0, fun _ => false, fun _ => false, pcd0, pcd0, pcx0⟩
def msk_b3 (b : Nat) : List Nat := []
def lp_b3 (fu : Nat) : Lp RT den (S_impl_Entry) := ⟨fun b s k => none, inl0⟩
theorem ev_b3 (fu : Nat) (log_0 : (Sl S_impl_Entry)) : evFun E (pc_b3 fu) msk_b3 (lp_b3 fu) out_impl_Entry 46 [(.rs log_0.z .impl_Entry log_0.n log_0.f)] = F_spec_LastOf fu log_0 := by kernel_rfl
noncomputable def body_b3 : Code := Try.f46.body.getD .skip
theorem lpok_b3 (fu : Nat) : LpOk E (pc_b3 fu) 0 msk_b3 (lp_b3 fu) (loops 0 body_b3) := lp_nil (loop_nil (by kernel_rfl)) (by kernel_rfl)
def S_b3 (fu : Nat) (xs : List (D RT den)) : Option (Out RT den) := match xs with | [.rs za0_0 .impl_Entry na0_0 fa0_0] => some ⟨S_impl_Entry, F_spec_LastOf fu (⟨za0_0, na0_0, fa0_0⟩ : (Sl S_impl_Entry)), enc_impl_Entry, fun _ => true⟩ | _ => none
theorem goodv_b3 (fu : Nat) (log_0 : (Sl S_impl_Entry)) (y : S_impl_Entry) (hy : F_spec_LastOf fu log_0 = some y) : Good E Try.prog 46 [(.rs log_0.z .impl_Entry log_0.n log_0.f)] (enc_impl_Entry y) :=
 fun_good E_ok (pc_good (pc := pc_b3 fu) hpc0 hpx0) (fn := Try.f46) (by kernel_rfl) (by kernel_rfl) (by kernel_rfl) (lpok_b3 fu) (fun d hd => out_impl_Entry_enc d _ hd) ((ev_b3 fu log_0).trans hy)
theorem good_b3 (fu : Nat) : GoodS E Try.prog 46 (S_b3 fu) := by
 intro xs o h y hy
 unfold S_b3 at h
 split at h
 ·rename_i za0_0 na0_0 fa0_0
  cases h
  exact goodv_b3 fu (⟨za0_0, na0_0, fa0_0⟩ : (Sl S_impl_Entry)) y hy
 ·cases h
def F_spec_l8Rises_B0 {ρ : Type} (fu : Nat) (list0_0 : (Sl Int)) (k0 : Option ρ) (k1 : Option ρ) (i3_1 : Int) (go : Int → Option ρ) : Option ρ :=
 (bif (decide (i3_1 < ((list0_0.n : Nat) : Int))) then ((bif (decide (0 ≤ i3_1) && decide ((Int.toNat i3_1) < list0_0.n)) then some () else none : Option Unit).bind fun _ => ((bif (decide (0 ≤ (IntKind.wrap .i64 (i3_1 - 1))) &&
  decide ((Int.toNat (IntKind.wrap .i64 (i3_1 - 1))) < list0_0.n)) then some () else none : Option Unit).bind fun _ => (bif (decide ((list0_0.f (Int.toNat i3_1)) ≤ (list0_0.f (Int.toNat (IntKind.wrap .i64 (i3_1 - 1)))))) then
  k0 else (go (IntKind.wrap .i64 (i3_1 + 1)))))) else k1)
def F_spec_l8Rises (fu : Nat) (list_0 : (Sl Int)) : Option (Bool) :=
 (L (fun w0 go0 => F_spec_l8Rises_B0 fu list_0 (some false) (some true) w0 go0) fu (1 : Int))
def pc_b4 (fu : Nat) : Pc RT den := ⟨pcf0, fun _ => false, fun _ => false, pcd0, pcd0, pcx0⟩
def msk_b4 (b : Nat) : List Nat := match b with | 0 => (1 :: 2 :: (rg 4 16 [])) | 100000 => (0 :: 1 :: (rg 3 17 [])) | _ => []
def ps_b4_0 : List (Pat RT) := (.flat (.rs .i64) :: .flat .q :: .flat .q :: .flat (.int .i64) :: (fq 16 []))
def os_b4_0 : List (OP RT) := []
def conv_b4_0 (r : Raw den ps_b4_0 os_b4_0) : ((Sl Int)) × (Int) := (r.1.1, r.1.2.2.2.1)
def back_b4_0 (c : (Sl Int)) (w : Int) : St RT den := ⟨((.rs c.z .i64 c.n c.f) :: .q :: .q :: (ii w) :: (qs 16 [])), []⟩
def Bk_b4_0 {ρ : Type} (fu : Nat) (c : (Sl Int)) (k : Ex → St RT den → Option ρ) (w : Int) (go : (Int) → Option ρ) : Option ρ := F_spec_l8Rises_B0 fu c (k .ret ⟨(.q :: .q :: (.bool false) :: (qs 17 [])), []⟩) (k (.exit 0) ⟨(qs 20 []), []⟩) w go
def lp_b4 (fu : Nat) : Lp RT den (Bool) := ⟨fun b s k => match b with | 0 => handle ps_b4_0 os_b4_0 conv_b4_0 (Bk_b4_0 fu) fu s k | _ => none, inl0⟩
theorem ev_b4 (fu : Nat) (list_0 : (Sl Int)) : evFun E (pc_b4 fu) msk_b4 (lp_b4 fu) out_bo 90 [(.rs list_0.z .i64 list_0.n list_0.f)] = F_spec_l8Rises fu list_0 := by kernel_rfl
noncomputable def body_b4 : Code := Try.f90.body.getD .skip
noncomputable def lc_b4_0 : Code := ((loops 0 body_b4).getD 0 (0, .skip)).2
theorem round_b4_0 (fu : Nat) : RoundOk E (pc_b4 fu) msk_b4 (lp_b4 fu) 0 lc_b4_0 back_b4_0 0 100000 0 (Bk_b4_0 fu) := fun it k c w => by kernel_rfl
theorem lpok_b4_0 (fu : Nat) : LpAt E (pc_b4 fu) msk_b4 (lp_b4 fu) 0 0 100000 0 lc_b4_0 :=
 handle_ok (ps := ps_b4_0) (os := os_b4_0) (conv := conv_b4_0) (B := Bk_b4_0 fu) (fu := fu) back_b4_0 (fun raw => by kernel_rfl) 0 (fun c w => by kernel_rfl) (round_b4_0 fu)
theorem lpok_b4 (fu : Nat) : LpOk E (pc_b4 fu) 0 msk_b4 (lp_b4 fu) (loops 0 body_b4) := lp_nil (loop_all 1 (by kernel_rfl) fun i hi => match i, hi with
 | 0, _ => by
  have h : (loops 0 body_b4).getD 0 (0, .skip) = (0, lc_b4_0) := by kernel_rfl
  rw [h]; exact lpok_b4_0 fu
 | i + 1, hi => absurd hi (by omega)) (by kernel_rfl)
def S_b4 (fu : Nat) (xs : List (D RT den)) : Option (Out RT den) := match xs with | [.rs za0_0 .i64 na0_0 fa0_0] => some ⟨Bool, F_spec_l8Rises fu (⟨za0_0, na0_0, fa0_0⟩ : (Sl Int)), enc_bo, fun _ => true⟩ | _ => none
theorem goodv_b4 (fu : Nat) (list_0 : (Sl Int)) (y : Bool) (hy : F_spec_l8Rises fu list_0 = some y) : Good E Try.prog 90 [(.rs list_0.z .i64 list_0.n list_0.f)] (enc_bo y) :=
 fun_good E_ok (pc_good (pc := pc_b4 fu) hpc0 hpx0) (fn := Try.f90) (by kernel_rfl) (by kernel_rfl) (by kernel_rfl) (lpok_b4 fu) (fun d hd => out_bo_enc d _ hd) ((ev_b4 fu list_0).trans hy)
theorem good_b4 (fu : Nat) : GoodS E Try.prog 90 (S_b4 fu) := by
 intro xs o h y hy
 unfold S_b4 at h
 split at h
 ·rename_i za0_0 na0_0 fa0_0
  cases h
  exact goodv_b4 fu (⟨za0_0, na0_0, fa0_0⟩ : (Sl Int)) y hy
 ·cases h
def F_spec_l8Lists_B0 {ρ : Type} (fu : Nat) (n0_0 n0_1 n0_2 n0_3 : Int) (n0_4 : (Sl S_impl_Entry)) (n0_5 n0_6 : Int) (n0_7 n0_8 n0_9 : (Sl Int)) (k0 : Option ρ) (k1 : Option ρ) (i3_10 : Int) (go : Int → Option ρ) : Option ρ :=
 (bif (decide (i3_10 < ((n0_7.n : Nat) : Int))) then ((bif (decide (0 ≤ i3_10) && decide ((Int.toNat i3_10) < n0_7.n)) then some () else none : Option Unit).bind fun _ =>
  ((F_spec_l8Id fu (⟨n0_0, n0_1, n0_2, n0_3, n0_4, n0_5, n0_6, n0_7, n0_8, n0_9⟩ : S_impl_Node) (n0_7.f (Int.toNat i3_10))).bind fun y230 => (bif (!y230) then k0 else (go (IntKind.wrap .i64 (i3_10 + 1)))))) else
  k1)
def F_spec_l8Lists (fu : Nat) (n_0 : S_impl_Node) : Option (Bool) :=
 ((((F_spec_l8Rises fu n_0.Votes).bind fun y228 => (bif (!y228) then (some true) else (bif (decide (((n_0.Votes.n : Nat) : Int) > 0)) then (some (n_0.Role != 1)) else (some false)))) : Option Bool).bind fun m229 =>
  (bif m229 then (some false) else (L (fun w0 go0 => F_spec_l8Lists_B0 fu n_0.Id n_0.Peers n_0.Term n_0.Voted n_0.Log n_0.Role n_0.Commit n_0.Votes n_0.Next n_0.Match (some false) (bif (n_0.Role == 2) then
  (((bif (((n_0.Next.n : Nat) : Int) == n_0.Peers) then (some (((n_0.Match.n : Nat) : Int) == n_0.Peers)) else (some false)) : Option Bool).bind fun m231 => (some m231)) else
  (((bif (((n_0.Next.n : Nat) : Int) == 0) then (some (((n_0.Match.n : Nat) : Int) == 0)) else (some false)) : Option Bool).bind fun m232 => (some m232))) w0 go0) fu (0 : Int))))
def pcf_b5 (fu f : Nat) (xs : List (D RT den)) : Option (Out RT den) := match f with | 70 => S_a32 fu xs | 90 => S_b4 fu xs | _ => none
def pc_b5 (fu : Nat) : Pc RT den := ⟨pcf_b5 fu, fun _ => false, fun _ => false, pcd0, pcd0, pcx0⟩
def msk_b5 (b : Nat) : List Nat := match b with | 0 => (1 :: 2 :: (rg 4 66 [])) | 100000 => (1 :: (rg 3 67 [])) | 200001 => [25] | 200011 => [2] | _ => []
def ps_b5_0 : List (Pat RT) := (.rptr [(.int .i64), (.int .i64), (.int .i64), (.int .i64), (.rs .impl_Entry), (.int .i64), (.int .i64), (.rs .i64), (.rs .i64), (.rs .i64)] :: .flat .q :: .flat .q :: .flat (.int .i64) :: (fq 66 []))
def os_b5_0 : List (OP RT) := []
def conv_b5_0 (r : Raw den ps_b5_0 os_b5_0) : (Yc0) × (Int) := ((r.1.1.1, r.1.1.2.1, r.1.1.2.2.1, r.1.1.2.2.2.1, r.1.1.2.2.2.2.1, (e5 r.1.1).1, (e5 r.1.1).2.1, (e5 r.1.1).2.2.1, (e5 r.1.1).2.2.2.1, (e5 r.1.1).2.2.2.2.1), r.1.2.2.2.1)
def back_b5_0 (c : Yc0) (w : Int) : St RT den := ⟨((.rptr [(ii c.1), (ii c.2.1), (ii c.2.2.1), (ii c.2.2.2.1), (.rs c.2.2.2.2.1.z .impl_Entry c.2.2.2.2.1.n c.2.2.2.2.1.f), (ii (e5 c).1), (ii (e5 c).2.1), (.rs (e5 c).2.2.1.z .i64 (e5 c).2.2.1.n (e5 c).2.2.1.f), (.rs (e5 c).2.2.2.1.z .i64 (e5 c).2.2.2.1.n (e5 c).2.2.2.1.f), (.rs (e5 c).2.2.2.2.z .i64 (e5 c).2.2.2.2.n (e5 c).2.2.2.2.f)]) :: .q :: .q :: (ii w) :: (qs 66 [])), []⟩
def Bk_b5_0 {ρ : Type} (fu : Nat) (c : Yc0) (k : Ex → St RT den → Option ρ) (w : Int) (go : (Int) → Option ρ) : Option ρ := F_spec_l8Lists_B0 fu c.1 c.2.1 c.2.2.1 c.2.2.2.1 c.2.2.2.2.1 (e5 c).1 (e5 c).2.1 (e5 c).2.2.1 (e5 c).2.2.2.1 (e5 c).2.2.2.2 (k .ret ⟨((.rptr [(ii c.1), (ii c.2.1), (ii c.2.2.1), (ii c.2.2.2.1), (.rs c.2.2.2.2.1.z .impl_Entry c.2.2.2.2.1.n c.2.2.2.2.1.f), (ii (e5 c).1), (ii (e5 c).2.1), (.rs (e5 c).2.2.1.z .i64 (e5 c).2.2.1.n (e5 c).2.2.1.f), (.rs (e5 c).2.2.2.1.z .i64 (e5 c).2.2.2.1.n (e5 c).2.2.2.1.f), (.rs (e5 c).2.2.2.2.z .i64 (e5 c).2.2.2.2.n (e5 c).2.2.2.2.f)]) :: .q :: (.bool false) :: (qs 67 [])), []⟩) (k (.exit 0) ⟨((.rptr [(ii c.1), (ii c.2.1), (ii c.2.2.1), (ii c.2.2.2.1), (.rs c.2.2.2.2.1.z .impl_Entry c.2.2.2.2.1.n c.2.2.2.2.1.f), (ii (e5 c).1), (ii (e5 c).2.1), (.rs (e5 c).2.2.1.z .i64 (e5 c).2.2.1.n (e5 c).2.2.1.f), (.rs (e5 c).2.2.2.1.z .i64 (e5 c).2.2.2.1.n (e5 c).2.2.2.1.f), (.rs (e5 c).2.2.2.2.z .i64 (e5 c).2.2.2.2.n (e5 c).2.2.2.2.f)]) :: (qs 69 [])), []⟩) w go
def lp_b5 (fu : Nat) : Lp RT den (Bool) := ⟨fun b s k => match b with | 0 => handle ps_b5_0 os_b5_0 conv_b5_0 (Bk_b5_0 fu) fu s k | _ => none, inl0⟩
theorem ev_b5 (fu : Nat) (n_0 : S_impl_Node) : evFun E (pc_b5 fu) msk_b5 (lp_b5 fu) out_bo 72 [(.rptr [(ii n_0.Id), (ii n_0.Peers), (ii n_0.Term), (ii n_0.Voted), (.rs n_0.Log.z .impl_Entry n_0.Log.n n_0.Log.f), (ii n_0.Role), (ii n_0.Commit), (.rs n_0.Votes.z .i64 n_0.Votes.n n_0.Votes.f), (.rs n_0.Next.z .i64 n_0.Next.n n_0.Next.f), (.rs n_0.Match.z .i64 n_0.Match.n n_0.Match.f)])] = F_spec_l8Lists fu n_0 := by kernel_rfl
noncomputable def body_b5 : Code := Try.f72.body.getD .skip
noncomputable def lc_b5_0 : Code := ((loops 0 body_b5).getD 0 (0, .skip)).2
theorem round_b5_0 (fu : Nat) : RoundOk E (pc_b5 fu) msk_b5 (lp_b5 fu) 0 lc_b5_0 back_b5_0 0 100000 0 (Bk_b5_0 fu) := fun it k c w => by kernel_rfl
theorem lpok_b5_0 (fu : Nat) : LpAt E (pc_b5 fu) msk_b5 (lp_b5 fu) 0 0 100000 0 lc_b5_0 :=
 handle_ok (ps := ps_b5_0) (os := os_b5_0) (conv := conv_b5_0) (B := Bk_b5_0 fu) (fu := fu) back_b5_0 (fun raw => by kernel_rfl) 0 (fun c w => by kernel_rfl) (round_b5_0 fu)
theorem lpok_b5 (fu : Nat) : LpOk E (pc_b5 fu) 0 msk_b5 (lp_b5 fu) (loops 0 body_b5) := lp_nil (loop_all 1 (by kernel_rfl) fun i hi => match i, hi with
 | 0, _ => by
  have h : (loops 0 body_b5).getD 0 (0, .skip) = (0, lc_b5_0) := by kernel_rfl
  rw [h]; exact lpok_b5_0 fu
 | i + 1, hi => absurd hi (by omega)) (by kernel_rfl)
def S_b5 (fu : Nat) (xs : List (D RT den)) : Option (Out RT den) := match xs with | [.rptr (.int .i64 a0_1 :: .int .i64 a0_2 :: .int .i64 a0_3 :: .int .i64 a0_4 :: .rs za0_5 .impl_Entry na0_5 fa0_5 :: .int .i64 a0_6 :: .int .i64 a0_7 :: .rs za0_8 .i64 na0_8 fa0_8 :: .rs za0_9 .i64 na0_9 fa0_9 :: .rs za0_10 .i64 na0_10 fa0_10 :: ra0)] => some ⟨Bool, F_spec_l8Lists fu (⟨a0_1, a0_2, a0_3, a0_4, (⟨za0_5, na0_5, fa0_5⟩ : (Sl S_impl_Entry)), a0_6, a0_7, (⟨za0_8, na0_8, fa0_8⟩ : (Sl Int)), (⟨za0_9, na0_9, fa0_9⟩ : (Sl Int)), (⟨za0_10, na0_10, fa0_10⟩ : (Sl Int))⟩ : S_impl_Node), enc_bo, fun _ => true⟩ | _ => none
theorem hpc_b5 (fu : Nat) : HpcOk E Try.prog (pcf_b5 fu) := by
 intro f xs o h
 unfold pcf_b5 at h
 split at h
 ·exact good_a32 fu xs o h
 ·exact good_b4 fu xs o h
 ·cases h
theorem goodv_b5 (fu : Nat) (n_0 : S_impl_Node) (y : Bool) (hy : F_spec_l8Lists fu n_0 = some y) : Good E Try.prog 72 [(.rptr [(ii n_0.Id), (ii n_0.Peers), (ii n_0.Term), (ii n_0.Voted), (.rs n_0.Log.z .impl_Entry n_0.Log.n n_0.Log.f), (ii n_0.Role), (ii n_0.Commit), (.rs n_0.Votes.z .i64 n_0.Votes.n n_0.Votes.f), (.rs n_0.Next.z .i64 n_0.Next.n n_0.Next.f), (.rs n_0.Match.z .i64 n_0.Match.n n_0.Match.f)])] (enc_bo y) :=
 fun_good E_ok (pc_good (pc := pc_b5 fu) (hpc_b5 fu) hpx0) (fn := Try.f72) (by kernel_rfl) (by kernel_rfl) (by kernel_rfl) (lpok_b5 fu) (fun d hd => out_bo_enc d _ hd) ((ev_b5 fu n_0).trans hy)
theorem good_b5 (fu : Nat) : GoodS E Try.prog 72 (S_b5 fu) := by
 intro xs o h y hy
 unfold S_b5 at h
 split at h
 ·rename_i a0_1 a0_2 a0_3 a0_4 za0_5 na0_5 fa0_5 a0_6 a0_7 za0_8 na0_8 fa0_8 za0_9 na0_9 fa0_9 za0_10 na0_10 fa0_10 ra0
  cases h
  exact (goodv_b5 fu (⟨a0_1, a0_2, a0_3, a0_4, (⟨za0_5, na0_5, fa0_5⟩ : (Sl S_impl_Entry)), a0_6, a0_7, (⟨za0_8, na0_8, fa0_8⟩ : (Sl Int)), (⟨za0_9, na0_9, fa0_9⟩ : (Sl Int)), (⟨za0_10, na0_10, fa0_10⟩ : (Sl Int))⟩ : S_impl_Node) y hy).sub ⟨Sub.of_eq ra0 rfl, trivial⟩
 ·cases h
def F_spec_l8Fault_B0 {ρ : Type} (fu : Nat) (t0_0 t0_1 t0_2 t0_3 : Int) (t0_4 : (Sl S_impl_Entry)) (t0_5 t0_6 : Int) (t0_7 t0_8 t0_9 : (Sl Int)) (r4_10 : Int) (k0 : Option ρ) (k1 : Option ρ) (a5_11 : Int) (go : Int → Option ρ) : Option ρ :=
 (bif (decide (a5_11 < ((t0_8.n : Nat) : Int))) then ((((bif (decide (0 ≤ a5_11) && decide ((Int.toNat a5_11) < t0_8.n)) then some () else none : Option Unit).bind fun _ =>
  ((F_spec_l1In fu (t0_8.f (Int.toNat a5_11)) 1 (IntKind.wrap .i64 (r4_10 + 1))).bind fun y168 => (bif (!y168) then (some true) else ((bif (decide (0 ≤ a5_11) && decide ((Int.toNat a5_11) < t0_9.n)) then
  some () else none : Option Unit).bind fun _ => ((F_spec_l1In fu (t0_9.f (Int.toNat a5_11)) 0 r4_10).bind fun y169 => (some (!y169))))))) : Option Bool).bind fun m170 => (bif m170 then
  k0 else (go (IntKind.wrap .i64 (a5_11 + 1))))) else k1)
def F_spec_l8Fault (fu : Nat) (t_0 : S_impl_Node) : Option (Int) :=
 ((((F_spec_l1In fu t_0.Peers 1 5).bind fun y158 => (bif (!y158) then (some true) else ((F_spec_l8Id fu t_0 t_0.Id).bind fun y159 => (bif (!y159) then (some true) else
  ((F_spec_l1In fu t_0.Term 0 100000).bind fun y160 => (bif (!y160) then (some true) else ((F_spec_l1In fu t_0.Voted (-1) (IntKind.wrap .i64 (t_0.Peers - 1))).bind fun y161 =>
  (bif (!y161) then (some true) else ((F_spec_l1In fu t_0.Role 0 2).bind fun y162 => (some (!y162))))))))))) : Option Bool).bind fun m163 => (bif m163 then (some 3) else
  ((F_spec_LogFault fu t_0.Log).bind fun y164 => (bif (y164 != 0) then (some y164) else ((F_spec_LastOf fu t_0.Log).bind fun y165 => (bif (decide (y165.Term > t_0.Term)) then
  (some 1) else ((F_spec_l1In fu t_0.Commit 0 ((t_0.Log.n : Nat) : Int)).bind fun y166 => (bif (!y166) then (some 3) else ((F_spec_l8Lists fu t_0).bind fun y167 => (bif (!y167) then
  (some 1) else (L (fun w0 go0 => F_spec_l8Fault_B0 fu t_0.Id t_0.Peers t_0.Term t_0.Voted t_0.Log t_0.Role t_0.Commit t_0.Votes t_0.Next t_0.Match ((t_0.Log.n : Nat) : Int) (some 3) (((bif (t_0.Role != 0) then
  (bif (t_0.Voted != t_0.Id) then (some true) else (some (t_0.Term == 0))) else (some false)) : Option Bool).bind fun m171 => (bif m171 then (some 1) else (some 0))) w0 go0) fu (0 : Int))))))))))))
def pcf_b6 (fu f : Nat) (xs : List (D RT den)) : Option (Out RT den) := match f with | 46 => S_b3 fu xs | 69 => S_a31 fu xs | 70 => S_a32 fu xs | 71 => S_b2 fu xs | 72 => S_b5 fu xs | _ => none
def pc_b6 (fu : Nat) : Pc RT den := ⟨pcf_b6 fu, fun _ => false, fun _ => false, pcd0, pcd0, pcx0⟩
def msk_b6 (b : Nat) : List Nat := match b with | 0 => (1 :: 2 :: 3 :: (rg 6 133 [])) | 100000 => (1 :: (rg 3 136 [])) | 200001 => [49] | 200016 => [115] | 200018 => [138] | _ => []
def ps_b6_0 : List (Pat RT) := (.rptr [(.int .i64), (.int .i64), (.int .i64), (.int .i64), (.rs .impl_Entry), (.int .i64), (.int .i64), (.rs .i64), (.rs .i64), (.rs .i64)] :: .flat .q :: .flat .q :: .flat .q :: .flat (.int .i64) :: .flat (.int .i64) :: (fq 133 []))
def os_b6_0 : List (OP RT) := []
def conv_b6_0 (r : Raw den ps_b6_0 os_b6_0) : (Yc1) × (Int) := ((r.1.1.1, r.1.1.2.1, r.1.1.2.2.1, r.1.1.2.2.2.1, r.1.1.2.2.2.2.1, (e5 r.1.1).1, (e5 r.1.1).2.1, (e5 r.1.1).2.2.1, (e5 r.1.1).2.2.2.1, (e5 r.1.1).2.2.2.2.1, r.1.2.2.2.2.1), (e5 r.1).1)
def back_b6_0 (c : Yc1) (w : Int) : St RT den := ⟨((.rptr [(ii c.1), (ii c.2.1), (ii c.2.2.1), (ii c.2.2.2.1), (.rs c.2.2.2.2.1.z .impl_Entry c.2.2.2.2.1.n c.2.2.2.2.1.f), (ii (e5 c).1), (ii (e5 c).2.1), (.rs (e5 c).2.2.1.z .i64 (e5 c).2.2.1.n (e5 c).2.2.1.f), (.rs (e5 c).2.2.2.1.z .i64 (e5 c).2.2.2.1.n (e5 c).2.2.2.1.f), (.rs (e5 c).2.2.2.2.1.z .i64 (e5 c).2.2.2.2.1.n (e5 c).2.2.2.2.1.f)]) :: .q :: .q :: .q :: (ii (e10 c)) :: (ii w) :: (qs 133 [])), []⟩
def Bk_b6_0 {ρ : Type} (fu : Nat) (c : Yc1) (k : Ex → St RT den → Option ρ) (w : Int) (go : (Int) → Option ρ) : Option ρ := F_spec_l8Fault_B0 fu c.1 c.2.1 c.2.2.1 c.2.2.2.1 c.2.2.2.2.1 (e5 c).1 (e5 c).2.1 (e5 c).2.2.1 (e5 c).2.2.2.1 (e5 c).2.2.2.2.1 (e10 c) (k .ret ⟨((.rptr [(ii c.1), (ii c.2.1), (ii c.2.2.1), (ii c.2.2.2.1), (.rs c.2.2.2.2.1.z .impl_Entry c.2.2.2.2.1.n c.2.2.2.2.1.f), (ii (e5 c).1), (ii (e5 c).2.1), (.rs (e5 c).2.2.1.z .i64 (e5 c).2.2.1.n (e5 c).2.2.1.f), (.rs (e5 c).2.2.2.1.z .i64 (e5 c).2.2.2.1.n (e5 c).2.2.2.1.f), (.rs (e5 c).2.2.2.2.1.z .i64 (e5 c).2.2.2.2.1.n (e5 c).2.2.2.2.1.f)]) :: .q :: (ii 3) :: (qs 136 [])), []⟩) (k (.exit 0) ⟨((.rptr [(ii c.1), (ii c.2.1), (ii c.2.2.1), (ii c.2.2.2.1), (.rs c.2.2.2.2.1.z .impl_Entry c.2.2.2.2.1.n c.2.2.2.2.1.f), (ii (e5 c).1), (ii (e5 c).2.1), (.rs (e5 c).2.2.1.z .i64 (e5 c).2.2.1.n (e5 c).2.2.1.f), (.rs (e5 c).2.2.2.1.z .i64 (e5 c).2.2.2.1.n (e5 c).2.2.2.1.f), (.rs (e5 c).2.2.2.2.1.z .i64 (e5 c).2.2.2.2.1.n (e5 c).2.2.2.2.1.f)]) :: (qs 138 [])), []⟩) w go
def lp_b6 (fu : Nat) : Lp RT den (Int) := ⟨fun b s k => match b with | 0 => handle ps_b6_0 os_b6_0 conv_b6_0 (Bk_b6_0 fu) fu s k | _ => none, inl0⟩
theorem ev_b6 (fu : Nat) (t_0 : S_impl_Node) : evFun E (pc_b6 fu) msk_b6 (lp_b6 fu) out_i64 25 [(.rptr [(ii t_0.Id), (ii t_0.Peers), (ii t_0.Term), (ii t_0.Voted), (.rs t_0.Log.z .impl_Entry t_0.Log.n t_0.Log.f), (ii t_0.Role), (ii t_0.Commit), (.rs t_0.Votes.z .i64 t_0.Votes.n t_0.Votes.f), (.rs t_0.Next.z .i64 t_0.Next.n t_0.Next.f), (.rs t_0.Match.z .i64 t_0.Match.n t_0.Match.f)])] = F_spec_l8Fault fu t_0 := by kernel_rfl
noncomputable def body_b6 : Code := Try.f25.body.getD .skip
noncomputable def lc_b6_0 : Code := ((loops 0 body_b6).getD 0 (0, .skip)).2
theorem round_b6_0 (fu : Nat) : RoundOk E (pc_b6 fu) msk_b6 (lp_b6 fu) 0 lc_b6_0 back_b6_0 0 100000 0 (Bk_b6_0 fu) := fun it k c w => by kernel_rfl
theorem lpok_b6_0 (fu : Nat) : LpAt E (pc_b6 fu) msk_b6 (lp_b6 fu) 0 0 100000 0 lc_b6_0 :=
 handle_ok (ps := ps_b6_0) (os := os_b6_0) (conv := conv_b6_0) (B := Bk_b6_0 fu) (fu := fu) back_b6_0 (fun raw => by kernel_rfl) 0 (fun c w => by kernel_rfl) (round_b6_0 fu)
theorem lpok_b6 (fu : Nat) : LpOk E (pc_b6 fu) 0 msk_b6 (lp_b6 fu) (loops 0 body_b6) := lp_nil (loop_all 1 (by kernel_rfl) fun i hi => match i, hi with
 | 0, _ => by
  have h : (loops 0 body_b6).getD 0 (0, .skip) = (0, lc_b6_0) := by kernel_rfl
  rw [h]; exact lpok_b6_0 fu
 | i + 1, hi => absurd hi (by omega)) (by kernel_rfl)
def S_b6 (fu : Nat) (xs : List (D RT den)) : Option (Out RT den) := match xs with | [.rptr (.int .i64 a0_1 :: .int .i64 a0_2 :: .int .i64 a0_3 :: .int .i64 a0_4 :: .rs za0_5 .impl_Entry na0_5 fa0_5 :: .int .i64 a0_6 :: .int .i64 a0_7 :: .rs za0_8 .i64 na0_8 fa0_8 :: .rs za0_9 .i64 na0_9 fa0_9 :: .rs za0_10 .i64 na0_10 fa0_10 :: ra0)] => some ⟨Int, F_spec_l8Fault fu (⟨a0_1, a0_2, a0_3, a0_4, (⟨za0_5, na0_5, fa0_5⟩ : (Sl S_impl_Entry)), a0_6, a0_7, (⟨za0_8, na0_8, fa0_8⟩ : (Sl Int)), (⟨za0_9, na0_9, fa0_9⟩ : (Sl Int)), (⟨za0_10, na0_10, fa0_10⟩ : (Sl Int))⟩ : S_impl_Node), enc_i64, fun _ => true⟩ | _ => none
theorem hpc_b6 (fu : Nat) : HpcOk E Try.prog (pcf_b6 fu) := by
 intro f xs o h
 unfold pcf_b6 at h
 split at h
 ·exact good_b3 fu xs o h
 ·exact good_a31 fu xs o h
 ·exact good_a32 fu xs o h
 ·exact good_b2 fu xs o h
 ·exact good_b5 fu xs o h
 ·cases h
theorem goodv_b6 (fu : Nat) (t_0 : S_impl_Node) (y : Int) (hy : F_spec_l8Fault fu t_0 = some y) : Good E Try.prog 25 [(.rptr [(ii t_0.Id), (ii t_0.Peers), (ii t_0.Term), (ii t_0.Voted), (.rs t_0.Log.z .impl_Entry t_0.Log.n t_0.Log.f), (ii t_0.Role), (ii t_0.Commit), (.rs t_0.Votes.z .i64 t_0.Votes.n t_0.Votes.f), (.rs t_0.Next.z .i64 t_0.Next.n t_0.Next.f), (.rs t_0.Match.z .i64 t_0.Match.n t_0.Match.f)])] (enc_i64 y) :=
 fun_good E_ok (pc_good (pc := pc_b6 fu) (hpc_b6 fu) hpx0) (fn := Try.f25) (by kernel_rfl) (by kernel_rfl) (by kernel_rfl) (lpok_b6 fu) (fun d hd => out_i64_enc d _ hd) ((ev_b6 fu t_0).trans hy)
theorem good_b6 (fu : Nat) : GoodS E Try.prog 25 (S_b6 fu) := by
 intro xs o h y hy
 unfold S_b6 at h
 split at h
 ·rename_i a0_1 a0_2 a0_3 a0_4 za0_5 na0_5 fa0_5 a0_6 a0_7 za0_8 na0_8 fa0_8 za0_9 na0_9 fa0_9 za0_10 na0_10 fa0_10 ra0
  cases h
  exact (goodv_b6 fu (⟨a0_1, a0_2, a0_3, a0_4, (⟨za0_5, na0_5, fa0_5⟩ : (Sl S_impl_Entry)), a0_6, a0_7, (⟨za0_8, na0_8, fa0_8⟩ : (Sl Int)), (⟨za0_9, na0_9, fa0_9⟩ : (Sl Int)), (⟨za0_10, na0_10, fa0_10⟩ : (Sl Int))⟩ : S_impl_Node) y hy).sub ⟨Sub.of_eq ra0 rfl, trivial⟩
 ·cases h
def F_spec_l8Bad_U (fu : Nat) (c_0 : Int) : Option (Yc2) :=
 (bif (decide ((0 : Nat) = 0) && true) then (some (c_0, 0, 0, 0, 0, 0, 0, 0, 0, 0, 0, 0, 0, (fun _ => dflt .impl_Entry), 0, (fun _ => dflt .i64), 0, (fun _ => dflt .i64), 0, (fun _ =>
  dflt .i64), 0, (fun _ => dflt .impl_Mail))) else none)
def pc_b7 (fu : Nat) : Pc RT den := ⟨pcf0, fun _ => false, fun _ => false, pcd0, pcd0, pcx0⟩
def msk_b7 (b : Nat) : List Nat := []
def lp_b7 (fu : Nat) : Lp RT den (Yc2) := ⟨fun b s k => none, inl0⟩
def pso_b7 : List (Pat RT) := [.agg [(.int .i64), (.int .i64), (.int .i64), (.int .i64), (.int .i64), (.os 0), (.int .i64), (.int .i64), (.os 1), (.os 2), (.os 3), (.os 4)]]
def oso_b7 : List (OP RT) := [.row false .impl_Entry, .row false .i64, .row false .i64, .row false .i64, .deep false .impl_Mail]
def conv_b7 (r : Raw den pso_b7 oso_b7) : Yc2 := (r.1.1.1, r.1.1.2.1, r.1.1.2.2.1, r.1.1.2.2.2.1, r.1.1.2.2.2.2.1, (e5 r.1.1).1, (e5 r.1.1).2.1, (e5 r.1.1).2.2.1, (e5 r.1.1).2.2.2.1, (e5 r.1.1).2.2.2.2.1, (e10 r.1.1).1, (e10 r.1.1).2.1, r.2.1.1, r.2.1.2, r.2.2.1.1, r.2.2.1.2, r.2.2.2.1.1, r.2.2.2.1.2, r.2.2.2.2.1.1, r.2.2.2.2.1.2, (e5 r).1.1, (e5 r).1.2.2)
def enc_b7 (y : Yc2) : D RT den × List (Ob RT den) := ((.agg [(.int .i64 y.1), (.int .i64 y.2.1), (.int .i64 y.2.2.1), (.int .i64 y.2.2.2.1), (.int .i64 y.2.2.2.2.1), (.os 0 y.2.2.2.2.2.1), (.int .i64 y.2.2.2.2.2.2.1), (.int .i64 y.2.2.2.2.2.2.2.1), (.os 1 y.2.2.2.2.2.2.2.2.1), (.os 2 y.2.2.2.2.2.2.2.2.2.1), (.os 3 y.2.2.2.2.2.2.2.2.2.2.1), (.os 4 y.2.2.2.2.2.2.2.2.2.2.2.1)]), [(.row false .impl_Entry y.2.2.2.2.2.2.2.2.2.2.2.2.1 y.2.2.2.2.2.2.2.2.2.2.2.2.2.1), (.row false .i64 y.2.2.2.2.2.2.2.2.2.2.2.2.2.2.1 y.2.2.2.2.2.2.2.2.2.2.2.2.2.2.2.1), (.row false .i64 y.2.2.2.2.2.2.2.2.2.2.2.2.2.2.2.2.1 y.2.2.2.2.2.2.2.2.2.2.2.2.2.2.2.2.2.1), (.row false .i64 y.2.2.2.2.2.2.2.2.2.2.2.2.2.2.2.2.2.2.1 y.2.2.2.2.2.2.2.2.2.2.2.2.2.2.2.2.2.2.2.1), (.deep false .impl_Mail y.2.2.2.2.2.2.2.2.2.2.2.2.2.2.2.2.2.2.2.2.1 y.2.2.2.2.2.2.2.2.2.2.2.2.2.2.2.2.2.2.2.2.1 y.2.2.2.2.2.2.2.2.2.2.2.2.2.2.2.2.2.2.2.2.2)])
def chk_b7 (r : Raw den pso_b7 oso_b7) : Bool := (decide (r.2.2.2.2.2.1.2.1 = r.2.2.2.2.2.1.1) && true)
def raw_b7 (r : Raw den pso_b7 oso_b7) : St RT den := ⟨[(.agg [(.int .i64 r.1.1.1), (.int .i64 r.1.1.2.1), (.int .i64 r.1.1.2.2.1), (.int .i64 r.1.1.2.2.2.1), (.int .i64 r.1.1.2.2.2.2.1), (.os 0 r.1.1.2.2.2.2.2.1), (.int .i64 r.1.1.2.2.2.2.2.2.1), (.int .i64 r.1.1.2.2.2.2.2.2.2.1), (.os 1 r.1.1.2.2.2.2.2.2.2.2.1), (.os 2 r.1.1.2.2.2.2.2.2.2.2.2.1), (.os 3 r.1.1.2.2.2.2.2.2.2.2.2.2.1), (.os 4 r.1.1.2.2.2.2.2.2.2.2.2.2.2.1)])], [(.row false .impl_Entry r.2.1.1 r.2.1.2), (.row false .i64 r.2.2.1.1 r.2.2.1.2), (.row false .i64 r.2.2.2.1.1 r.2.2.2.1.2), (.row false .i64 r.2.2.2.2.1.1 r.2.2.2.2.1.2), (.deep false .impl_Mail r.2.2.2.2.2.1.1 r.2.2.2.2.2.1.2.1 r.2.2.2.2.2.1.2.2)]⟩
theorem chkd_b7 (r : Raw den pso_b7 oso_b7) (h : chk_b7 r = true) : raw_b7 r = ⟨[(enc_b7 (conv_b7 r)).1], (enc_b7 (conv_b7 r)).2⟩ := by
 simp only [chk_b7, Bool.and_eq_true, decide_eq_true_eq, and_true] at h
 simp only [raw_b7, enc_b7, conv_b7, h, e5, e10, e20, e40]
def out_b7 (d : D RT den) (os : List (Ob RT den)) : Option (Yc2) := (unSt pso_b7 oso_b7 ⟨[d], os⟩).bind fun v => bif chk_b7 v.1 then some (conv_b7 v.1) else none
theorem out_b7_enc (d : D RT den) (os : List (Ob RT den)) (y : Yc2) (h : out_b7 d os = some y) : d = (enc_b7 y).1 ∧ os = (enc_b7 y).2 :=
 outU (conv := conv_b7) (enc := enc_b7) (chk := chk_b7) (fun raw h => Eq.trans (by kernel_rfl) (chkd_b7 raw h)) h
theorem ev_b7 (fu : Nat) (c_0 : Int) : evFunU E (pc_b7 fu) msk_b7 (lp_b7 fu) out_b7 26 [(ii c_0)] [] = F_spec_l8Bad_U fu c_0 := by kernel_rfl
noncomputable def body_b7 : Code := Try.f26.body.getD .skip
theorem lpok_b7 (fu : Nat) : LpOk E (pc_b7 fu) 0 msk_b7 (lp_b7 fu) (loops 0 body_b7) := lp_nil (loop_nil (by kernel_rfl)) (by kernel_rfl)
def S_b7 (fu : Nat) (xs : List (D RT den)) (ins : List (Ob RT den)) : Option (OutX RT den) := match xs, ins with | [.int .i64 a0_0], [] => some ⟨Yc2, F_spec_l8Bad_U fu a0_0, enc_b7⟩ | _, _ => none
theorem goodv_b7 (fu : Nat) (c_0 : Int) (y : Yc2) (hy : F_spec_l8Bad_U fu c_0 = some y) : GoodD E Try.prog 26 [(ii c_0)] [] (enc_b7 y).1 (enc_b7 y).2 :=
 funU_good E_ok (pc_good (pc := pc_b7 fu) hpc0 hpx0) (fn := Try.f26) (by kernel_rfl) (by kernel_rfl) (by kernel_rfl) (lpok_b7 fu) (by kernel_rfl) (Nat.le_of_ble_eq_true (by kernel_rfl)) (Fulls.get 0 (And.intro (Nat.le_refl _) trivial)) (fun d os hd => out_b7_enc d os _ hd) ((ev_b7 fu c_0).trans hy)
theorem good_b7 (fu : Nat) : GoodSD E Try.prog 26 (S_b7 fu) := by
 intro xs ins o h y hy
 unfold S_b7 at h
 split at h
 ·rename_i a0_0
  cases h
  exact goodv_b7 fu a0_0 y hy
 ·cases h
def F_spec_l7Copy_H (fu : Nat) (log_0 : (Sl S_impl_Entry)) : Option ((Sl S_impl_Entry)) :=
 (bif (decide (log_0.n ≤ 9223372036854775807) && decide (log_0.n * 72 ≤ 140737488355328)) then (some (⟨none, log_0.n, log_0.f⟩ : (Sl S_impl_Entry))) else none)
def pc_b8 (fu : Nat) : Pc RT den := ⟨pcf0, fun _ => false, fun _ => false, pcd0, pcd0, pcx0⟩
def msk_b8 (b : Nat) : List Nat := []
def lp_b8 (fu : Nat) : Lp RT den ((Sl S_impl_Entry)) := ⟨fun b s k => none, inl0⟩
theorem ev_b8 (fu : Nat) (log_0 : (Sl S_impl_Entry)) : evFunX E false (pc_b8 fu) msk_b8 (lp_b8 fu) out_sl_impl_Entry_H 73 [(.rs log_0.z .impl_Entry log_0.n log_0.f)] [] = F_spec_l7Copy_H fu log_0 := by kernel_rfl
noncomputable def body_b8 : Code := Try.f73.body.getD .skip
theorem lpok_b8 (fu : Nat) : LpOk E (pc_b8 fu) 0 msk_b8 (lp_b8 fu) (loops 0 body_b8) := lp_nil (loop_nil (by kernel_rfl)) (by kernel_rfl)
def S_b8 (fu : Nat) (xs : List (D RT den)) (ins : List (Ob RT den)) : Option (OutX RT den) := match xs, ins with | [.rs za0_0 .impl_Entry na0_0 fa0_0], [] => some ⟨(Sl S_impl_Entry), F_spec_l7Copy_H fu (⟨za0_0, na0_0, fa0_0⟩ : (Sl S_impl_Entry)), enc_sl_impl_Entry_H⟩ | _, _ => none
theorem goodv_b8 (fu : Nat) (log_0 y : (Sl S_impl_Entry)) (hy : F_spec_l7Copy_H fu log_0 = some y) : GoodX E Try.prog 73 [(.rs log_0.z .impl_Entry log_0.n log_0.f)] [] (enc_sl_impl_Entry_H y).1 (enc_sl_impl_Entry_H y).2 :=
 funX_good (ke := false) E_ok (pc_good (pc := pc_b8 fu) hpc0 hpx0) (fn := Try.f73) (by kernel_rfl) (by kernel_rfl) (by kernel_rfl) (lpok_b8 fu) (by kernel_rfl) (Nat.zero_le _) (fun d os hd => out_sl_impl_Entry_H_enc d os _ hd) ((ev_b8 fu log_0).trans hy)
theorem good_b8 (fu : Nat) : GoodSX E Try.prog 73 (S_b8 fu) := by
 intro xs ins o h y hy
 unfold S_b8 at h
 split at h
 ·rename_i za0_0 na0_0 fa0_0
  cases h
  exact goodv_b8 fu (⟨za0_0, na0_0, fa0_0⟩ : (Sl S_impl_Entry)) y hy
 ·cases h
def F_spec_l8Copy_H (fu : Nat) (n_0 : S_impl_Node) : Option (S_impl_Node) :=
 ((F_spec_l7Copy_H fu n_0.Log).bind fun y238 => (bif (decide (n_0.Votes.n ≤ 9223372036854775807) && decide (n_0.Votes.n * 8 ≤ 140737488355328)) then (bif (decide (n_0.Next.n ≤ 9223372036854775807) &&
  decide (n_0.Next.n * 8 ≤ 140737488355328)) then (bif (decide (n_0.Match.n ≤ 9223372036854775807) && decide (n_0.Match.n * 8 ≤ 140737488355328)) then (some (⟨n_0.Id, n_0.Peers,
  n_0.Term, n_0.Voted, (⟨none, y238.n, y238.f⟩ : (Sl S_impl_Entry)), n_0.Role, n_0.Commit, (⟨none, n_0.Votes.n, n_0.Votes.f⟩ : (Sl Int)), (⟨none, n_0.Next.n, n_0.Next.f⟩ : (Sl Int)),
  (⟨none, n_0.Match.n, n_0.Match.f⟩ : (Sl Int))⟩ : S_impl_Node)) else none) else none) else none))
def pcx_b9 (fu f : Nat) (xs : List (D RT den)) (ins : List (Ob RT den)) : Option (OutX RT den) := match f with | 73 => S_b8 fu xs ins | _ => none
def pcd_b9 : Nat → Bool := fun _ => false
def pc_b9 (fu : Nat) : Pc RT den := ⟨pcf0, fun f => match f with | 73 => true | _ => false, fun _ => false, pcd_b9, pcd0, pcx_b9 fu⟩
def msk_b9 (b : Nat) : List Nat := []
def lp_b9 (fu : Nat) : Lp RT den (S_impl_Node) := ⟨fun b s k => none, inl0⟩
theorem ev_b9 (fu : Nat) (n_0 : S_impl_Node) : evFunX E false (pc_b9 fu) msk_b9 (lp_b9 fu) out_impl_Node_H 27 [(.agg [(ii n_0.Id), (ii n_0.Peers), (ii n_0.Term), (ii n_0.Voted), (.rs n_0.Log.z .impl_Entry n_0.Log.n n_0.Log.f), (ii n_0.Role), (ii n_0.Commit), (.rs n_0.Votes.z .i64 n_0.Votes.n n_0.Votes.f), (.rs n_0.Next.z .i64 n_0.Next.n n_0.Next.f), (.rs n_0.Match.z .i64 n_0.Match.n n_0.Match.f)])] [] = F_spec_l8Copy_H fu n_0 := by kernel_rfl
noncomputable def body_b9 : Code := Try.f27.body.getD .skip
theorem lpok_b9 (fu : Nat) : LpOk E (pc_b9 fu) 0 msk_b9 (lp_b9 fu) (loops 0 body_b9) := lp_nil (loop_nil (by kernel_rfl)) (by kernel_rfl)
def S_b9 (fu : Nat) (xs : List (D RT den)) (ins : List (Ob RT den)) : Option (OutX RT den) := match xs, ins with | [.agg [.int .i64 a0_1, .int .i64 a0_2, .int .i64 a0_3, .int .i64 a0_4, .rs za0_5 .impl_Entry na0_5 fa0_5, .int .i64 a0_6, .int .i64 a0_7, .rs za0_8 .i64 na0_8 fa0_8, .rs za0_9 .i64 na0_9 fa0_9, .rs za0_10 .i64 na0_10 fa0_10]], [] => some ⟨S_impl_Node, F_spec_l8Copy_H fu (⟨a0_1, a0_2, a0_3, a0_4, (⟨za0_5, na0_5, fa0_5⟩ : (Sl S_impl_Entry)), a0_6, a0_7, (⟨za0_8, na0_8, fa0_8⟩ : (Sl Int)), (⟨za0_9, na0_9, fa0_9⟩ : (Sl Int)), (⟨za0_10, na0_10, fa0_10⟩ : (Sl Int))⟩ : S_impl_Node), enc_impl_Node_H⟩ | _, _ => none
theorem hpx_b9 (fu : Nat) : HpxOk E Try.prog pcd_b9 (pcx_b9 fu) := by
 intro f xs ins o h
 unfold pcx_b9 at h
 split at h
 ·exact good_b8 fu xs ins o h
 ·cases h
theorem goodv_b9 (fu : Nat) (n_0 y : S_impl_Node) (hy : F_spec_l8Copy_H fu n_0 = some y) : GoodX E Try.prog 27 [(.agg [(ii n_0.Id), (ii n_0.Peers), (ii n_0.Term), (ii n_0.Voted), (.rs n_0.Log.z .impl_Entry n_0.Log.n n_0.Log.f), (ii n_0.Role), (ii n_0.Commit), (.rs n_0.Votes.z .i64 n_0.Votes.n n_0.Votes.f), (.rs n_0.Next.z .i64 n_0.Next.n n_0.Next.f), (.rs n_0.Match.z .i64 n_0.Match.n n_0.Match.f)])] [] (enc_impl_Node_H y).1 (enc_impl_Node_H y).2 :=
 funX_good (ke := false) E_ok (pc_good (pc := pc_b9 fu) hpc0 (hpx_b9 fu)) (fn := Try.f27) (by kernel_rfl) (by kernel_rfl) (by kernel_rfl) (lpok_b9 fu) (by kernel_rfl) (Nat.zero_le _) (fun d os hd => out_impl_Node_H_enc d os _ hd) ((ev_b9 fu n_0).trans hy)
theorem good_b9 (fu : Nat) : GoodSX E Try.prog 27 (S_b9 fu) := by
 intro xs ins o h y hy
 unfold S_b9 at h
 split at h
 ·rename_i a0_1 a0_2 a0_3 a0_4 za0_5 na0_5 fa0_5 a0_6 a0_7 za0_8 na0_8 fa0_8 za0_9 na0_9 fa0_9 za0_10 na0_10 fa0_10
  cases h
  exact goodv_b9 fu (⟨a0_1, a0_2, a0_3, a0_4, (⟨za0_5, na0_5, fa0_5⟩ : (Sl S_impl_Entry)), a0_6, a0_7, (⟨za0_8, na0_8, fa0_8⟩ : (Sl Int)), (⟨za0_9, na0_9, fa0_9⟩ : (Sl Int)), (⟨za0_10, na0_10, fa0_10⟩ : (Sl Int))⟩ : S_impl_Node) y hy
 ·cases h
end Go.Proofs.Ytjdgfkmiaikegaa.Pe
