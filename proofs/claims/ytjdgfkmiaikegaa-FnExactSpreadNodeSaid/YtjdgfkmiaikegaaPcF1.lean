/- The functions' evaluated forms, each a proved summary. Conditions: none. -/
import Derived.Test.YtjdgfkmiaikegaaPcF0
namespace Go.Proofs.Ytjdgfkmiaikegaa.Pc
open Go Go.RowKit Go.Proofs Vm
set_option linter.unusedVariables false
set_option linter.unusedSimpArgs false
set_option maxRecDepth 100000
/-! spec.l8Bad -/
def F_spec_l8Bad_U (fu : Nat) (c_0 : Int) : Option (Int × Int × Int × Int × Int × Nat × Int × Int × Nat × Nat × Nat × Nat × Nat × (Nat → S_impl_Entry) × Nat × (Nat → Int) × Nat × (Nat → Int) × Nat × (Nat → Int) × Nat × (Nat → S_impl_Mail)) :=
  (bif (decide ((0 : Nat) = 0) && true) then (some (c_0, 0, 0, 0, 0, 0, 0, 0, 0, 0, 0, 0, 0, (fun _ => dflt .impl_Entry), 0, (fun _ => dflt .i64), 0, (fun _ => dflt .i64), 0, (fun _ =>
    dflt .i64), 0, (fun _ => dflt .impl_Mail))) else none)
def pc_a21 (fu : Nat) : Pc RT den := ⟨pcf0, fun _ => false, fun _ => false, pcd0, pcd0, pcx0⟩
def msk_a21 (b : Nat) : List Nat := []
def lp_a21 (fu : Nat) : Lp RT den (Int × Int × Int × Int × Int × Nat × Int × Int × Nat × Nat × Nat × Nat × Nat × (Nat → S_impl_Entry) × Nat × (Nat → Int) × Nat × (Nat → Int) × Nat × (Nat → Int) × Nat × (Nat → S_impl_Mail)) := ⟨fun b s k => none, inl0⟩
def pso_a21 : List (Pat RT) := [.agg [(.int .i64), (.int .i64), (.int .i64), (.int .i64), (.int .i64), (.os 0), (.int .i64), (.int .i64), (.os 1), (.os 2), (.os 3), (.os 4)]]
def oso_a21 : List (OP RT) := [.row false .impl_Entry, .row false .i64, .row false .i64, .row false .i64, .deep false .impl_Mail]
def conv_a21 (r : Raw den pso_a21 oso_a21) : Int × Int × Int × Int × Int × Nat × Int × Int × Nat × Nat × Nat × Nat × Nat × (Nat → S_impl_Entry) × Nat × (Nat → Int) × Nat × (Nat → Int) × Nat × (Nat → Int) × Nat × (Nat → S_impl_Mail) := (r.1.1.1, r.1.1.2.1, r.1.1.2.2.1, r.1.1.2.2.2.1, r.1.1.2.2.2.2.1, r.1.1.2.2.2.2.2.1, r.1.1.2.2.2.2.2.2.1, r.1.1.2.2.2.2.2.2.2.1, r.1.1.2.2.2.2.2.2.2.2.1, r.1.1.2.2.2.2.2.2.2.2.2.1, r.1.1.2.2.2.2.2.2.2.2.2.2.1, r.1.1.2.2.2.2.2.2.2.2.2.2.2.1, r.2.1.1, r.2.1.2, r.2.2.1.1, r.2.2.1.2, r.2.2.2.1.1, r.2.2.2.1.2, r.2.2.2.2.1.1, r.2.2.2.2.1.2, r.2.2.2.2.2.1.1, r.2.2.2.2.2.1.2.2)
def enc_a21 (y : Int × Int × Int × Int × Int × Nat × Int × Int × Nat × Nat × Nat × Nat × Nat × (Nat → S_impl_Entry) × Nat × (Nat → Int) × Nat × (Nat → Int) × Nat × (Nat → Int) × Nat × (Nat → S_impl_Mail)) : D RT den × List (Ob RT den) := ((.agg [(.int .i64 y.1), (.int .i64 y.2.1), (.int .i64 y.2.2.1), (.int .i64 y.2.2.2.1), (.int .i64 y.2.2.2.2.1), (.os 0 y.2.2.2.2.2.1), (.int .i64 y.2.2.2.2.2.2.1), (.int .i64 y.2.2.2.2.2.2.2.1), (.os 1 y.2.2.2.2.2.2.2.2.1), (.os 2 y.2.2.2.2.2.2.2.2.2.1), (.os 3 y.2.2.2.2.2.2.2.2.2.2.1), (.os 4 y.2.2.2.2.2.2.2.2.2.2.2.1)]), [(.row false .impl_Entry y.2.2.2.2.2.2.2.2.2.2.2.2.1 y.2.2.2.2.2.2.2.2.2.2.2.2.2.1), (.row false .i64 y.2.2.2.2.2.2.2.2.2.2.2.2.2.2.1 y.2.2.2.2.2.2.2.2.2.2.2.2.2.2.2.1), (.row false .i64 y.2.2.2.2.2.2.2.2.2.2.2.2.2.2.2.2.1 y.2.2.2.2.2.2.2.2.2.2.2.2.2.2.2.2.2.1), (.row false .i64 y.2.2.2.2.2.2.2.2.2.2.2.2.2.2.2.2.2.2.1 y.2.2.2.2.2.2.2.2.2.2.2.2.2.2.2.2.2.2.2.1), (.deep false .impl_Mail y.2.2.2.2.2.2.2.2.2.2.2.2.2.2.2.2.2.2.2.2.1 y.2.2.2.2.2.2.2.2.2.2.2.2.2.2.2.2.2.2.2.2.1 y.2.2.2.2.2.2.2.2.2.2.2.2.2.2.2.2.2.2.2.2.2)])
def chk_a21 (r : Raw den pso_a21 oso_a21) : Bool := (decide (r.2.2.2.2.2.1.2.1 = r.2.2.2.2.2.1.1) && true)
def raw_a21 (r : Raw den pso_a21 oso_a21) : St RT den := ⟨[(.agg [(.int .i64 r.1.1.1), (.int .i64 r.1.1.2.1), (.int .i64 r.1.1.2.2.1), (.int .i64 r.1.1.2.2.2.1), (.int .i64 r.1.1.2.2.2.2.1), (.os 0 r.1.1.2.2.2.2.2.1), (.int .i64 r.1.1.2.2.2.2.2.2.1), (.int .i64 r.1.1.2.2.2.2.2.2.2.1), (.os 1 r.1.1.2.2.2.2.2.2.2.2.1), (.os 2 r.1.1.2.2.2.2.2.2.2.2.2.1), (.os 3 r.1.1.2.2.2.2.2.2.2.2.2.2.1), (.os 4 r.1.1.2.2.2.2.2.2.2.2.2.2.2.1)])], [(.row false .impl_Entry r.2.1.1 r.2.1.2), (.row false .i64 r.2.2.1.1 r.2.2.1.2), (.row false .i64 r.2.2.2.1.1 r.2.2.2.1.2), (.row false .i64 r.2.2.2.2.1.1 r.2.2.2.2.1.2), (.deep false .impl_Mail r.2.2.2.2.2.1.1 r.2.2.2.2.2.1.2.1 r.2.2.2.2.2.1.2.2)]⟩
theorem chkd_a21 (r : Raw den pso_a21 oso_a21) (h : chk_a21 r = true) : raw_a21 r = ⟨[(enc_a21 (conv_a21 r)).1], (enc_a21 (conv_a21 r)).2⟩ := by
  simp only [chk_a21, Bool.and_eq_true, decide_eq_true_eq, and_true] at h
  simp only [raw_a21, enc_a21, conv_a21, h]
def out_a21 (d : D RT den) (os : List (Ob RT den)) : Option (Int × Int × Int × Int × Int × Nat × Int × Int × Nat × Nat × Nat × Nat × Nat × (Nat → S_impl_Entry) × Nat × (Nat → Int) × Nat × (Nat → Int) × Nat × (Nat → Int) × Nat × (Nat → S_impl_Mail)) := (unSt pso_a21 oso_a21 ⟨[d], os⟩).bind fun v => bif chk_a21 v.1 then some (conv_a21 v.1) else none
theorem out_a21_enc (d : D RT den) (os : List (Ob RT den)) (y : Int × Int × Int × Int × Int × Nat × Int × Int × Nat × Nat × Nat × Nat × Nat × (Nat → S_impl_Entry) × Nat × (Nat → Int) × Nat × (Nat → Int) × Nat × (Nat → Int) × Nat × (Nat → S_impl_Mail)) (h : out_a21 d os = some y) : d = (enc_a21 y).1 ∧ os = (enc_a21 y).2 :=
  outU (conv := conv_a21) (enc := enc_a21) (chk := chk_a21) (fun raw h => Eq.trans (by kernel_rfl) (chkd_a21 raw h)) h
theorem ev_a21 (fu : Nat) (c_0 : Int) : evFunU E (pc_a21 fu) msk_a21 (lp_a21 fu) out_a21 26 [(.int .i64 c_0)] [] = F_spec_l8Bad_U fu c_0 := by kernel_rfl
noncomputable def body_a21 : Code := Try.f26.body.getD .skip
theorem lpok_a21 (fu : Nat) : LpOk E (pc_a21 fu) 0 msk_a21 (lp_a21 fu) (loops 0 body_a21) := lp_nil (loop_nil (by kernel_rfl)) (by kernel_rfl)
def S_a21 (fu : Nat) (xs : List (D RT den)) (ins : List (Ob RT den)) : Option (OutX RT den) := match xs, ins with | [.int .i64 a0_0], [] => some ⟨Int × Int × Int × Int × Int × Nat × Int × Int × Nat × Nat × Nat × Nat × Nat × (Nat → S_impl_Entry) × Nat × (Nat → Int) × Nat × (Nat → Int) × Nat × (Nat → Int) × Nat × (Nat → S_impl_Mail), F_spec_l8Bad_U fu a0_0, enc_a21⟩ | _, _ => none
theorem goodv_a21 (fu : Nat) (c_0 : Int) (y : Int × Int × Int × Int × Int × Nat × Int × Int × Nat × Nat × Nat × Nat × Nat × (Nat → S_impl_Entry) × Nat × (Nat → Int) × Nat × (Nat → Int) × Nat × (Nat → Int) × Nat × (Nat → S_impl_Mail)) (hy : F_spec_l8Bad_U fu c_0 = some y) : GoodD E Try.prog 26 [(.int .i64 c_0)] [] (enc_a21 y).1 (enc_a21 y).2 :=
  funU_good E_ok (pc_good (pc := pc_a21 fu) hpc0 hpx0) (fn := Try.f26) (c := body_a21) (out := out_a21) (y := y) (by kernel_rfl) (by kernel_rfl) (by kernel_rfl) (lpok_a21 fu) (by kernel_rfl) (Nat.le_of_ble_eq_true (by kernel_rfl)) (Fulls.get 0 (And.intro (Nat.le_refl _) trivial)) (fun d os hd => out_a21_enc d os _ hd) ((ev_a21 fu c_0).trans hy)
theorem good_a21 (fu : Nat) : ∀ xs ins o, S_a21 fu xs ins = some o → ∀ y, o.x = some y → GoodD E Try.prog 26 xs ins (o.g y).1 (o.g y).2 := by
  intro xs ins o h y hy
  unfold S_a21 at h
  split at h
  · rename_i a0_0
    cases h
    exact goodv_a21 fu a0_0 y hy
  · cases h

/-! spec.l7Copy -/
def F_spec_l7Copy_H (fu : Nat) (log_0 : (Sl S_impl_Entry)) : Option ((Sl S_impl_Entry)) :=
  (bif (decide (log_0.n ≤ 9223372036854775807) && decide (log_0.n * 72 ≤ 140737488355328)) then (some (⟨none, log_0.n, log_0.f⟩ : (Sl S_impl_Entry))) else none)
def pc_a22 (fu : Nat) : Pc RT den := ⟨pcf0, fun _ => false, fun _ => false, pcd0, pcd0, pcx0⟩
def msk_a22 (b : Nat) : List Nat := []
def lp_a22 (fu : Nat) : Lp RT den ((Sl S_impl_Entry)) := ⟨fun b s k => none, inl0⟩
theorem ev_a22 (fu : Nat) (log_0 : (Sl S_impl_Entry)) : evFunX E false (pc_a22 fu) msk_a22 (lp_a22 fu) out_sl_impl_Entry_H 73 [(.rs log_0.z .impl_Entry log_0.n log_0.f)] [] = F_spec_l7Copy_H fu log_0 := by kernel_rfl
noncomputable def body_a22 : Code := Try.f73.body.getD .skip
theorem lpok_a22 (fu : Nat) : LpOk E (pc_a22 fu) 0 msk_a22 (lp_a22 fu) (loops 0 body_a22) := lp_nil (loop_nil (by kernel_rfl)) (by kernel_rfl)
def S_a22 (fu : Nat) (xs : List (D RT den)) (ins : List (Ob RT den)) : Option (OutX RT den) := match xs, ins with | [.rs za0_0 .impl_Entry na0_0 fa0_0], [] => some ⟨(Sl S_impl_Entry), F_spec_l7Copy_H fu (⟨za0_0, na0_0, fa0_0⟩ : (Sl S_impl_Entry)), enc_sl_impl_Entry_H⟩ | _, _ => none
theorem goodv_a22 (fu : Nat) (log_0 : (Sl S_impl_Entry)) (y : (Sl S_impl_Entry)) (hy : F_spec_l7Copy_H fu log_0 = some y) : GoodX E Try.prog 73 [(.rs log_0.z .impl_Entry log_0.n log_0.f)] [] (enc_sl_impl_Entry_H y).1 (enc_sl_impl_Entry_H y).2 :=
  funX_good (ke := false) E_ok (pc_good (pc := pc_a22 fu) hpc0 hpx0) (fn := Try.f73) (c := body_a22) (out := out_sl_impl_Entry_H) (y := y) (by kernel_rfl) (by kernel_rfl) (by kernel_rfl) (lpok_a22 fu) (by kernel_rfl) (Nat.zero_le _) (fun d os hd => out_sl_impl_Entry_H_enc d os _ hd) ((ev_a22 fu log_0).trans hy)
theorem good_a22 (fu : Nat) : ∀ xs ins o, S_a22 fu xs ins = some o → ∀ y, o.x = some y → GoodX E Try.prog 73 xs ins (o.g y).1 (o.g y).2 := by
  intro xs ins o h y hy
  unfold S_a22 at h
  split at h
  · rename_i za0_0 na0_0 fa0_0
    cases h
    exact goodv_a22 fu (⟨za0_0, na0_0, fa0_0⟩ : (Sl S_impl_Entry)) y hy
  · cases h

/-! spec.l8Copy -/
def F_spec_l8Copy_H (fu : Nat) (n_0 : S_impl_Node) : Option (S_impl_Node) :=
  ((F_spec_l7Copy_H fu n_0.Log).bind fun y97 => (bif (decide (n_0.Votes.n ≤ 9223372036854775807) && decide (n_0.Votes.n * 8 ≤ 140737488355328)) then (bif (decide (n_0.Next.n ≤ 9223372036854775807) &&
    decide (n_0.Next.n * 8 ≤ 140737488355328)) then (bif (decide (n_0.Match.n ≤ 9223372036854775807) && decide (n_0.Match.n * 8 ≤ 140737488355328)) then (some (⟨n_0.Id, n_0.Peers,
    n_0.Term, n_0.Voted, (⟨none, y97.n, y97.f⟩ : (Sl S_impl_Entry)), n_0.Role, n_0.Commit, (⟨none, n_0.Votes.n, n_0.Votes.f⟩ : (Sl Int)), (⟨none, n_0.Next.n, n_0.Next.f⟩ : (Sl Int)),
    (⟨none, n_0.Match.n, n_0.Match.f⟩ : (Sl Int))⟩ : S_impl_Node)) else none) else none) else none))
def pcx_a23 (fu : Nat) (f : Nat) (xs : List (D RT den)) (ins : List (Ob RT den)) : Option (OutX RT den) := match f with | 73 => S_a22 fu xs ins | _ => none
def pcd_a23 : Nat → Bool := fun _ => false
def pc_a23 (fu : Nat) : Pc RT den := ⟨pcf0, fun f => match f with | 73 => true | _ => false, fun _ => false, pcd_a23, pcd0, pcx_a23 fu⟩
def msk_a23 (b : Nat) : List Nat := []
def lp_a23 (fu : Nat) : Lp RT den (S_impl_Node) := ⟨fun b s k => none, inl0⟩
theorem ev_a23 (fu : Nat) (n_0 : S_impl_Node) : evFunX E false (pc_a23 fu) msk_a23 (lp_a23 fu) out_impl_Node_H 27 [(.agg [(.int .i64 n_0.Id), (.int .i64 n_0.Peers), (.int .i64 n_0.Term), (.int .i64 n_0.Voted), (.rs n_0.Log.z .impl_Entry n_0.Log.n n_0.Log.f), (.int .i64 n_0.Role), (.int .i64 n_0.Commit), (.rs n_0.Votes.z .i64 n_0.Votes.n n_0.Votes.f), (.rs n_0.Next.z .i64 n_0.Next.n n_0.Next.f), (.rs n_0.Match.z .i64 n_0.Match.n n_0.Match.f)])] [] = F_spec_l8Copy_H fu n_0 := by kernel_rfl
noncomputable def body_a23 : Code := Try.f27.body.getD .skip
theorem lpok_a23 (fu : Nat) : LpOk E (pc_a23 fu) 0 msk_a23 (lp_a23 fu) (loops 0 body_a23) := lp_nil (loop_nil (by kernel_rfl)) (by kernel_rfl)
def S_a23 (fu : Nat) (xs : List (D RT den)) (ins : List (Ob RT den)) : Option (OutX RT den) := match xs, ins with | [.agg [.int .i64 a0_1, .int .i64 a0_2, .int .i64 a0_3, .int .i64 a0_4, .rs za0_5 .impl_Entry na0_5 fa0_5, .int .i64 a0_6, .int .i64 a0_7, .rs za0_8 .i64 na0_8 fa0_8, .rs za0_9 .i64 na0_9 fa0_9, .rs za0_10 .i64 na0_10 fa0_10]], [] => some ⟨S_impl_Node, F_spec_l8Copy_H fu (⟨a0_1, a0_2, a0_3, a0_4, (⟨za0_5, na0_5, fa0_5⟩ : (Sl S_impl_Entry)), a0_6, a0_7, (⟨za0_8, na0_8, fa0_8⟩ : (Sl Int)), (⟨za0_9, na0_9, fa0_9⟩ : (Sl Int)), (⟨za0_10, na0_10, fa0_10⟩ : (Sl Int))⟩ : S_impl_Node), enc_impl_Node_H⟩ | _, _ => none
theorem hpx_a23 (fu : Nat) : ∀ f xs ins o, pcx_a23 fu f xs ins = some o → ∀ y, o.x = some y → GoodXD E Try.prog (pcd_a23 f) f xs ins (o.g y).1 (o.g y).2 := by
  intro f xs ins o h
  unfold pcx_a23 at h
  split at h
  · exact good_a22 fu xs ins o h
  · cases h
theorem goodv_a23 (fu : Nat) (n_0 : S_impl_Node) (y : S_impl_Node) (hy : F_spec_l8Copy_H fu n_0 = some y) : GoodX E Try.prog 27 [(.agg [(.int .i64 n_0.Id), (.int .i64 n_0.Peers), (.int .i64 n_0.Term), (.int .i64 n_0.Voted), (.rs n_0.Log.z .impl_Entry n_0.Log.n n_0.Log.f), (.int .i64 n_0.Role), (.int .i64 n_0.Commit), (.rs n_0.Votes.z .i64 n_0.Votes.n n_0.Votes.f), (.rs n_0.Next.z .i64 n_0.Next.n n_0.Next.f), (.rs n_0.Match.z .i64 n_0.Match.n n_0.Match.f)])] [] (enc_impl_Node_H y).1 (enc_impl_Node_H y).2 :=
  funX_good (ke := false) E_ok (pc_good (pc := pc_a23 fu) hpc0 (hpx_a23 fu)) (fn := Try.f27) (c := body_a23) (out := out_impl_Node_H) (y := y) (by kernel_rfl) (by kernel_rfl) (by kernel_rfl) (lpok_a23 fu) (by kernel_rfl) (Nat.zero_le _) (fun d os hd => out_impl_Node_H_enc d os _ hd) ((ev_a23 fu n_0).trans hy)
theorem good_a23 (fu : Nat) : ∀ xs ins o, S_a23 fu xs ins = some o → ∀ y, o.x = some y → GoodX E Try.prog 27 xs ins (o.g y).1 (o.g y).2 := by
  intro xs ins o h y hy
  unfold S_a23 at h
  split at h
  · rename_i a0_1 a0_2 a0_3 a0_4 za0_5 na0_5 fa0_5 a0_6 a0_7 za0_8 na0_8 fa0_8 za0_9 na0_9 fa0_9 za0_10 na0_10 fa0_10
    cases h
    exact goodv_a23 fu (⟨a0_1, a0_2, a0_3, a0_4, (⟨za0_5, na0_5, fa0_5⟩ : (Sl S_impl_Entry)), a0_6, a0_7, (⟨za0_8, na0_8, fa0_8⟩ : (Sl Int)), (⟨za0_9, na0_9, fa0_9⟩ : (Sl Int)), (⟨za0_10, na0_10, fa0_10⟩ : (Sl Int))⟩ : S_impl_Node) y hy
  · cases h

/-! spec.l1Min -/
def F_spec_l1Min (fu : Nat) (a_0 : Int) (b_1 : Int) : Option (Int) :=
  (bif (decide (a_0 < b_1)) then (some a_0) else (some b_1))
def pc_a24 (fu : Nat) : Pc RT den := ⟨pcf0, fun _ => false, fun _ => false, pcd0, pcd0, pcx0⟩
def msk_a24 (b : Nat) : List Nat := []
def lp_a24 (fu : Nat) : Lp RT den (Int) := ⟨fun b s k => none, inl0⟩
theorem ev_a24 (fu : Nat) (a_0 : Int) (b_1 : Int) : evFun E (pc_a24 fu) msk_a24 (lp_a24 fu) out_i64 74 [(.int .i64 a_0), (.int .i64 b_1)] = F_spec_l1Min fu a_0 b_1 := by kernel_rfl
noncomputable def body_a24 : Code := Try.f74.body.getD .skip
theorem lpok_a24 (fu : Nat) : LpOk E (pc_a24 fu) 0 msk_a24 (lp_a24 fu) (loops 0 body_a24) := lp_nil (loop_nil (by kernel_rfl)) (by kernel_rfl)
def S_a24 (fu : Nat) (xs : List (D RT den)) : Option (Out RT den) := match xs with | [.int .i64 a0_0, .int .i64 a1_0] => some ⟨Int, F_spec_l1Min fu a0_0 a1_0, enc_i64, fun _ => true⟩ | _ => none
theorem goodv_a24 (fu : Nat) (a_0 : Int) (b_1 : Int) (y : Int) (hy : F_spec_l1Min fu a_0 b_1 = some y) : Good E Try.prog 74 [(.int .i64 a_0), (.int .i64 b_1)] (enc_i64 y) :=
  fun_good E_ok (pc_good (pc := pc_a24 fu) hpc0 hpx0) (fn := Try.f74) (c := body_a24) (out := out_i64) (y := y) (by kernel_rfl) (by kernel_rfl) (by kernel_rfl) (lpok_a24 fu) (fun d hd => out_i64_enc d _ hd) ((ev_a24 fu a_0 b_1).trans hy)
theorem good_a24 (fu : Nat) : ∀ xs o, S_a24 fu xs = some o → ∀ y, o.x = some y → Good E Try.prog 74 xs (o.g y) := by
  intro xs o h y hy
  unfold S_a24 at h
  split at h
  · rename_i a0_0 a1_0
    cases h
    exact goodv_a24 fu a0_0 a1_0 y hy
  · cases h

/-! spec.l8Append -/
def F_spec_l8Append_H (fu : Nat) (n_0 : S_impl_Node) (to_1 : Int) : Option (S_impl_Mail) :=
  ((bif (decide (0 ≤ to_1) && decide ((Int.toNat to_1) < n_0.Next.n)) then some () else none : Option Unit).bind fun _ => (bif (decide ((IntKind.wrap .i64 ((n_0.Next.f (Int.toNat to_1)) - 1)) > 0)) then
    ((bif (decide (0 ≤ (IntKind.wrap .i64 ((IntKind.wrap .i64 ((n_0.Next.f (Int.toNat to_1)) - 1)) - 1))) && decide ((Int.toNat (IntKind.wrap .i64 ((IntKind.wrap .i64 ((n_0.Next.f (Int.toNat to_1)) - 1)) - 1))) < n_0.Log.n)) then
    some () else none : Option Unit).bind fun _ => ((F_spec_l1Min fu ((n_0.Log.n : Nat) : Int) (IntKind.wrap .i64 ((IntKind.wrap .i64 ((n_0.Next.f (Int.toNat to_1)) - 1)) + 4))).bind fun y101 =>
    ((bif (decide (0 ≤ (IntKind.wrap .i64 ((n_0.Next.f (Int.toNat to_1)) - 1))) && (decide ((IntKind.wrap .i64 ((n_0.Next.f (Int.toNat to_1)) - 1)) ≤ y101) && decide ((Int.toNat y101) ≤ n_0.Log.n))) then
    some () else none : Option Unit).bind fun _ => ((F_spec_l7Copy_H fu (⟨n_0.Log.z, ((Int.toNat y101) - (Int.toNat (IntKind.wrap .i64 ((n_0.Next.f (Int.toNat to_1)) - 1)))), (fun i =>
    n_0.Log.f ((Int.toNat (IntKind.wrap .i64 ((n_0.Next.f (Int.toNat to_1)) - 1))) + i))⟩ : (Sl S_impl_Entry))).bind fun y102 => (some (⟨3, n_0.Id, to_1, n_0.Term, (IntKind.wrap .i64 ((n_0.Next.f (Int.toNat to_1)) - 1)),
    (n_0.Log.f (Int.toNat (IntKind.wrap .i64 ((IntKind.wrap .i64 ((n_0.Next.f (Int.toNat to_1)) - 1)) - 1)))).Term, n_0.Commit, false, (⟨none, y102.n, y102.f⟩ : (Sl S_impl_Entry))⟩ : S_impl_Mail)))))) else
    ((F_spec_l1Min fu ((n_0.Log.n : Nat) : Int) (IntKind.wrap .i64 ((IntKind.wrap .i64 ((n_0.Next.f (Int.toNat to_1)) - 1)) + 4))).bind fun y103 => ((bif (decide (0 ≤ (IntKind.wrap .i64 ((n_0.Next.f (Int.toNat to_1)) - 1))) &&
    (decide ((IntKind.wrap .i64 ((n_0.Next.f (Int.toNat to_1)) - 1)) ≤ y103) && decide ((Int.toNat y103) ≤ n_0.Log.n))) then some () else none : Option Unit).bind fun _ =>
    ((F_spec_l7Copy_H fu (⟨n_0.Log.z, ((Int.toNat y103) - (Int.toNat (IntKind.wrap .i64 ((n_0.Next.f (Int.toNat to_1)) - 1)))), (fun i => n_0.Log.f ((Int.toNat (IntKind.wrap .i64 ((n_0.Next.f (Int.toNat to_1)) - 1))) + i))⟩ : (Sl S_impl_Entry))).bind fun y104 =>
    (some (⟨3, n_0.Id, to_1, n_0.Term, (IntKind.wrap .i64 ((n_0.Next.f (Int.toNat to_1)) - 1)), 0, n_0.Commit, false, (⟨none, y104.n, y104.f⟩ : (Sl S_impl_Entry))⟩ : S_impl_Mail)))))))
def pcf_a25 (fu : Nat) (f : Nat) (xs : List (D RT den)) : Option (Out RT den) := match f with | 74 => S_a24 fu xs | _ => none
def pcx_a25 (fu : Nat) (f : Nat) (xs : List (D RT den)) (ins : List (Ob RT den)) : Option (OutX RT den) := match f with | 73 => S_a22 fu xs ins | _ => none
def pcd_a25 : Nat → Bool := fun _ => false
def pc_a25 (fu : Nat) : Pc RT den := ⟨pcf_a25 fu, fun f => match f with | 73 => true | _ => false, fun _ => false, pcd_a25, pcd0, pcx_a25 fu⟩
def msk_a25 (b : Nat) : List Nat := []
def lp_a25 (fu : Nat) : Lp RT den (S_impl_Mail) := ⟨fun b s k => none, inl0⟩
theorem ev_a25 (fu : Nat) (n_0 : S_impl_Node) (to_1 : Int) : evFunX E false (pc_a25 fu) msk_a25 (lp_a25 fu) out_impl_Mail_H 28 [(.rptr [(.int .i64 n_0.Id), (.int .i64 n_0.Peers), (.int .i64 n_0.Term), (.int .i64 n_0.Voted), (.rs n_0.Log.z .impl_Entry n_0.Log.n n_0.Log.f), (.int .i64 n_0.Role), (.int .i64 n_0.Commit), (.rs n_0.Votes.z .i64 n_0.Votes.n n_0.Votes.f), (.rs n_0.Next.z .i64 n_0.Next.n n_0.Next.f), (.rs n_0.Match.z .i64 n_0.Match.n n_0.Match.f)]), (.int .i64 to_1)] [] = F_spec_l8Append_H fu n_0 to_1 := by kernel_rfl
noncomputable def body_a25 : Code := Try.f28.body.getD .skip
theorem lpok_a25 (fu : Nat) : LpOk E (pc_a25 fu) 0 msk_a25 (lp_a25 fu) (loops 0 body_a25) := lp_nil (loop_nil (by kernel_rfl)) (by kernel_rfl)
def S_a25 (fu : Nat) (xs : List (D RT den)) (ins : List (Ob RT den)) : Option (OutX RT den) := match xs, ins with | [.rptr [.int .i64 a0_1, .int .i64 a0_2, .int .i64 a0_3, .int .i64 a0_4, .rs za0_5 .impl_Entry na0_5 fa0_5, .int .i64 a0_6, .int .i64 a0_7, .rs za0_8 .i64 na0_8 fa0_8, .rs za0_9 .i64 na0_9 fa0_9, .rs za0_10 .i64 na0_10 fa0_10], .int .i64 a1_0], [] => some ⟨S_impl_Mail, F_spec_l8Append_H fu (⟨a0_1, a0_2, a0_3, a0_4, (⟨za0_5, na0_5, fa0_5⟩ : (Sl S_impl_Entry)), a0_6, a0_7, (⟨za0_8, na0_8, fa0_8⟩ : (Sl Int)), (⟨za0_9, na0_9, fa0_9⟩ : (Sl Int)), (⟨za0_10, na0_10, fa0_10⟩ : (Sl Int))⟩ : S_impl_Node) a1_0, enc_impl_Mail_H⟩ | _, _ => none
theorem hpc_a25 (fu : Nat) : ∀ f xs o, pcf_a25 fu f xs = some o → ∀ y, o.x = some y → Good E Try.prog f xs (o.g y) := by
  intro f xs o h
  unfold pcf_a25 at h
  split at h
  · exact good_a24 fu xs o h
  · cases h
theorem hpx_a25 (fu : Nat) : ∀ f xs ins o, pcx_a25 fu f xs ins = some o → ∀ y, o.x = some y → GoodXD E Try.prog (pcd_a25 f) f xs ins (o.g y).1 (o.g y).2 := by
  intro f xs ins o h
  unfold pcx_a25 at h
  split at h
  · exact good_a22 fu xs ins o h
  · cases h
theorem goodv_a25 (fu : Nat) (n_0 : S_impl_Node) (to_1 : Int) (y : S_impl_Mail) (hy : F_spec_l8Append_H fu n_0 to_1 = some y) : GoodX E Try.prog 28 [(.rptr [(.int .i64 n_0.Id), (.int .i64 n_0.Peers), (.int .i64 n_0.Term), (.int .i64 n_0.Voted), (.rs n_0.Log.z .impl_Entry n_0.Log.n n_0.Log.f), (.int .i64 n_0.Role), (.int .i64 n_0.Commit), (.rs n_0.Votes.z .i64 n_0.Votes.n n_0.Votes.f), (.rs n_0.Next.z .i64 n_0.Next.n n_0.Next.f), (.rs n_0.Match.z .i64 n_0.Match.n n_0.Match.f)]), (.int .i64 to_1)] [] (enc_impl_Mail_H y).1 (enc_impl_Mail_H y).2 :=
  funX_good (ke := false) E_ok (pc_good (pc := pc_a25 fu) (hpc_a25 fu) (hpx_a25 fu)) (fn := Try.f28) (c := body_a25) (out := out_impl_Mail_H) (y := y) (by kernel_rfl) (by kernel_rfl) (by kernel_rfl) (lpok_a25 fu) (by kernel_rfl) (Nat.zero_le _) (fun d os hd => out_impl_Mail_H_enc d os _ hd) ((ev_a25 fu n_0 to_1).trans hy)
theorem good_a25 (fu : Nat) : ∀ xs ins o, S_a25 fu xs ins = some o → ∀ y, o.x = some y → GoodX E Try.prog 28 xs ins (o.g y).1 (o.g y).2 := by
  intro xs ins o h y hy
  unfold S_a25 at h
  split at h
  · rename_i a0_1 a0_2 a0_3 a0_4 za0_5 na0_5 fa0_5 a0_6 a0_7 za0_8 na0_8 fa0_8 za0_9 na0_9 fa0_9 za0_10 na0_10 fa0_10 a1_0
    cases h
    exact goodv_a25 fu (⟨a0_1, a0_2, a0_3, a0_4, (⟨za0_5, na0_5, fa0_5⟩ : (Sl S_impl_Entry)), a0_6, a0_7, (⟨za0_8, na0_8, fa0_8⟩ : (Sl Int)), (⟨za0_9, na0_9, fa0_9⟩ : (Sl Int)), (⟨za0_10, na0_10, fa0_10⟩ : (Sl Int))⟩ : S_impl_Node) a1_0 y hy
  · cases h

/-! spec.SpreadNode -/
def F_spec_SpreadNode_U_B0 {ρ : Type} (fu : Nat) (o0_1 : Int) (o0_2 : Int) (o0_3 : Int) (o0_4 : Int) (o0_5 : Int) (o0_6 : Int) (o0_7 : Int) (o1_8 : Int) (o1_9 : Int) (o1_10 : Int) (o1_11 : Int) (o1_12 : (Sl S_impl_Entry)) (o1_13 : Int) (o1_14 : Int) (o1_15 : (Sl Int)) (o1_16 : (Sl Int)) (o1_17 : (Sl Int)) (o2_18 : Int) (o2_19 : Int) (o2_20 : Int) (o2_21 : Int) (o2_22 : Int) (o2_23 : Nat) (o2_24 : Int) (o2_25 : Int) (o2_26 : Nat) (o2_27 : Nat) (o2_28 : Nat) (on3_30 : Nat) (of3_31 : (Nat → S_impl_Entry)) (on4_32 : Nat) (of4_33 : (Nat → Int)) (on5_34 : Nat) (of5_35 : (Nat → Int)) (on6_36 : Nat) (of6_37 : (Nat → Int)) (k0 : Nat → Nat → Nat → (Nat → S_impl_Mail) → Option ρ) (i5_0 : Int) (o2_29 : Nat) (on7_38 : Nat) (op7_39 : Nat) (of7_40 : (Nat → S_impl_Mail)) (go : Int → Nat → Nat → Nat → (Nat → S_impl_Mail) → Option ρ) : Option ρ :=
  (bif (decide (i5_0 < o1_9)) then (bif (i5_0 != o1_8) then ((F_spec_l8Append_H fu (⟨o1_8, o1_9, o1_10, o1_11, o1_12, o1_13, o1_14, o1_15, o1_16, o1_17⟩ : S_impl_Node) i5_0).bind fun y115 =>
    (bif (decide (o2_29 ≤ op7_39) && (decide ((o2_29 + 1) ≤ 9223372036854775807) && decide ((o2_29 + 1) * 88 ≤ 140737488355328))) then (go (IntKind.wrap .i64 (i5_0 + 1)) (o2_29 + 1) (o2_29 + 1) (o2_29 + 1) (fun i =>
    if i < o2_29 then (of7_40 i) else (⟨y115.Kind, y115.From, y115.To, y115.Term, y115.Index, y115.Last, y115.Commit, y115.Ok, (⟨none, y115.Entries.n, y115.Entries.f⟩ : (Sl S_impl_Entry))⟩ : S_impl_Mail))) else
    none)) else (go (IntKind.wrap .i64 (i5_0 + 1)) o2_29 on7_38 op7_39 of7_40)) else (k0 o2_29 on7_38 op7_39 of7_40))
def F_spec_SpreadNode_U (fu : Nat) (n_0 : S_impl_Node) : Option (Int × Int × Int × Int × Int × Nat × Int × Int × Nat × Nat × Nat × Nat × Nat × (Nat → S_impl_Entry) × Nat × (Nat → Int) × Nat × (Nat → Int) × Nat × (Nat → Int) × Nat × (Nat → S_impl_Mail)) :=
  ((F_spec_l8Fault fu n_0).bind fun y111 => (bif (y111 != 0) then ((F_spec_l8Bad_U fu y111).bind fun y112 => (bif (decide (y112.2.2.2.2.2.2.2.2.2.2.2.1 ≤ y112.2.2.2.2.2.2.2.2.2.2.2.2.2.2.2.2.2.2.2.2.1) &&
    true) then (bif (decide (y112.2.2.2.2.2.2.2.2.2.2.2.1 = y112.2.2.2.2.2.2.2.2.2.2.2.1) && true) then (some (y112.1, y112.2.1, y112.2.2.1, y112.2.2.2.1, y112.2.2.2.2.1,
    y112.2.2.2.2.2.1, y112.2.2.2.2.2.2.1, y112.2.2.2.2.2.2.2.1, y112.2.2.2.2.2.2.2.2.1, y112.2.2.2.2.2.2.2.2.2.1, y112.2.2.2.2.2.2.2.2.2.2.1, y112.2.2.2.2.2.2.2.2.2.2.2.1,
    y112.2.2.2.2.2.1, y112.2.2.2.2.2.2.2.2.2.2.2.2.2.1, y112.2.2.2.2.2.2.2.2.1, y112.2.2.2.2.2.2.2.2.2.2.2.2.2.2.2.1, y112.2.2.2.2.2.2.2.2.2.1,
    y112.2.2.2.2.2.2.2.2.2.2.2.2.2.2.2.2.2.1, y112.2.2.2.2.2.2.2.2.2.2.1, y112.2.2.2.2.2.2.2.2.2.2.2.2.2.2.2.2.2.2.2.1, y112.2.2.2.2.2.2.2.2.2.2.2.1,
    y112.2.2.2.2.2.2.2.2.2.2.2.2.2.2.2.2.2.2.2.2.2)) else none) else none)) else (bif (n_0.Role != 2) then ((F_spec_l8Bad_U fu 10).bind fun y113 => (bif (decide (y113.2.2.2.2.2.2.2.2.2.2.2.1 ≤ y113.2.2.2.2.2.2.2.2.2.2.2.2.2.2.2.2.2.2.2.2.1) &&
    true) then (bif (decide (y113.2.2.2.2.2.2.2.2.2.2.2.1 = y113.2.2.2.2.2.2.2.2.2.2.2.1) && true) then (some (y113.1, y113.2.1, y113.2.2.1, y113.2.2.2.1, y113.2.2.2.2.1,
    y113.2.2.2.2.2.1, y113.2.2.2.2.2.2.1, y113.2.2.2.2.2.2.2.1, y113.2.2.2.2.2.2.2.2.1, y113.2.2.2.2.2.2.2.2.2.1, y113.2.2.2.2.2.2.2.2.2.2.1, y113.2.2.2.2.2.2.2.2.2.2.2.1,
    y113.2.2.2.2.2.1, y113.2.2.2.2.2.2.2.2.2.2.2.2.2.1, y113.2.2.2.2.2.2.2.2.1, y113.2.2.2.2.2.2.2.2.2.2.2.2.2.2.2.1, y113.2.2.2.2.2.2.2.2.2.1,
    y113.2.2.2.2.2.2.2.2.2.2.2.2.2.2.2.2.2.1, y113.2.2.2.2.2.2.2.2.2.2.1, y113.2.2.2.2.2.2.2.2.2.2.2.2.2.2.2.2.2.2.2.1, y113.2.2.2.2.2.2.2.2.2.2.2.1,
    y113.2.2.2.2.2.2.2.2.2.2.2.2.2.2.2.2.2.2.2.2.2)) else none) else none)) else ((F_spec_l8Copy_H fu n_0).bind fun y114 => (L (fun w0 go0 => F_spec_SpreadNode_U_B0 fu 0 0 0 0 0 0 0 n_0.Id n_0.Peers n_0.Term n_0.Voted n_0.Log n_0.Role n_0.Commit n_0.Votes n_0.Next n_0.Match 0 y114.Id y114.Peers y114.Term y114.Voted y114.Log.n y114.Role y114.Commit y114.Votes.n y114.Next.n y114.Match.n y114.Log.n y114.Log.f y114.Votes.n y114.Votes.f y114.Next.n y114.Next.f y114.Match.n y114.Match.f (fun z116 z117 z118 z119 =>
    (bif (decide (z116 ≤ z118) && true) then (bif (decide (z116 = z116) && true) then (some (0, y114.Id, y114.Peers, y114.Term, y114.Voted, y114.Log.n, y114.Role, y114.Commit,
    y114.Votes.n, y114.Next.n, y114.Match.n, z116, y114.Log.n, y114.Log.f, y114.Votes.n, y114.Votes.f, y114.Next.n, y114.Next.f, y114.Match.n, y114.Match.f, z116, z119)) else none) else
    none)) w0.1 w0.2.1 w0.2.2.1 w0.2.2.2.1 w0.2.2.2.2 (fun q0 q1 q2 q3 q4 => go0 (q0, q1, q2, q3, q4))) fu ((0, 0, 0, 0, (fun _ => dflt .impl_Mail)) : Int × Nat × Nat × Nat × (Nat → S_impl_Mail)))))))
def pcf_a26 (fu : Nat) (f : Nat) (xs : List (D RT den)) : Option (Out RT den) := match f with | 25 => S_a20 fu xs | _ => none
def pcx_a26 (fu : Nat) (f : Nat) (xs : List (D RT den)) (ins : List (Ob RT den)) : Option (OutX RT den) := match f with | 26 => S_a21 fu xs ins | 27 => S_a23 fu xs ins | 28 => S_a25 fu xs ins | _ => none
def pcd_a26 : Nat → Bool := fun f => match f with | 26 => true | _ => false
def pc_a26 (fu : Nat) : Pc RT den := ⟨pcf_a26 fu, fun f => match f with | 26 => true | 27 => true | 28 => true | _ => false, fun _ => false, pcd_a26, pcd0, pcx_a26 fu⟩
def msk_a26 (b : Nat) : List Nat := match b with | 0 => [0, 3, 6, 7, 8, 9, 10, 11, 12, 13, 14, 15, 16, 17, 18, 19, 20, 21, 22, 23, 24, 25, 26, 27, 28, 29, 30, 31, 32, 33, 34, 35] | 100000 => [0, 1, 3, 5, 6, 7, 8, 9, 10, 11, 12, 13, 14, 15, 16, 17, 18, 19, 20, 21, 22, 23, 24, 25, 26, 27, 28, 29, 30, 31, 32, 33, 34, 35] | 300000 => [1002011, 5000007] | _ => []
def ps_a26_0 : List (Pat RT) := [.flat .q, .flat (.ref 1 0), .flat (.ref 0 0), .flat .q, .flat (.ref 2 0), .flat (.int .i64), .flat .q, .flat .q, .flat .q, .flat .q, .flat .q, .flat .q, .flat .q, .flat .q, .flat .q, .flat .q, .flat .q, .flat .q, .flat .q, .flat .q, .flat .q, .flat .q, .flat .q, .flat .q, .flat .q, .flat .q, .flat .q, .flat .q, .flat .q, .flat .q, .flat .q, .flat .q, .flat .q, .flat .q, .flat .q, .flat .q]
def os_a26_0 : List (OP RT) := [.box false [(.int .i64), (.int .i64), (.int .i64), (.int .i64), (.int .i64), (.emp true .impl_Entry), (.int .i64), (.int .i64), (.emp true .i64), (.emp true .i64), (.emp true .i64), (.emp true .impl_Mail)], .box false [(.int .i64), (.int .i64), (.int .i64), (.int .i64), (.rs .impl_Entry), (.int .i64), (.int .i64), (.rs .i64), (.rs .i64), (.rs .i64)], .box false [(.int .i64), (.int .i64), (.int .i64), (.int .i64), (.int .i64), (.os 3), (.int .i64), (.int .i64), (.os 4), (.os 5), (.os 6), (.os 7)], .row false .impl_Entry, .row false .i64, .row false .i64, .row false .i64, .deep false .impl_Mail]
def conv_a26_0 (r : Raw den ps_a26_0 os_a26_0) : (Int × Int × Int × Int × Int × Int × Int × Int × Int × Int × Int × (Sl S_impl_Entry) × Int × Int × (Sl Int) × (Sl Int) × (Sl Int) × Int × Int × Int × Int × Int × Nat × Int × Int × Nat × Nat × Nat × Nat × (Nat → S_impl_Entry) × Nat × (Nat → Int) × Nat × (Nat → Int) × Nat × (Nat → Int)) × (Int × Nat × Nat × Nat × (Nat → S_impl_Mail)) := ((r.2.1.1, r.2.1.2.1, r.2.1.2.2.1, r.2.1.2.2.2.1, r.2.1.2.2.2.2.1, r.2.1.2.2.2.2.2.2.1, r.2.1.2.2.2.2.2.2.2.1, r.2.2.1.1, r.2.2.1.2.1, r.2.2.1.2.2.1, r.2.2.1.2.2.2.1, r.2.2.1.2.2.2.2.1, r.2.2.1.2.2.2.2.2.1, r.2.2.1.2.2.2.2.2.2.1, r.2.2.1.2.2.2.2.2.2.2.1, r.2.2.1.2.2.2.2.2.2.2.2.1, r.2.2.1.2.2.2.2.2.2.2.2.2.1, r.2.2.2.1.1, r.2.2.2.1.2.1, r.2.2.2.1.2.2.1, r.2.2.2.1.2.2.2.1, r.2.2.2.1.2.2.2.2.1, r.2.2.2.1.2.2.2.2.2.1, r.2.2.2.1.2.2.2.2.2.2.1, r.2.2.2.1.2.2.2.2.2.2.2.1, r.2.2.2.1.2.2.2.2.2.2.2.2.1, r.2.2.2.1.2.2.2.2.2.2.2.2.2.1, r.2.2.2.1.2.2.2.2.2.2.2.2.2.2.1, r.2.2.2.2.1.1, r.2.2.2.2.1.2, r.2.2.2.2.2.1.1, r.2.2.2.2.2.1.2, r.2.2.2.2.2.2.1.1, r.2.2.2.2.2.2.1.2, r.2.2.2.2.2.2.2.1.1, r.2.2.2.2.2.2.2.1.2), (r.1.2.2.2.2.2.1, r.2.2.2.1.2.2.2.2.2.2.2.2.2.2.2.1, r.2.2.2.2.2.2.2.2.1.1, r.2.2.2.2.2.2.2.2.1.2.1, r.2.2.2.2.2.2.2.2.1.2.2))
def back_a26_0 (c : Int × Int × Int × Int × Int × Int × Int × Int × Int × Int × Int × (Sl S_impl_Entry) × Int × Int × (Sl Int) × (Sl Int) × (Sl Int) × Int × Int × Int × Int × Int × Nat × Int × Int × Nat × Nat × Nat × Nat × (Nat → S_impl_Entry) × Nat × (Nat → Int) × Nat × (Nat → Int) × Nat × (Nat → Int)) (w : Int × Nat × Nat × Nat × (Nat → S_impl_Mail)) : St RT den := ⟨[.q, (.ref 1 0), (.ref 0 0), .q, (.ref 2 0), (.int .i64 w.1), .q, .q, .q, .q, .q, .q, .q, .q, .q, .q, .q, .q, .q, .q, .q, .q, .q, .q, .q, .q, .q, .q, .q, .q, .q, .q, .q, .q, .q, .q], [(.box false [(.int .i64 c.1), (.int .i64 c.2.1), (.int .i64 c.2.2.1), (.int .i64 c.2.2.2.1), (.int .i64 c.2.2.2.2.1), (.emp true .impl_Entry), (.int .i64 c.2.2.2.2.2.1), (.int .i64 c.2.2.2.2.2.2.1), (.emp true .i64), (.emp true .i64), (.emp true .i64), (.emp true .impl_Mail)]), (.box false [(.int .i64 c.2.2.2.2.2.2.2.1), (.int .i64 c.2.2.2.2.2.2.2.2.1), (.int .i64 c.2.2.2.2.2.2.2.2.2.1), (.int .i64 c.2.2.2.2.2.2.2.2.2.2.1), (.rs c.2.2.2.2.2.2.2.2.2.2.2.1.z .impl_Entry c.2.2.2.2.2.2.2.2.2.2.2.1.n c.2.2.2.2.2.2.2.2.2.2.2.1.f), (.int .i64 c.2.2.2.2.2.2.2.2.2.2.2.2.1), (.int .i64 c.2.2.2.2.2.2.2.2.2.2.2.2.2.1), (.rs c.2.2.2.2.2.2.2.2.2.2.2.2.2.2.1.z .i64 c.2.2.2.2.2.2.2.2.2.2.2.2.2.2.1.n c.2.2.2.2.2.2.2.2.2.2.2.2.2.2.1.f), (.rs c.2.2.2.2.2.2.2.2.2.2.2.2.2.2.2.1.z .i64 c.2.2.2.2.2.2.2.2.2.2.2.2.2.2.2.1.n c.2.2.2.2.2.2.2.2.2.2.2.2.2.2.2.1.f), (.rs c.2.2.2.2.2.2.2.2.2.2.2.2.2.2.2.2.1.z .i64 c.2.2.2.2.2.2.2.2.2.2.2.2.2.2.2.2.1.n c.2.2.2.2.2.2.2.2.2.2.2.2.2.2.2.2.1.f)]), (.box false [(.int .i64 c.2.2.2.2.2.2.2.2.2.2.2.2.2.2.2.2.2.1), (.int .i64 c.2.2.2.2.2.2.2.2.2.2.2.2.2.2.2.2.2.2.1), (.int .i64 c.2.2.2.2.2.2.2.2.2.2.2.2.2.2.2.2.2.2.2.1), (.int .i64 c.2.2.2.2.2.2.2.2.2.2.2.2.2.2.2.2.2.2.2.2.1), (.int .i64 c.2.2.2.2.2.2.2.2.2.2.2.2.2.2.2.2.2.2.2.2.2.1), (.os 3 c.2.2.2.2.2.2.2.2.2.2.2.2.2.2.2.2.2.2.2.2.2.2.1), (.int .i64 c.2.2.2.2.2.2.2.2.2.2.2.2.2.2.2.2.2.2.2.2.2.2.2.1), (.int .i64 c.2.2.2.2.2.2.2.2.2.2.2.2.2.2.2.2.2.2.2.2.2.2.2.2.1), (.os 4 c.2.2.2.2.2.2.2.2.2.2.2.2.2.2.2.2.2.2.2.2.2.2.2.2.2.1), (.os 5 c.2.2.2.2.2.2.2.2.2.2.2.2.2.2.2.2.2.2.2.2.2.2.2.2.2.2.1), (.os 6 c.2.2.2.2.2.2.2.2.2.2.2.2.2.2.2.2.2.2.2.2.2.2.2.2.2.2.2.1), (.os 7 w.2.1)]), (.row false .impl_Entry c.2.2.2.2.2.2.2.2.2.2.2.2.2.2.2.2.2.2.2.2.2.2.2.2.2.2.2.2.1 c.2.2.2.2.2.2.2.2.2.2.2.2.2.2.2.2.2.2.2.2.2.2.2.2.2.2.2.2.2.1), (.row false .i64 c.2.2.2.2.2.2.2.2.2.2.2.2.2.2.2.2.2.2.2.2.2.2.2.2.2.2.2.2.2.2.1 c.2.2.2.2.2.2.2.2.2.2.2.2.2.2.2.2.2.2.2.2.2.2.2.2.2.2.2.2.2.2.2.1), (.row false .i64 c.2.2.2.2.2.2.2.2.2.2.2.2.2.2.2.2.2.2.2.2.2.2.2.2.2.2.2.2.2.2.2.2.1 c.2.2.2.2.2.2.2.2.2.2.2.2.2.2.2.2.2.2.2.2.2.2.2.2.2.2.2.2.2.2.2.2.2.1), (.row false .i64 c.2.2.2.2.2.2.2.2.2.2.2.2.2.2.2.2.2.2.2.2.2.2.2.2.2.2.2.2.2.2.2.2.2.2.1 c.2.2.2.2.2.2.2.2.2.2.2.2.2.2.2.2.2.2.2.2.2.2.2.2.2.2.2.2.2.2.2.2.2.2.2), (.deep false .impl_Mail w.2.2.1 w.2.2.2.1 w.2.2.2.2)]⟩
def Bk_a26_0 {ρ : Type} (fu : Nat) (c : Int × Int × Int × Int × Int × Int × Int × Int × Int × Int × Int × (Sl S_impl_Entry) × Int × Int × (Sl Int) × (Sl Int) × (Sl Int) × Int × Int × Int × Int × Int × Nat × Int × Int × Nat × Nat × Nat × Nat × (Nat → S_impl_Entry) × Nat × (Nat → Int) × Nat × (Nat → Int) × Nat × (Nat → Int)) (k : Ex → St RT den → Option ρ) (w : Int × Nat × Nat × Nat × (Nat → S_impl_Mail)) (go : (Int × Nat × Nat × Nat × (Nat → S_impl_Mail)) → Option ρ) : Option ρ := F_spec_SpreadNode_U_B0 fu c.1 c.2.1 c.2.2.1 c.2.2.2.1 c.2.2.2.2.1 c.2.2.2.2.2.1 c.2.2.2.2.2.2.1 c.2.2.2.2.2.2.2.1 c.2.2.2.2.2.2.2.2.1 c.2.2.2.2.2.2.2.2.2.1 c.2.2.2.2.2.2.2.2.2.2.1 c.2.2.2.2.2.2.2.2.2.2.2.1 c.2.2.2.2.2.2.2.2.2.2.2.2.1 c.2.2.2.2.2.2.2.2.2.2.2.2.2.1 c.2.2.2.2.2.2.2.2.2.2.2.2.2.2.1 c.2.2.2.2.2.2.2.2.2.2.2.2.2.2.2.1 c.2.2.2.2.2.2.2.2.2.2.2.2.2.2.2.2.1 c.2.2.2.2.2.2.2.2.2.2.2.2.2.2.2.2.2.1 c.2.2.2.2.2.2.2.2.2.2.2.2.2.2.2.2.2.2.1 c.2.2.2.2.2.2.2.2.2.2.2.2.2.2.2.2.2.2.2.1 c.2.2.2.2.2.2.2.2.2.2.2.2.2.2.2.2.2.2.2.2.1 c.2.2.2.2.2.2.2.2.2.2.2.2.2.2.2.2.2.2.2.2.2.1 c.2.2.2.2.2.2.2.2.2.2.2.2.2.2.2.2.2.2.2.2.2.2.1 c.2.2.2.2.2.2.2.2.2.2.2.2.2.2.2.2.2.2.2.2.2.2.2.1 c.2.2.2.2.2.2.2.2.2.2.2.2.2.2.2.2.2.2.2.2.2.2.2.2.1 c.2.2.2.2.2.2.2.2.2.2.2.2.2.2.2.2.2.2.2.2.2.2.2.2.2.1 c.2.2.2.2.2.2.2.2.2.2.2.2.2.2.2.2.2.2.2.2.2.2.2.2.2.2.1 c.2.2.2.2.2.2.2.2.2.2.2.2.2.2.2.2.2.2.2.2.2.2.2.2.2.2.2.1 c.2.2.2.2.2.2.2.2.2.2.2.2.2.2.2.2.2.2.2.2.2.2.2.2.2.2.2.2.1 c.2.2.2.2.2.2.2.2.2.2.2.2.2.2.2.2.2.2.2.2.2.2.2.2.2.2.2.2.2.1 c.2.2.2.2.2.2.2.2.2.2.2.2.2.2.2.2.2.2.2.2.2.2.2.2.2.2.2.2.2.2.1 c.2.2.2.2.2.2.2.2.2.2.2.2.2.2.2.2.2.2.2.2.2.2.2.2.2.2.2.2.2.2.2.1 c.2.2.2.2.2.2.2.2.2.2.2.2.2.2.2.2.2.2.2.2.2.2.2.2.2.2.2.2.2.2.2.2.1 c.2.2.2.2.2.2.2.2.2.2.2.2.2.2.2.2.2.2.2.2.2.2.2.2.2.2.2.2.2.2.2.2.2.1 c.2.2.2.2.2.2.2.2.2.2.2.2.2.2.2.2.2.2.2.2.2.2.2.2.2.2.2.2.2.2.2.2.2.2.1 c.2.2.2.2.2.2.2.2.2.2.2.2.2.2.2.2.2.2.2.2.2.2.2.2.2.2.2.2.2.2.2.2.2.2.2 (fun a0 a1 a2 a3 => k (.exit 0) ⟨[.q, .q, (.ref 0 0), .q, (.ref 2 0), .q, .q, .q, .q, .q, .q, .q, .q, .q, .q, .q, .q, .q, .q, .q, .q, .q, .q, .q, .q, .q, .q, .q, .q, .q, .q, .q, .q, .q, .q, .q], [(.box false [(.int .i64 c.1), (.int .i64 c.2.1), (.int .i64 c.2.2.1), (.int .i64 c.2.2.2.1), (.int .i64 c.2.2.2.2.1), (.emp true .impl_Entry), (.int .i64 c.2.2.2.2.2.1), (.int .i64 c.2.2.2.2.2.2.1), (.emp true .i64), (.emp true .i64), (.emp true .i64), (.emp true .impl_Mail)]), (.box false [(.int .i64 c.2.2.2.2.2.2.2.1), (.int .i64 c.2.2.2.2.2.2.2.2.1), (.int .i64 c.2.2.2.2.2.2.2.2.2.1), (.int .i64 c.2.2.2.2.2.2.2.2.2.2.1), (.rs c.2.2.2.2.2.2.2.2.2.2.2.1.z .impl_Entry c.2.2.2.2.2.2.2.2.2.2.2.1.n c.2.2.2.2.2.2.2.2.2.2.2.1.f), (.int .i64 c.2.2.2.2.2.2.2.2.2.2.2.2.1), (.int .i64 c.2.2.2.2.2.2.2.2.2.2.2.2.2.1), (.rs c.2.2.2.2.2.2.2.2.2.2.2.2.2.2.1.z .i64 c.2.2.2.2.2.2.2.2.2.2.2.2.2.2.1.n c.2.2.2.2.2.2.2.2.2.2.2.2.2.2.1.f), (.rs c.2.2.2.2.2.2.2.2.2.2.2.2.2.2.2.1.z .i64 c.2.2.2.2.2.2.2.2.2.2.2.2.2.2.2.1.n c.2.2.2.2.2.2.2.2.2.2.2.2.2.2.2.1.f), (.rs c.2.2.2.2.2.2.2.2.2.2.2.2.2.2.2.2.1.z .i64 c.2.2.2.2.2.2.2.2.2.2.2.2.2.2.2.2.1.n c.2.2.2.2.2.2.2.2.2.2.2.2.2.2.2.2.1.f)]), (.box false [(.int .i64 c.2.2.2.2.2.2.2.2.2.2.2.2.2.2.2.2.2.1), (.int .i64 c.2.2.2.2.2.2.2.2.2.2.2.2.2.2.2.2.2.2.1), (.int .i64 c.2.2.2.2.2.2.2.2.2.2.2.2.2.2.2.2.2.2.2.1), (.int .i64 c.2.2.2.2.2.2.2.2.2.2.2.2.2.2.2.2.2.2.2.2.1), (.int .i64 c.2.2.2.2.2.2.2.2.2.2.2.2.2.2.2.2.2.2.2.2.2.1), (.os 3 c.2.2.2.2.2.2.2.2.2.2.2.2.2.2.2.2.2.2.2.2.2.2.1), (.int .i64 c.2.2.2.2.2.2.2.2.2.2.2.2.2.2.2.2.2.2.2.2.2.2.2.1), (.int .i64 c.2.2.2.2.2.2.2.2.2.2.2.2.2.2.2.2.2.2.2.2.2.2.2.2.1), (.os 4 c.2.2.2.2.2.2.2.2.2.2.2.2.2.2.2.2.2.2.2.2.2.2.2.2.2.1), (.os 5 c.2.2.2.2.2.2.2.2.2.2.2.2.2.2.2.2.2.2.2.2.2.2.2.2.2.2.1), (.os 6 c.2.2.2.2.2.2.2.2.2.2.2.2.2.2.2.2.2.2.2.2.2.2.2.2.2.2.2.1), (.os 7 a0)]), (.row false .impl_Entry c.2.2.2.2.2.2.2.2.2.2.2.2.2.2.2.2.2.2.2.2.2.2.2.2.2.2.2.2.1 c.2.2.2.2.2.2.2.2.2.2.2.2.2.2.2.2.2.2.2.2.2.2.2.2.2.2.2.2.2.1), (.row false .i64 c.2.2.2.2.2.2.2.2.2.2.2.2.2.2.2.2.2.2.2.2.2.2.2.2.2.2.2.2.2.2.1 c.2.2.2.2.2.2.2.2.2.2.2.2.2.2.2.2.2.2.2.2.2.2.2.2.2.2.2.2.2.2.2.1), (.row false .i64 c.2.2.2.2.2.2.2.2.2.2.2.2.2.2.2.2.2.2.2.2.2.2.2.2.2.2.2.2.2.2.2.2.1 c.2.2.2.2.2.2.2.2.2.2.2.2.2.2.2.2.2.2.2.2.2.2.2.2.2.2.2.2.2.2.2.2.2.1), (.row false .i64 c.2.2.2.2.2.2.2.2.2.2.2.2.2.2.2.2.2.2.2.2.2.2.2.2.2.2.2.2.2.2.2.2.2.2.1 c.2.2.2.2.2.2.2.2.2.2.2.2.2.2.2.2.2.2.2.2.2.2.2.2.2.2.2.2.2.2.2.2.2.2.2), (.deep false .impl_Mail a1 a2 a3)]⟩) w.1 w.2.1 w.2.2.1 w.2.2.2.1 w.2.2.2.2 (fun q0 q1 q2 q3 q4 => go (q0, q1, q2, q3, q4))
def lp_a26 (fu : Nat) : Lp RT den (Int × Int × Int × Int × Int × Nat × Int × Int × Nat × Nat × Nat × Nat × Nat × (Nat → S_impl_Entry) × Nat × (Nat → Int) × Nat × (Nat → Int) × Nat × (Nat → Int) × Nat × (Nat → S_impl_Mail)) := ⟨fun b s k => match b with | 0 => handle ps_a26_0 os_a26_0 conv_a26_0 (Bk_a26_0 fu) fu s k | _ => none, inl0⟩
def pso_a26 : List (Pat RT) := [.agg [(.int .i64), (.int .i64), (.int .i64), (.int .i64), (.int .i64), (.os 0), (.int .i64), (.int .i64), (.os 1), (.os 2), (.os 3), (.os 4)]]
def oso_a26 : List (OP RT) := [.row false .impl_Entry, .row false .i64, .row false .i64, .row false .i64, .deep false .impl_Mail]
def conv_a26 (r : Raw den pso_a26 oso_a26) : Int × Int × Int × Int × Int × Nat × Int × Int × Nat × Nat × Nat × Nat × Nat × (Nat → S_impl_Entry) × Nat × (Nat → Int) × Nat × (Nat → Int) × Nat × (Nat → Int) × Nat × (Nat → S_impl_Mail) := (r.1.1.1, r.1.1.2.1, r.1.1.2.2.1, r.1.1.2.2.2.1, r.1.1.2.2.2.2.1, r.1.1.2.2.2.2.2.1, r.1.1.2.2.2.2.2.2.1, r.1.1.2.2.2.2.2.2.2.1, r.1.1.2.2.2.2.2.2.2.2.1, r.1.1.2.2.2.2.2.2.2.2.2.1, r.1.1.2.2.2.2.2.2.2.2.2.2.1, r.1.1.2.2.2.2.2.2.2.2.2.2.2.1, r.2.1.1, r.2.1.2, r.2.2.1.1, r.2.2.1.2, r.2.2.2.1.1, r.2.2.2.1.2, r.2.2.2.2.1.1, r.2.2.2.2.1.2, r.2.2.2.2.2.1.1, r.2.2.2.2.2.1.2.2)
def enc_a26 (y : Int × Int × Int × Int × Int × Nat × Int × Int × Nat × Nat × Nat × Nat × Nat × (Nat → S_impl_Entry) × Nat × (Nat → Int) × Nat × (Nat → Int) × Nat × (Nat → Int) × Nat × (Nat → S_impl_Mail)) : D RT den × List (Ob RT den) := ((.agg [(.int .i64 y.1), (.int .i64 y.2.1), (.int .i64 y.2.2.1), (.int .i64 y.2.2.2.1), (.int .i64 y.2.2.2.2.1), (.os 0 y.2.2.2.2.2.1), (.int .i64 y.2.2.2.2.2.2.1), (.int .i64 y.2.2.2.2.2.2.2.1), (.os 1 y.2.2.2.2.2.2.2.2.1), (.os 2 y.2.2.2.2.2.2.2.2.2.1), (.os 3 y.2.2.2.2.2.2.2.2.2.2.1), (.os 4 y.2.2.2.2.2.2.2.2.2.2.2.1)]), [(.row false .impl_Entry y.2.2.2.2.2.2.2.2.2.2.2.2.1 y.2.2.2.2.2.2.2.2.2.2.2.2.2.1), (.row false .i64 y.2.2.2.2.2.2.2.2.2.2.2.2.2.2.1 y.2.2.2.2.2.2.2.2.2.2.2.2.2.2.2.1), (.row false .i64 y.2.2.2.2.2.2.2.2.2.2.2.2.2.2.2.2.1 y.2.2.2.2.2.2.2.2.2.2.2.2.2.2.2.2.2.1), (.row false .i64 y.2.2.2.2.2.2.2.2.2.2.2.2.2.2.2.2.2.2.1 y.2.2.2.2.2.2.2.2.2.2.2.2.2.2.2.2.2.2.2.1), (.deep false .impl_Mail y.2.2.2.2.2.2.2.2.2.2.2.2.2.2.2.2.2.2.2.2.1 y.2.2.2.2.2.2.2.2.2.2.2.2.2.2.2.2.2.2.2.2.1 y.2.2.2.2.2.2.2.2.2.2.2.2.2.2.2.2.2.2.2.2.2)])
def chk_a26 (r : Raw den pso_a26 oso_a26) : Bool := (decide (r.2.2.2.2.2.1.2.1 = r.2.2.2.2.2.1.1) && true)
def raw_a26 (r : Raw den pso_a26 oso_a26) : St RT den := ⟨[(.agg [(.int .i64 r.1.1.1), (.int .i64 r.1.1.2.1), (.int .i64 r.1.1.2.2.1), (.int .i64 r.1.1.2.2.2.1), (.int .i64 r.1.1.2.2.2.2.1), (.os 0 r.1.1.2.2.2.2.2.1), (.int .i64 r.1.1.2.2.2.2.2.2.1), (.int .i64 r.1.1.2.2.2.2.2.2.2.1), (.os 1 r.1.1.2.2.2.2.2.2.2.2.1), (.os 2 r.1.1.2.2.2.2.2.2.2.2.2.1), (.os 3 r.1.1.2.2.2.2.2.2.2.2.2.2.1), (.os 4 r.1.1.2.2.2.2.2.2.2.2.2.2.2.1)])], [(.row false .impl_Entry r.2.1.1 r.2.1.2), (.row false .i64 r.2.2.1.1 r.2.2.1.2), (.row false .i64 r.2.2.2.1.1 r.2.2.2.1.2), (.row false .i64 r.2.2.2.2.1.1 r.2.2.2.2.1.2), (.deep false .impl_Mail r.2.2.2.2.2.1.1 r.2.2.2.2.2.1.2.1 r.2.2.2.2.2.1.2.2)]⟩
theorem chkd_a26 (r : Raw den pso_a26 oso_a26) (h : chk_a26 r = true) : raw_a26 r = ⟨[(enc_a26 (conv_a26 r)).1], (enc_a26 (conv_a26 r)).2⟩ := by
  simp only [chk_a26, Bool.and_eq_true, decide_eq_true_eq, and_true] at h
  simp only [raw_a26, enc_a26, conv_a26, h]
def out_a26 (d : D RT den) (os : List (Ob RT den)) : Option (Int × Int × Int × Int × Int × Nat × Int × Int × Nat × Nat × Nat × Nat × Nat × (Nat → S_impl_Entry) × Nat × (Nat → Int) × Nat × (Nat → Int) × Nat × (Nat → Int) × Nat × (Nat → S_impl_Mail)) := (unSt pso_a26 oso_a26 ⟨[d], os⟩).bind fun v => bif chk_a26 v.1 then some (conv_a26 v.1) else none
theorem out_a26_enc (d : D RT den) (os : List (Ob RT den)) (y : Int × Int × Int × Int × Int × Nat × Int × Int × Nat × Nat × Nat × Nat × Nat × (Nat → S_impl_Entry) × Nat × (Nat → Int) × Nat × (Nat → Int) × Nat × (Nat → Int) × Nat × (Nat → S_impl_Mail)) (h : out_a26 d os = some y) : d = (enc_a26 y).1 ∧ os = (enc_a26 y).2 :=
  outU (conv := conv_a26) (enc := enc_a26) (chk := chk_a26) (fun raw h => Eq.trans (by kernel_rfl) (chkd_a26 raw h)) h
theorem ev_a26 (fu : Nat) (n_0 : S_impl_Node) : evFunU E (pc_a26 fu) msk_a26 (lp_a26 fu) out_a26 7 [(.agg [(.int .i64 n_0.Id), (.int .i64 n_0.Peers), (.int .i64 n_0.Term), (.int .i64 n_0.Voted), (.rs n_0.Log.z .impl_Entry n_0.Log.n n_0.Log.f), (.int .i64 n_0.Role), (.int .i64 n_0.Commit), (.rs n_0.Votes.z .i64 n_0.Votes.n n_0.Votes.f), (.rs n_0.Next.z .i64 n_0.Next.n n_0.Next.f), (.rs n_0.Match.z .i64 n_0.Match.n n_0.Match.f)])] [] = F_spec_SpreadNode_U fu n_0 := by kernel_rfl
noncomputable def body_a26 : Code := Try.f7.body.getD .skip
noncomputable def lc_a26_0 : Code := ((loops 0 body_a26).getD 0 (0, .skip)).2
theorem round_a26_0 (fu : Nat) (it : St RT den → Option (Int × Int × Int × Int × Int × Nat × Int × Int × Nat × Nat × Nat × Nat × Nat × (Nat → S_impl_Entry) × Nat × (Nat → Int) × Nat × (Nat → Int) × Nat × (Nat → Int) × Nat × (Nat → S_impl_Mail))) (k : Ex → St RT den → Option (Int × Int × Int × Int × Int × Nat × Int × Int × Nat × Nat × Nat × Nat × Nat × (Nat → S_impl_Entry) × Nat × (Nat → Int) × Nat × (Nat → Int) × Nat × (Nat → Int) × Nat × (Nat → S_impl_Mail))) c w : evCode E (pc_a26 fu) msk_a26 (lp_a26 fu) 0 lc_a26_0 (back_a26_0 c w) (after (msk_a26 0) (msk_a26 100000) 8 it k) = Bk_a26_0 fu c k w (fun w => it (back_a26_0 c w)) := by kernel_rfl
theorem lpok_a26_0 (fu : Nat) : ∀ s k r, (lp_a26 fu).lp 0 s k = some r → ∃ fuel, iter (msk_a26 0) (msk_a26 100000) s.objs.length (evCode E (pc_a26 fu) msk_a26 (lp_a26 fu) 0 lc_a26_0) fuel s k = some r :=
  handle_ok (ps := ps_a26_0) (os := os_a26_0) (conv := conv_a26_0) (B := Bk_a26_0 fu) (fu := fu) back_a26_0 (fun raw => by kernel_rfl) 8 (fun c w => by kernel_rfl) (round_a26_0 fu)
theorem lpok_a26 (fu : Nat) : LpOk E (pc_a26 fu) 0 msk_a26 (lp_a26 fu) (loops 0 body_a26) := lp_nil (loop_all 1 (by kernel_rfl) fun i hi => match i, hi with
  | 0, _ => by
    have h : (loops 0 body_a26).getD 0 (0, .skip) = (0, lc_a26_0) := by kernel_rfl
    rw [h]; exact lpok_a26_0 fu
  | i + 1, hi => absurd hi (by omega)) (by kernel_rfl)
def S_a26 (fu : Nat) (xs : List (D RT den)) (ins : List (Ob RT den)) : Option (OutX RT den) := match xs, ins with | [.agg [.int .i64 a0_1, .int .i64 a0_2, .int .i64 a0_3, .int .i64 a0_4, .rs za0_5 .impl_Entry na0_5 fa0_5, .int .i64 a0_6, .int .i64 a0_7, .rs za0_8 .i64 na0_8 fa0_8, .rs za0_9 .i64 na0_9 fa0_9, .rs za0_10 .i64 na0_10 fa0_10]], [] => some ⟨Int × Int × Int × Int × Int × Nat × Int × Int × Nat × Nat × Nat × Nat × Nat × (Nat → S_impl_Entry) × Nat × (Nat → Int) × Nat × (Nat → Int) × Nat × (Nat → Int) × Nat × (Nat → S_impl_Mail), F_spec_SpreadNode_U fu (⟨a0_1, a0_2, a0_3, a0_4, (⟨za0_5, na0_5, fa0_5⟩ : (Sl S_impl_Entry)), a0_6, a0_7, (⟨za0_8, na0_8, fa0_8⟩ : (Sl Int)), (⟨za0_9, na0_9, fa0_9⟩ : (Sl Int)), (⟨za0_10, na0_10, fa0_10⟩ : (Sl Int))⟩ : S_impl_Node), enc_a26⟩ | _, _ => none
theorem hpc_a26 (fu : Nat) : ∀ f xs o, pcf_a26 fu f xs = some o → ∀ y, o.x = some y → Good E Try.prog f xs (o.g y) := by
  intro f xs o h
  unfold pcf_a26 at h
  split at h
  · exact good_a20 fu xs o h
  · cases h
theorem hpx_a26 (fu : Nat) : ∀ f xs ins o, pcx_a26 fu f xs ins = some o → ∀ y, o.x = some y → GoodXD E Try.prog (pcd_a26 f) f xs ins (o.g y).1 (o.g y).2 := by
  intro f xs ins o h
  unfold pcx_a26 at h
  split at h
  · exact good_a21 fu xs ins o h
  · exact good_a23 fu xs ins o h
  · exact good_a25 fu xs ins o h
  · cases h
theorem goodv_a26 (fu : Nat) (n_0 : S_impl_Node) (y : Int × Int × Int × Int × Int × Nat × Int × Int × Nat × Nat × Nat × Nat × Nat × (Nat → S_impl_Entry) × Nat × (Nat → Int) × Nat × (Nat → Int) × Nat × (Nat → Int) × Nat × (Nat → S_impl_Mail)) (hy : F_spec_SpreadNode_U fu n_0 = some y) : GoodD E Try.prog 7 [(.agg [(.int .i64 n_0.Id), (.int .i64 n_0.Peers), (.int .i64 n_0.Term), (.int .i64 n_0.Voted), (.rs n_0.Log.z .impl_Entry n_0.Log.n n_0.Log.f), (.int .i64 n_0.Role), (.int .i64 n_0.Commit), (.rs n_0.Votes.z .i64 n_0.Votes.n n_0.Votes.f), (.rs n_0.Next.z .i64 n_0.Next.n n_0.Next.f), (.rs n_0.Match.z .i64 n_0.Match.n n_0.Match.f)])] [] (enc_a26 y).1 (enc_a26 y).2 :=
  funU_good E_ok (pc_good (pc := pc_a26 fu) (hpc_a26 fu) (hpx_a26 fu)) (fn := Try.f7) (c := body_a26) (out := out_a26) (y := y) (by kernel_rfl) (by kernel_rfl) (by kernel_rfl) (lpok_a26 fu) (by kernel_rfl) (Nat.le_of_ble_eq_true (by kernel_rfl)) (Fulls.get 0 (And.intro (Nat.le_refl _) trivial)) (fun d os hd => out_a26_enc d os _ hd) ((ev_a26 fu n_0).trans hy)
theorem good_a26 (fu : Nat) : ∀ xs ins o, S_a26 fu xs ins = some o → ∀ y, o.x = some y → GoodD E Try.prog 7 xs ins (o.g y).1 (o.g y).2 := by
  intro xs ins o h y hy
  unfold S_a26 at h
  split at h
  · rename_i a0_1 a0_2 a0_3 a0_4 za0_5 na0_5 fa0_5 a0_6 a0_7 za0_8 na0_8 fa0_8 za0_9 na0_9 fa0_9 za0_10 na0_10 fa0_10
    cases h
    exact goodv_a26 fu (⟨a0_1, a0_2, a0_3, a0_4, (⟨za0_5, na0_5, fa0_5⟩ : (Sl S_impl_Entry)), a0_6, a0_7, (⟨za0_8, na0_8, fa0_8⟩ : (Sl Int)), (⟨za0_9, na0_9, fa0_9⟩ : (Sl Int)), (⟨za0_10, na0_10, fa0_10⟩ : (Sl Int))⟩ : S_impl_Node) y hy
  · cases h

/-! slices.Clone[[]impl.Entry,impl.Entry] -/
def F_slices_Clone_impl_Entry_impl_Entry_H_raw (fu : Nat) (s_0 : (Sl S_impl_Entry)) : Option ((Sl S_impl_Entry)) :=
  ((s_0.z).bind fun b124 => (bif b124 then (some (⟨(some true), 0, (fun _ => dflt .impl_Entry)⟩ : (Sl S_impl_Entry))) else (bif (decide (s_0.n ≤ 9223372036854775807) && decide (s_0.n * 72 ≤ 140737488355328)) then
    (some (⟨none, s_0.n, s_0.f⟩ : (Sl S_impl_Entry))) else none)))
def pc_a27r (fu : Nat) : Pc RT den := ⟨pcf0, fun _ => false, fun _ => false, pcd0, pcd0, pcx0⟩
def msk_a27r (b : Nat) : List Nat := []
def lp_a27r (fu : Nat) : Lp RT den ((Sl S_impl_Entry)) := ⟨fun b s k => none, inl0⟩
theorem ev_a27r (fu : Nat) (s_0 : (Sl S_impl_Entry)) : evFunX E false (pc_a27r fu) msk_a27r (lp_a27r fu) out_sl_impl_Entry_H 36 [(.rs s_0.z .impl_Entry s_0.n s_0.f)] [] = F_slices_Clone_impl_Entry_impl_Entry_H_raw fu s_0 := by kernel_rfl
noncomputable def body_a27r : Code := Try.f36.body.getD .skip
theorem lpok_a27r (fu : Nat) : LpOk E (pc_a27r fu) 0 msk_a27r (lp_a27r fu) (loops 0 body_a27r) := lp_nil (loop_nil (by kernel_rfl)) (by kernel_rfl)
def S_a27r (fu : Nat) (xs : List (D RT den)) (ins : List (Ob RT den)) : Option (OutX RT den) := match xs, ins with | [.rs za0_0 .impl_Entry na0_0 fa0_0], [] => some ⟨(Sl S_impl_Entry), F_slices_Clone_impl_Entry_impl_Entry_H_raw fu (⟨za0_0, na0_0, fa0_0⟩ : (Sl S_impl_Entry)), enc_sl_impl_Entry_H⟩ | _, _ => none
theorem goodv_a27r (fu : Nat) (s_0 : (Sl S_impl_Entry)) (y : (Sl S_impl_Entry)) (hy : F_slices_Clone_impl_Entry_impl_Entry_H_raw fu s_0 = some y) : GoodX E Try.prog 36 [(.rs s_0.z .impl_Entry s_0.n s_0.f)] [] (enc_sl_impl_Entry_H y).1 (enc_sl_impl_Entry_H y).2 :=
  funX_good (ke := false) E_ok (pc_good (pc := pc_a27r fu) hpc0 hpx0) (fn := Try.f36) (c := body_a27r) (out := out_sl_impl_Entry_H) (y := y) (by kernel_rfl) (by kernel_rfl) (by kernel_rfl) (lpok_a27r fu) (by kernel_rfl) (Nat.zero_le _) (fun d os hd => out_sl_impl_Entry_H_enc d os _ hd) ((ev_a27r fu s_0).trans hy)
def F_slices_Clone_impl_Entry_impl_Entry_H (fu : Nat) (s_0 : (Sl S_impl_Entry)) : Option ((Sl S_impl_Entry)) := bif decide (s_0.n ≤ 9223372036854775807) && decide (s_0.n * 72 ≤ 140737488355328) then some ⟨none, s_0.n, s_0.f⟩ else none
def S_a27 (fu : Nat) (xs : List (D RT den)) (ins : List (Ob RT den)) : Option (OutX RT den) := match xs, ins with | [.rs za0_0 .impl_Entry na0_0 fa0_0], [] => some ⟨(Sl S_impl_Entry), F_slices_Clone_impl_Entry_impl_Entry_H fu (⟨za0_0, na0_0, fa0_0⟩ : (Sl S_impl_Entry)), enc_sl_impl_Entry_H⟩ | _, _ => none
theorem good_a27 (fu : Nat) : ∀ xs ins o, S_a27 fu xs ins = some o → ∀ y, o.x = some y → GoodX E Try.prog 36 xs ins (o.g y).1 (o.g y).2 := by
  intro xs ins o h y hy
  unfold S_a27 at h
  split at h
  · rename_i za0_0 na0_0 fa0_0
    cases h
    have hy : F_slices_Clone_impl_Entry_impl_Entry_H fu ⟨za0_0, na0_0, fa0_0⟩ = some y := hy
    unfold F_slices_Clone_impl_Entry_impl_Entry_H at hy
    dsimp only at hy
    cases hc : (decide (na0_0 ≤ 9223372036854775807) && decide (na0_0 * 72 ≤ 140737488355328)) with
    | false => rw [hc] at hy; cases hy
    | true =>
      rw [hc] at hy
      have hy := Option.some.inj hy; subst hy
      refine GoodX.clone (d0 := fun _ => dflt .impl_Entry) (goodv_a27r fu ⟨some true, na0_0, fa0_0⟩ ⟨some true, 0, fun _ => dflt .impl_Entry⟩ rfl) (goodv_a27r fu ⟨some false, na0_0, fa0_0⟩ ⟨none, na0_0, fa0_0⟩ ?_) _
      unfold F_slices_Clone_impl_Entry_impl_Entry_H_raw
      simp only [Option.bind_some, cond_false, hc, cond_true]
  · cases h

/-! slices.Clone[[]int64,int64] -/
def F_slices_Clone_int64_int64_H_raw (fu : Nat) (s_0 : (Sl Int)) : Option ((Sl Int)) :=
  ((s_0.z).bind fun b127 => (bif b127 then (some (⟨(some true), 0, (fun _ => dflt .i64)⟩ : (Sl Int))) else (bif (decide (s_0.n ≤ 9223372036854775807) && decide (s_0.n * 8 ≤ 140737488355328)) then
    (some (⟨none, s_0.n, s_0.f⟩ : (Sl Int))) else none)))
def pc_a28r (fu : Nat) : Pc RT den := ⟨pcf0, fun _ => false, fun _ => false, pcd0, pcd0, pcx0⟩
def msk_a28r (b : Nat) : List Nat := []
def lp_a28r (fu : Nat) : Lp RT den ((Sl Int)) := ⟨fun b s k => none, inl0⟩
theorem ev_a28r (fu : Nat) (s_0 : (Sl Int)) : evFunX E false (pc_a28r fu) msk_a28r (lp_a28r fu) out_sl_i64_H 76 [(.rs s_0.z .i64 s_0.n s_0.f)] [] = F_slices_Clone_int64_int64_H_raw fu s_0 := by kernel_rfl
noncomputable def body_a28r : Code := Try.f76.body.getD .skip
theorem lpok_a28r (fu : Nat) : LpOk E (pc_a28r fu) 0 msk_a28r (lp_a28r fu) (loops 0 body_a28r) := lp_nil (loop_nil (by kernel_rfl)) (by kernel_rfl)
def S_a28r (fu : Nat) (xs : List (D RT den)) (ins : List (Ob RT den)) : Option (OutX RT den) := match xs, ins with | [.rs za0_0 .i64 na0_0 fa0_0], [] => some ⟨(Sl Int), F_slices_Clone_int64_int64_H_raw fu (⟨za0_0, na0_0, fa0_0⟩ : (Sl Int)), enc_sl_i64_H⟩ | _, _ => none
theorem goodv_a28r (fu : Nat) (s_0 : (Sl Int)) (y : (Sl Int)) (hy : F_slices_Clone_int64_int64_H_raw fu s_0 = some y) : GoodX E Try.prog 76 [(.rs s_0.z .i64 s_0.n s_0.f)] [] (enc_sl_i64_H y).1 (enc_sl_i64_H y).2 :=
  funX_good (ke := false) E_ok (pc_good (pc := pc_a28r fu) hpc0 hpx0) (fn := Try.f76) (c := body_a28r) (out := out_sl_i64_H) (y := y) (by kernel_rfl) (by kernel_rfl) (by kernel_rfl) (lpok_a28r fu) (by kernel_rfl) (Nat.zero_le _) (fun d os hd => out_sl_i64_H_enc d os _ hd) ((ev_a28r fu s_0).trans hy)
def F_slices_Clone_int64_int64_H (fu : Nat) (s_0 : (Sl Int)) : Option ((Sl Int)) := bif decide (s_0.n ≤ 9223372036854775807) && decide (s_0.n * 8 ≤ 140737488355328) then some ⟨none, s_0.n, s_0.f⟩ else none
def S_a28 (fu : Nat) (xs : List (D RT den)) (ins : List (Ob RT den)) : Option (OutX RT den) := match xs, ins with | [.rs za0_0 .i64 na0_0 fa0_0], [] => some ⟨(Sl Int), F_slices_Clone_int64_int64_H fu (⟨za0_0, na0_0, fa0_0⟩ : (Sl Int)), enc_sl_i64_H⟩ | _, _ => none
theorem good_a28 (fu : Nat) : ∀ xs ins o, S_a28 fu xs ins = some o → ∀ y, o.x = some y → GoodX E Try.prog 76 xs ins (o.g y).1 (o.g y).2 := by
  intro xs ins o h y hy
  unfold S_a28 at h
  split at h
  · rename_i za0_0 na0_0 fa0_0
    cases h
    have hy : F_slices_Clone_int64_int64_H fu ⟨za0_0, na0_0, fa0_0⟩ = some y := hy
    unfold F_slices_Clone_int64_int64_H at hy
    dsimp only at hy
    cases hc : (decide (na0_0 ≤ 9223372036854775807) && decide (na0_0 * 8 ≤ 140737488355328)) with
    | false => rw [hc] at hy; cases hy
    | true =>
      rw [hc] at hy
      have hy := Option.some.inj hy; subst hy
      refine GoodX.clone (d0 := fun _ => dflt .i64) (goodv_a28r fu ⟨some true, na0_0, fa0_0⟩ ⟨some true, 0, fun _ => dflt .i64⟩ rfl) (goodv_a28r fu ⟨some false, na0_0, fa0_0⟩ ⟨none, na0_0, fa0_0⟩ ?_) _
      unfold F_slices_Clone_int64_int64_H_raw
      simp only [Option.bind_some, cond_false, hc, cond_true]
  · cases h

/-! (impl.Node).copied -/
def F_impl_Node_copied_H (fu : Nat) (n_0 : S_impl_Node) : Option (S_impl_Node) :=
  ((F_slices_Clone_impl_Entry_impl_Entry_H fu n_0.Log).bind fun y131 => ((F_slices_Clone_int64_int64_H fu n_0.Votes).bind fun y132 => ((F_slices_Clone_int64_int64_H fu n_0.Next).bind fun y133 =>
    ((F_slices_Clone_int64_int64_H fu n_0.Match).bind fun y134 => (some (⟨n_0.Id, n_0.Peers, n_0.Term, n_0.Voted, (⟨none, y131.n, y131.f⟩ : (Sl S_impl_Entry)), n_0.Role, n_0.Commit,
    (⟨none, y132.n, y132.f⟩ : (Sl Int)), (⟨none, y133.n, y133.f⟩ : (Sl Int)), (⟨none, y134.n, y134.f⟩ : (Sl Int))⟩ : S_impl_Node))))))
def pcx_a29 (fu : Nat) (f : Nat) (xs : List (D RT den)) (ins : List (Ob RT den)) : Option (OutX RT den) := match f with | 36 => S_a27 fu xs ins | 76 => S_a28 fu xs ins | _ => none
def pcd_a29 : Nat → Bool := fun _ => false
def pc_a29 (fu : Nat) : Pc RT den := ⟨pcf0, fun f => match f with | 36 => true | 76 => true | _ => false, fun _ => false, pcd_a29, pcd0, pcx_a29 fu⟩
def msk_a29 (b : Nat) : List Nat := []
def lp_a29 (fu : Nat) : Lp RT den (S_impl_Node) := ⟨fun b s k => none, inl0⟩
theorem ev_a29 (fu : Nat) (n_0 : S_impl_Node) : evFunX E false (pc_a29 fu) msk_a29 (lp_a29 fu) out_impl_Node_H 32 [(.agg [(.int .i64 n_0.Id), (.int .i64 n_0.Peers), (.int .i64 n_0.Term), (.int .i64 n_0.Voted), (.rs n_0.Log.z .impl_Entry n_0.Log.n n_0.Log.f), (.int .i64 n_0.Role), (.int .i64 n_0.Commit), (.rs n_0.Votes.z .i64 n_0.Votes.n n_0.Votes.f), (.rs n_0.Next.z .i64 n_0.Next.n n_0.Next.f), (.rs n_0.Match.z .i64 n_0.Match.n n_0.Match.f)])] [] = F_impl_Node_copied_H fu n_0 := by kernel_rfl
noncomputable def body_a29 : Code := Try.f32.body.getD .skip
theorem lpok_a29 (fu : Nat) : LpOk E (pc_a29 fu) 0 msk_a29 (lp_a29 fu) (loops 0 body_a29) := lp_nil (loop_nil (by kernel_rfl)) (by kernel_rfl)
def S_a29 (fu : Nat) (xs : List (D RT den)) (ins : List (Ob RT den)) : Option (OutX RT den) := match xs, ins with | [.agg [.int .i64 a0_1, .int .i64 a0_2, .int .i64 a0_3, .int .i64 a0_4, .rs za0_5 .impl_Entry na0_5 fa0_5, .int .i64 a0_6, .int .i64 a0_7, .rs za0_8 .i64 na0_8 fa0_8, .rs za0_9 .i64 na0_9 fa0_9, .rs za0_10 .i64 na0_10 fa0_10]], [] => some ⟨S_impl_Node, F_impl_Node_copied_H fu (⟨a0_1, a0_2, a0_3, a0_4, (⟨za0_5, na0_5, fa0_5⟩ : (Sl S_impl_Entry)), a0_6, a0_7, (⟨za0_8, na0_8, fa0_8⟩ : (Sl Int)), (⟨za0_9, na0_9, fa0_9⟩ : (Sl Int)), (⟨za0_10, na0_10, fa0_10⟩ : (Sl Int))⟩ : S_impl_Node), enc_impl_Node_H⟩ | _, _ => none
theorem hpx_a29 (fu : Nat) : ∀ f xs ins o, pcx_a29 fu f xs ins = some o → ∀ y, o.x = some y → GoodXD E Try.prog (pcd_a29 f) f xs ins (o.g y).1 (o.g y).2 := by
  intro f xs ins o h
  unfold pcx_a29 at h
  split at h
  · exact good_a27 fu xs ins o h
  · exact good_a28 fu xs ins o h
  · cases h
theorem goodv_a29 (fu : Nat) (n_0 : S_impl_Node) (y : S_impl_Node) (hy : F_impl_Node_copied_H fu n_0 = some y) : GoodX E Try.prog 32 [(.agg [(.int .i64 n_0.Id), (.int .i64 n_0.Peers), (.int .i64 n_0.Term), (.int .i64 n_0.Voted), (.rs n_0.Log.z .impl_Entry n_0.Log.n n_0.Log.f), (.int .i64 n_0.Role), (.int .i64 n_0.Commit), (.rs n_0.Votes.z .i64 n_0.Votes.n n_0.Votes.f), (.rs n_0.Next.z .i64 n_0.Next.n n_0.Next.f), (.rs n_0.Match.z .i64 n_0.Match.n n_0.Match.f)])] [] (enc_impl_Node_H y).1 (enc_impl_Node_H y).2 :=
  funX_good (ke := false) E_ok (pc_good (pc := pc_a29 fu) hpc0 (hpx_a29 fu)) (fn := Try.f32) (c := body_a29) (out := out_impl_Node_H) (y := y) (by kernel_rfl) (by kernel_rfl) (by kernel_rfl) (lpok_a29 fu) (by kernel_rfl) (Nat.zero_le _) (fun d os hd => out_impl_Node_H_enc d os _ hd) ((ev_a29 fu n_0).trans hy)
theorem good_a29 (fu : Nat) : ∀ xs ins o, S_a29 fu xs ins = some o → ∀ y, o.x = some y → GoodX E Try.prog 32 xs ins (o.g y).1 (o.g y).2 := by
  intro xs ins o h y hy
  unfold S_a29 at h
  split at h
  · rename_i a0_1 a0_2 a0_3 a0_4 za0_5 na0_5 fa0_5 a0_6 a0_7 za0_8 na0_8 fa0_8 za0_9 na0_9 fa0_9 za0_10 na0_10 fa0_10
    cases h
    exact goodv_a29 fu (⟨a0_1, a0_2, a0_3, a0_4, (⟨za0_5, na0_5, fa0_5⟩ : (Sl S_impl_Entry)), a0_6, a0_7, (⟨za0_8, na0_8, fa0_8⟩ : (Sl Int)), (⟨za0_9, na0_9, fa0_9⟩ : (Sl Int)), (⟨za0_10, na0_10, fa0_10⟩ : (Sl Int))⟩ : S_impl_Node) y hy
  · cases h

/-! impl.in -/
def F_impl_in (fu : Nat) (n_0 : Int) (low_1 : Int) (high_2 : Int) : Option (Bool) :=
  (((bif (decide (n_0 ≥ low_1)) then (some (decide (n_0 ≤ high_2))) else (some false)) : Option Bool).bind fun m161 => (some m161))
def pc_a30 (fu : Nat) : Pc RT den := ⟨pcf0, fun _ => false, fun _ => false, pcd0, pcd0, pcx0⟩
def msk_a30 (b : Nat) : List Nat := match b with | 200001 => [6] | _ => []
def lp_a30 (fu : Nat) : Lp RT den (Bool) := ⟨fun b s k => none, inl0⟩
theorem ev_a30 (fu : Nat) (n_0 : Int) (low_1 : Int) (high_2 : Int) : evFun E (pc_a30 fu) msk_a30 (lp_a30 fu) out_bo 58 [(.int .i64 n_0), (.int .i64 low_1), (.int .i64 high_2)] = F_impl_in fu n_0 low_1 high_2 := by kernel_rfl
noncomputable def body_a30 : Code := Try.f58.body.getD .skip
theorem lpok_a30 (fu : Nat) : LpOk E (pc_a30 fu) 0 msk_a30 (lp_a30 fu) (loops 0 body_a30) := lp_nil (loop_nil (by kernel_rfl)) (by kernel_rfl)
def S_a30 (fu : Nat) (xs : List (D RT den)) : Option (Out RT den) := match xs with | [.int .i64 a0_0, .int .i64 a1_0, .int .i64 a2_0] => some ⟨Bool, F_impl_in fu a0_0 a1_0 a2_0, enc_bo, fun _ => true⟩ | _ => none
theorem goodv_a30 (fu : Nat) (n_0 : Int) (low_1 : Int) (high_2 : Int) (y : Bool) (hy : F_impl_in fu n_0 low_1 high_2 = some y) : Good E Try.prog 58 [(.int .i64 n_0), (.int .i64 low_1), (.int .i64 high_2)] (enc_bo y) :=
  fun_good E_ok (pc_good (pc := pc_a30 fu) hpc0 hpx0) (fn := Try.f58) (c := body_a30) (out := out_bo) (y := y) (by kernel_rfl) (by kernel_rfl) (by kernel_rfl) (lpok_a30 fu) (fun d hd => out_bo_enc d _ hd) ((ev_a30 fu n_0 low_1 high_2).trans hy)
theorem good_a30 (fu : Nat) : ∀ xs o, S_a30 fu xs = some o → ∀ y, o.x = some y → Good E Try.prog 58 xs (o.g y) := by
  intro xs o h y hy
  unfold S_a30 at h
  split at h
  · rename_i a0_0 a1_0 a2_0
    cases h
    exact goodv_a30 fu a0_0 a1_0 a2_0 y hy
  · cases h

/-! (*impl.Node).isId -/
def F_impl_Node_isId (fu : Nat) (n_0 : S_impl_Node) (id_1 : Int) : Option (Bool) :=
  ((F_impl_in fu id_1 0 (IntKind.wrap .i64 (n_0.Peers - 1))).bind fun y160 => (some y160))
def pcf_a31 (fu : Nat) (f : Nat) (xs : List (D RT den)) : Option (Out RT den) := match f with | 58 => S_a30 fu xs | _ => none
def pc_a31 (fu : Nat) : Pc RT den := ⟨pcf_a31 fu, fun _ => false, fun _ => false, pcd0, pcd0, pcx0⟩
def msk_a31 (b : Nat) : List Nat := []
def lp_a31 (fu : Nat) : Lp RT den (Bool) := ⟨fun b s k => none, inl0⟩
theorem ev_a31 (fu : Nat) (n_0 : S_impl_Node) (id_1 : Int) : evFun E (pc_a31 fu) msk_a31 (lp_a31 fu) out_bo 59 [(.rptr [(.int .i64 n_0.Id), (.int .i64 n_0.Peers), (.int .i64 n_0.Term), (.int .i64 n_0.Voted), (.rs n_0.Log.z .impl_Entry n_0.Log.n n_0.Log.f), (.int .i64 n_0.Role), (.int .i64 n_0.Commit), (.rs n_0.Votes.z .i64 n_0.Votes.n n_0.Votes.f), (.rs n_0.Next.z .i64 n_0.Next.n n_0.Next.f), (.rs n_0.Match.z .i64 n_0.Match.n n_0.Match.f)]), (.int .i64 id_1)] = F_impl_Node_isId fu n_0 id_1 := by kernel_rfl
noncomputable def body_a31 : Code := Try.f59.body.getD .skip
theorem lpok_a31 (fu : Nat) : LpOk E (pc_a31 fu) 0 msk_a31 (lp_a31 fu) (loops 0 body_a31) := lp_nil (loop_nil (by kernel_rfl)) (by kernel_rfl)
def S_a31 (fu : Nat) (xs : List (D RT den)) : Option (Out RT den) := match xs with | [.rptr (.int .i64 a0_1 :: .int .i64 a0_2 :: .int .i64 a0_3 :: .int .i64 a0_4 :: .rs za0_5 .impl_Entry na0_5 fa0_5 :: .int .i64 a0_6 :: .int .i64 a0_7 :: .rs za0_8 .i64 na0_8 fa0_8 :: .rs za0_9 .i64 na0_9 fa0_9 :: .rs za0_10 .i64 na0_10 fa0_10 :: ra0), .int .i64 a1_0] => some ⟨Bool, F_impl_Node_isId fu (⟨a0_1, a0_2, a0_3, a0_4, (⟨za0_5, na0_5, fa0_5⟩ : (Sl S_impl_Entry)), a0_6, a0_7, (⟨za0_8, na0_8, fa0_8⟩ : (Sl Int)), (⟨za0_9, na0_9, fa0_9⟩ : (Sl Int)), (⟨za0_10, na0_10, fa0_10⟩ : (Sl Int))⟩ : S_impl_Node) a1_0, enc_bo, fun _ => true⟩ | _ => none
theorem hpc_a31 (fu : Nat) : ∀ f xs o, pcf_a31 fu f xs = some o → ∀ y, o.x = some y → Good E Try.prog f xs (o.g y) := by
  intro f xs o h
  unfold pcf_a31 at h
  split at h
  · exact good_a30 fu xs o h
  · cases h
theorem goodv_a31 (fu : Nat) (n_0 : S_impl_Node) (id_1 : Int) (y : Bool) (hy : F_impl_Node_isId fu n_0 id_1 = some y) : Good E Try.prog 59 [(.rptr [(.int .i64 n_0.Id), (.int .i64 n_0.Peers), (.int .i64 n_0.Term), (.int .i64 n_0.Voted), (.rs n_0.Log.z .impl_Entry n_0.Log.n n_0.Log.f), (.int .i64 n_0.Role), (.int .i64 n_0.Commit), (.rs n_0.Votes.z .i64 n_0.Votes.n n_0.Votes.f), (.rs n_0.Next.z .i64 n_0.Next.n n_0.Next.f), (.rs n_0.Match.z .i64 n_0.Match.n n_0.Match.f)]), (.int .i64 id_1)] (enc_bo y) :=
  fun_good E_ok (pc_good (pc := pc_a31 fu) (hpc_a31 fu) hpx0) (fn := Try.f59) (c := body_a31) (out := out_bo) (y := y) (by kernel_rfl) (by kernel_rfl) (by kernel_rfl) (lpok_a31 fu) (fun d hd => out_bo_enc d _ hd) ((ev_a31 fu n_0 id_1).trans hy)
theorem good_a31 (fu : Nat) : ∀ xs o, S_a31 fu xs = some o → ∀ y, o.x = some y → Good E Try.prog 59 xs (o.g y) := by
  intro xs o h y hy
  unfold S_a31 at h
  split at h
  · rename_i a0_1 a0_2 a0_3 a0_4 za0_5 na0_5 fa0_5 a0_6 a0_7 za0_8 na0_8 fa0_8 za0_9 na0_9 fa0_9 za0_10 na0_10 fa0_10 ra0 a1_0
    cases h
    exact (goodv_a31 fu (⟨a0_1, a0_2, a0_3, a0_4, (⟨za0_5, na0_5, fa0_5⟩ : (Sl S_impl_Entry)), a0_6, a0_7, (⟨za0_8, na0_8, fa0_8⟩ : (Sl Int)), (⟨za0_9, na0_9, fa0_9⟩ : (Sl Int)), (⟨za0_10, na0_10, fa0_10⟩ : (Sl Int))⟩ : S_impl_Node) a1_0 y hy).sub ⟨Sub.of_eq ra0 rfl, .refl _, trivial⟩
  · cases h

/-! impl.needs -/
def F_impl_needs (fu : Nat) (kind_0 : Int) : Option (Bool × Bool × Bool × Bool) :=
  ((F_impl_in fu kind_0 5 8).bind fun y233 => ((F_impl_in fu kind_0 5 6).bind fun y234 => (bif (kind_0 == 1) then (some ((!y234), true, (kind_0 != 4), y233)) else (some ((!y234),
    y233, (kind_0 != 4), y233)))))
def pcf_a32 (fu : Nat) (f : Nat) (xs : List (D RT den)) : Option (Out RT den) := match f with | 58 => S_a30 fu xs | _ => none
def pc_a32 (fu : Nat) : Pc RT den := ⟨pcf_a32 fu, fun _ => false, fun _ => false, pcd0, pcd0, pcx0⟩
def msk_a32 (b : Nat) : List Nat := []
def lp_a32 (fu : Nat) : Lp RT den (Bool × Bool × Bool × Bool) := ⟨fun b s k => none, inl0⟩
theorem ev_a32 (fu : Nat) (kind_0 : Int) : evFun E (pc_a32 fu) msk_a32 (lp_a32 fu) out_bo_bo_bo_bo 96 [(.int .i64 kind_0)] = F_impl_needs fu kind_0 := by kernel_rfl
noncomputable def body_a32 : Code := Try.f96.body.getD .skip
theorem lpok_a32 (fu : Nat) : LpOk E (pc_a32 fu) 0 msk_a32 (lp_a32 fu) (loops 0 body_a32) := lp_nil (loop_nil (by kernel_rfl)) (by kernel_rfl)
def S_a32 (fu : Nat) (xs : List (D RT den)) : Option (Out RT den) := match xs with | [.int .i64 a0_0] => some ⟨Bool × Bool × Bool × Bool, F_impl_needs fu a0_0, enc_bo_bo_bo_bo, fun _ => true⟩ | _ => none
theorem hpc_a32 (fu : Nat) : ∀ f xs o, pcf_a32 fu f xs = some o → ∀ y, o.x = some y → Good E Try.prog f xs (o.g y) := by
  intro f xs o h
  unfold pcf_a32 at h
  split at h
  · exact good_a30 fu xs o h
  · cases h
theorem goodv_a32 (fu : Nat) (kind_0 : Int) (y : Bool × Bool × Bool × Bool) (hy : F_impl_needs fu kind_0 = some y) : Good E Try.prog 96 [(.int .i64 kind_0)] (enc_bo_bo_bo_bo y) :=
  fun_good E_ok (pc_good (pc := pc_a32 fu) (hpc_a32 fu) hpx0) (fn := Try.f96) (c := body_a32) (out := out_bo_bo_bo_bo) (y := y) (by kernel_rfl) (by kernel_rfl) (by kernel_rfl) (lpok_a32 fu) (fun d hd => out_bo_bo_bo_bo_enc d _ hd) ((ev_a32 fu kind_0).trans hy)
theorem good_a32 (fu : Nat) : ∀ xs o, S_a32 fu xs = some o → ∀ y, o.x = some y → Good E Try.prog 96 xs (o.g y) := by
  intro xs o h y hy
  unfold S_a32 at h
  split at h
  · rename_i a0_0
    cases h
    exact goodv_a32 fu a0_0 y hy
  · cases h

/-! impl.isName -/
def F_impl_isName (fu : Nat) (name_0 : Int) : Option (Bool) :=
  ((F_impl_in fu name_0 1 999).bind fun y235 => (some y235))
def pcf_a33 (fu : Nat) (f : Nat) (xs : List (D RT den)) : Option (Out RT den) := match f with | 58 => S_a30 fu xs | _ => none
def pc_a33 (fu : Nat) : Pc RT den := ⟨pcf_a33 fu, fun _ => false, fun _ => false, pcd0, pcd0, pcx0⟩
def msk_a33 (b : Nat) : List Nat := []
def lp_a33 (fu : Nat) : Lp RT den (Bool) := ⟨fun b s k => none, inl0⟩
theorem ev_a33 (fu : Nat) (name_0 : Int) : evFun E (pc_a33 fu) msk_a33 (lp_a33 fu) out_bo 97 [(.int .i64 name_0)] = F_impl_isName fu name_0 := by kernel_rfl
noncomputable def body_a33 : Code := Try.f97.body.getD .skip
theorem lpok_a33 (fu : Nat) : LpOk E (pc_a33 fu) 0 msk_a33 (lp_a33 fu) (loops 0 body_a33) := lp_nil (loop_nil (by kernel_rfl)) (by kernel_rfl)
def S_a33 (fu : Nat) (xs : List (D RT den)) : Option (Out RT den) := match xs with | [.int .i64 a0_0] => some ⟨Bool, F_impl_isName fu a0_0, enc_bo, fun _ => true⟩ | _ => none
theorem hpc_a33 (fu : Nat) : ∀ f xs o, pcf_a33 fu f xs = some o → ∀ y, o.x = some y → Good E Try.prog f xs (o.g y) := by
  intro f xs o h
  unfold pcf_a33 at h
  split at h
  · exact good_a30 fu xs o h
  · cases h
theorem goodv_a33 (fu : Nat) (name_0 : Int) (y : Bool) (hy : F_impl_isName fu name_0 = some y) : Good E Try.prog 97 [(.int .i64 name_0)] (enc_bo y) :=
  fun_good E_ok (pc_good (pc := pc_a33 fu) (hpc_a33 fu) hpx0) (fn := Try.f97) (c := body_a33) (out := out_bo) (y := y) (by kernel_rfl) (by kernel_rfl) (by kernel_rfl) (lpok_a33 fu) (fun d hd => out_bo_enc d _ hd) ((ev_a33 fu name_0).trans hy)
theorem good_a33 (fu : Nat) : ∀ xs o, S_a33 fu xs = some o → ∀ y, o.x = some y → Good E Try.prog 97 xs (o.g y) := by
  intro xs o h y hy
  unfold S_a33 at h
  split at h
  · rename_i a0_0
    cases h
    exact goodv_a33 fu a0_0 y hy
  · cases h

/-! impl.isAddress -/
def F_impl_isAddress (fu : Nat) (a_0 : Int) : Option (Bool) :=
  ((F_impl_in fu a_0 0 4294967295).bind fun y236 => (some y236))
def pcf_a34 (fu : Nat) (f : Nat) (xs : List (D RT den)) : Option (Out RT den) := match f with | 58 => S_a30 fu xs | _ => none
def pc_a34 (fu : Nat) : Pc RT den := ⟨pcf_a34 fu, fun _ => false, fun _ => false, pcd0, pcd0, pcx0⟩
def msk_a34 (b : Nat) : List Nat := []
def lp_a34 (fu : Nat) : Lp RT den (Bool) := ⟨fun b s k => none, inl0⟩
theorem ev_a34 (fu : Nat) (a_0 : Int) : evFun E (pc_a34 fu) msk_a34 (lp_a34 fu) out_bo 98 [(.int .i64 a_0)] = F_impl_isAddress fu a_0 := by kernel_rfl
noncomputable def body_a34 : Code := Try.f98.body.getD .skip
theorem lpok_a34 (fu : Nat) : LpOk E (pc_a34 fu) 0 msk_a34 (lp_a34 fu) (loops 0 body_a34) := lp_nil (loop_nil (by kernel_rfl)) (by kernel_rfl)
def S_a34 (fu : Nat) (xs : List (D RT den)) : Option (Out RT den) := match xs with | [.int .i64 a0_0] => some ⟨Bool, F_impl_isAddress fu a0_0, enc_bo, fun _ => true⟩ | _ => none
theorem hpc_a34 (fu : Nat) : ∀ f xs o, pcf_a34 fu f xs = some o → ∀ y, o.x = some y → Good E Try.prog f xs (o.g y) := by
  intro f xs o h
  unfold pcf_a34 at h
  split at h
  · exact good_a30 fu xs o h
  · cases h
theorem goodv_a34 (fu : Nat) (a_0 : Int) (y : Bool) (hy : F_impl_isAddress fu a_0 = some y) : Good E Try.prog 98 [(.int .i64 a_0)] (enc_bo y) :=
  fun_good E_ok (pc_good (pc := pc_a34 fu) (hpc_a34 fu) hpx0) (fn := Try.f98) (c := body_a34) (out := out_bo) (y := y) (by kernel_rfl) (by kernel_rfl) (by kernel_rfl) (lpok_a34 fu) (fun d hd => out_bo_enc d _ hd) ((ev_a34 fu a_0).trans hy)
theorem good_a34 (fu : Nat) : ∀ xs o, S_a34 fu xs = some o → ∀ y, o.x = some y → Good E Try.prog 98 xs (o.g y) := by
  intro xs o h y hy
  unfold S_a34 at h
  split at h
  · rename_i a0_0
    cases h
    exact goodv_a34 fu a0_0 y hy
  · cases h

/-! impl.isPort -/
def F_impl_isPort (fu : Nat) (n_0 : Int) : Option (Bool) :=
  ((F_impl_in fu n_0 0 65535).bind fun y242 => (some y242))
def pcf_a35 (fu : Nat) (f : Nat) (xs : List (D RT den)) : Option (Out RT den) := match f with | 58 => S_a30 fu xs | _ => none
def pc_a35 (fu : Nat) : Pc RT den := ⟨pcf_a35 fu, fun _ => false, fun _ => false, pcd0, pcd0, pcx0⟩
def msk_a35 (b : Nat) : List Nat := []
def lp_a35 (fu : Nat) : Lp RT den (Bool) := ⟨fun b s k => none, inl0⟩
theorem ev_a35 (fu : Nat) (n_0 : Int) : evFun E (pc_a35 fu) msk_a35 (lp_a35 fu) out_bo 108 [(.int .i64 n_0)] = F_impl_isPort fu n_0 := by kernel_rfl
noncomputable def body_a35 : Code := Try.f108.body.getD .skip
theorem lpok_a35 (fu : Nat) : LpOk E (pc_a35 fu) 0 msk_a35 (lp_a35 fu) (loops 0 body_a35) := lp_nil (loop_nil (by kernel_rfl)) (by kernel_rfl)
def S_a35 (fu : Nat) (xs : List (D RT den)) : Option (Out RT den) := match xs with | [.int .i64 a0_0] => some ⟨Bool, F_impl_isPort fu a0_0, enc_bo, fun _ => true⟩ | _ => none
theorem hpc_a35 (fu : Nat) : ∀ f xs o, pcf_a35 fu f xs = some o → ∀ y, o.x = some y → Good E Try.prog f xs (o.g y) := by
  intro f xs o h
  unfold pcf_a35 at h
  split at h
  · exact good_a30 fu xs o h
  · cases h
theorem goodv_a35 (fu : Nat) (n_0 : Int) (y : Bool) (hy : F_impl_isPort fu n_0 = some y) : Good E Try.prog 108 [(.int .i64 n_0)] (enc_bo y) :=
  fun_good E_ok (pc_good (pc := pc_a35 fu) (hpc_a35 fu) hpx0) (fn := Try.f108) (c := body_a35) (out := out_bo) (y := y) (by kernel_rfl) (by kernel_rfl) (by kernel_rfl) (lpok_a35 fu) (fun d hd => out_bo_enc d _ hd) ((ev_a35 fu n_0).trans hy)
theorem good_a35 (fu : Nat) : ∀ xs o, S_a35 fu xs = some o → ∀ y, o.x = some y → Good E Try.prog 108 xs (o.g y) := by
  intro xs o h y hy
  unfold S_a35 at h
  split at h
  · rename_i a0_0
    cases h
    exact goodv_a35 fu a0_0 y hy
  · cases h

/-! impl.isNumber -/
def F_impl_isNumber (fu : Nat) (x_0 : S_impl_Cmd) : Option (Bool) :=
  (bif (x_0.Kind == 1) then ((F_impl_in fu x_0.Number 0 9).bind fun y237 => (some y237)) else (bif (x_0.Kind == 2) then ((F_impl_in fu x_0.Number 0 9).bind fun y238 => (some y238)) else
    (bif (x_0.Kind == 3) then ((F_impl_in fu x_0.Number 1 3).bind fun y239 => (some y239)) else (bif (x_0.Kind == 9) then ((F_impl_in fu x_0.Number 0 1).bind fun y240 => (some y240)) else
    ((F_impl_isPort fu x_0.Number).bind fun y241 => (some y241))))))
def pcf_a36 (fu : Nat) (f : Nat) (xs : List (D RT den)) : Option (Out RT den) := match f with | 58 => S_a30 fu xs | 108 => S_a35 fu xs | _ => none
def pc_a36 (fu : Nat) : Pc RT den := ⟨pcf_a36 fu, fun _ => false, fun _ => false, pcd0, pcd0, pcx0⟩
def msk_a36 (b : Nat) : List Nat := []
def lp_a36 (fu : Nat) : Lp RT den (Bool) := ⟨fun b s k => none, inl0⟩
theorem ev_a36 (fu : Nat) (x_0 : S_impl_Cmd) : evFun E (pc_a36 fu) msk_a36 (lp_a36 fu) out_bo 99 [(.agg [(.int .i64 x_0.Kind), (.int .i64 x_0.Expect), (.int .i64 x_0.Name), (.int .i64 x_0.Addr), (.int .i64 x_0.Number), (.int .i64 x_0.Proto)])] = F_impl_isNumber fu x_0 := by kernel_rfl
noncomputable def body_a36 : Code := Try.f99.body.getD .skip
theorem lpok_a36 (fu : Nat) : LpOk E (pc_a36 fu) 0 msk_a36 (lp_a36 fu) (loops 0 body_a36) := lp_nil (loop_nil (by kernel_rfl)) (by kernel_rfl)
def S_a36 (fu : Nat) (xs : List (D RT den)) : Option (Out RT den) := match xs with | [.agg [.int .i64 a0_1, .int .i64 a0_2, .int .i64 a0_3, .int .i64 a0_4, .int .i64 a0_5, .int .i64 a0_6]] => some ⟨Bool, F_impl_isNumber fu (⟨a0_1, a0_2, a0_3, a0_4, a0_5, a0_6⟩ : S_impl_Cmd), enc_bo, fun _ => true⟩ | _ => none
theorem hpc_a36 (fu : Nat) : ∀ f xs o, pcf_a36 fu f xs = some o → ∀ y, o.x = some y → Good E Try.prog f xs (o.g y) := by
  intro f xs o h
  unfold pcf_a36 at h
  split at h
  · exact good_a30 fu xs o h
  · exact good_a35 fu xs o h
  · cases h
theorem goodv_a36 (fu : Nat) (x_0 : S_impl_Cmd) (y : Bool) (hy : F_impl_isNumber fu x_0 = some y) : Good E Try.prog 99 [(.agg [(.int .i64 x_0.Kind), (.int .i64 x_0.Expect), (.int .i64 x_0.Name), (.int .i64 x_0.Addr), (.int .i64 x_0.Number), (.int .i64 x_0.Proto)])] (enc_bo y) :=
  fun_good E_ok (pc_good (pc := pc_a36 fu) (hpc_a36 fu) hpx0) (fn := Try.f99) (c := body_a36) (out := out_bo) (y := y) (by kernel_rfl) (by kernel_rfl) (by kernel_rfl) (lpok_a36 fu) (fun d hd => out_bo_enc d _ hd) ((ev_a36 fu x_0).trans hy)
theorem good_a36 (fu : Nat) : ∀ xs o, S_a36 fu xs = some o → ∀ y, o.x = some y → Good E Try.prog 99 xs (o.g y) := by
  intro xs o h y hy
  unfold S_a36 at h
  split at h
  · rename_i a0_1 a0_2 a0_3 a0_4 a0_5 a0_6
    cases h
    exact goodv_a36 fu (⟨a0_1, a0_2, a0_3, a0_4, a0_5, a0_6⟩ : S_impl_Cmd) y hy
  · cases h

/-! impl.isProto -/
def F_impl_isProto (fu : Nat) (n_0 : Int) : Option (Bool) :=
  (((bif (n_0 == 6) then (some true) else (some (n_0 == 17))) : Option Bool).bind fun m243 => (some m243))
def pc_a37 (fu : Nat) : Pc RT den := ⟨pcf0, fun _ => false, fun _ => false, pcd0, pcd0, pcx0⟩
def msk_a37 (b : Nat) : List Nat := match b with | 200001 => [2] | _ => []
def lp_a37 (fu : Nat) : Lp RT den (Bool) := ⟨fun b s k => none, inl0⟩
theorem ev_a37 (fu : Nat) (n_0 : Int) : evFun E (pc_a37 fu) msk_a37 (lp_a37 fu) out_bo 100 [(.int .i64 n_0)] = F_impl_isProto fu n_0 := by kernel_rfl
noncomputable def body_a37 : Code := Try.f100.body.getD .skip
theorem lpok_a37 (fu : Nat) : LpOk E (pc_a37 fu) 0 msk_a37 (lp_a37 fu) (loops 0 body_a37) := lp_nil (loop_nil (by kernel_rfl)) (by kernel_rfl)
def S_a37 (fu : Nat) (xs : List (D RT den)) : Option (Out RT den) := match xs with | [.int .i64 a0_0] => some ⟨Bool, F_impl_isProto fu a0_0, enc_bo, fun _ => true⟩ | _ => none
theorem goodv_a37 (fu : Nat) (n_0 : Int) (y : Bool) (hy : F_impl_isProto fu n_0 = some y) : Good E Try.prog 100 [(.int .i64 n_0)] (enc_bo y) :=
  fun_good E_ok (pc_good (pc := pc_a37 fu) hpc0 hpx0) (fn := Try.f100) (c := body_a37) (out := out_bo) (y := y) (by kernel_rfl) (by kernel_rfl) (by kernel_rfl) (lpok_a37 fu) (fun d hd => out_bo_enc d _ hd) ((ev_a37 fu n_0).trans hy)
theorem good_a37 (fu : Nat) : ∀ xs o, S_a37 fu xs = some o → ∀ y, o.x = some y → Good E Try.prog 100 xs (o.g y) := by
  intro xs o h y hy
  unfold S_a37 at h
  split at h
  · rename_i a0_0
    cases h
    exact goodv_a37 fu a0_0 y hy
  · cases h

/-! impl.CmdFault -/
def F_impl_CmdFault (fu : Nat) (x_0 : S_impl_Cmd) : Option (Int) :=
  ((F_impl_in fu x_0.Kind 1 9).bind fun y213 => (bif (!y213) then (some 1) else ((F_impl_needs fu x_0.Kind).bind fun y214 => ((((F_impl_in fu x_0.Expect (-1) 1000000).bind fun y215 =>
    (bif (!y215) then (some true) else (bif y214.1 then ((F_impl_isName fu x_0.Name).bind fun y216 => (bif (!y216) then (some true) else (bif y214.2.1 then ((F_impl_isAddress fu x_0.Addr).bind fun y217 =>
    (bif (!y217) then (some true) else (bif y214.2.2.1 then ((F_impl_isNumber fu x_0).bind fun y218 => (bif (!y218) then (some true) else (bif y214.2.2.2 then ((F_impl_isProto fu x_0.Proto).bind fun y219 =>
    (some (!y219))) else (some false)))) else (bif y214.2.2.2 then ((F_impl_isProto fu x_0.Proto).bind fun y220 => (some (!y220))) else (some false))))) else (bif y214.2.2.1 then
    ((F_impl_isNumber fu x_0).bind fun y221 => (bif (!y221) then (some true) else (bif y214.2.2.2 then ((F_impl_isProto fu x_0.Proto).bind fun y222 => (some (!y222))) else (some false)))) else
    (bif y214.2.2.2 then ((F_impl_isProto fu x_0.Proto).bind fun y223 => (some (!y223))) else (some false)))))) else (bif y214.2.1 then ((F_impl_isAddress fu x_0.Addr).bind fun y224 =>
    (bif (!y224) then (some true) else (bif y214.2.2.1 then ((F_impl_isNumber fu x_0).bind fun y225 => (bif (!y225) then (some true) else (bif y214.2.2.2 then ((F_impl_isProto fu x_0.Proto).bind fun y226 =>
    (some (!y226))) else (some false)))) else (bif y214.2.2.2 then ((F_impl_isProto fu x_0.Proto).bind fun y227 => (some (!y227))) else (some false))))) else (bif y214.2.2.1 then
    ((F_impl_isNumber fu x_0).bind fun y228 => (bif (!y228) then (some true) else (bif y214.2.2.2 then ((F_impl_isProto fu x_0.Proto).bind fun y229 => (some (!y229))) else (some false)))) else
    (bif y214.2.2.2 then ((F_impl_isProto fu x_0.Proto).bind fun y230 => (some (!y230))) else (some false))))))) : Option Bool).bind fun m231 => (bif m231 then (some 3) else (((bif (!y214.1) then
    (bif (x_0.Name != 0) then (some true) else (bif (!y214.2.1) then (bif (x_0.Addr != 0) then (some true) else (bif (!y214.2.2.1) then (bif (x_0.Number != 0) then (some true) else
    (bif (!y214.2.2.2) then (some (x_0.Proto != 0)) else (some false))) else (bif (!y214.2.2.2) then (some (x_0.Proto != 0)) else (some false)))) else (bif (!y214.2.2.1) then (bif (x_0.Number != 0) then
    (some true) else (bif (!y214.2.2.2) then (some (x_0.Proto != 0)) else (some false))) else (bif (!y214.2.2.2) then (some (x_0.Proto != 0)) else (some false))))) else (bif (!y214.2.1) then
    (bif (x_0.Addr != 0) then (some true) else (bif (!y214.2.2.1) then (bif (x_0.Number != 0) then (some true) else (bif (!y214.2.2.2) then (some (x_0.Proto != 0)) else (some false))) else
    (bif (!y214.2.2.2) then (some (x_0.Proto != 0)) else (some false)))) else (bif (!y214.2.2.1) then (bif (x_0.Number != 0) then (some true) else (bif (!y214.2.2.2) then (some (x_0.Proto != 0)) else
    (some false))) else (bif (!y214.2.2.2) then (some (x_0.Proto != 0)) else (some false))))) : Option Bool).bind fun m232 => (bif m232 then (some 1) else (some 0))))))))
def pcf_a38 (fu : Nat) (f : Nat) (xs : List (D RT den)) : Option (Out RT den) := match f with | 58 => S_a30 fu xs | 96 => S_a32 fu xs | 97 => S_a33 fu xs | 98 => S_a34 fu xs | 99 => S_a36 fu xs | 100 => S_a37 fu xs | _ => none
def pc_a38 (fu : Nat) : Pc RT den := ⟨pcf_a38 fu, fun _ => false, fun _ => false, pcd0, pcd0, pcx0⟩
def msk_a38 (b : Nat) : List Nat := match b with | 200004 => [19] | 200006 => [59] | _ => []
def lp_a38 (fu : Nat) : Lp RT den (Int) := ⟨fun b s k => none, inl0⟩
theorem ev_a38 (fu : Nat) (x_0 : S_impl_Cmd) : evFun E (pc_a38 fu) msk_a38 (lp_a38 fu) out_i64 88 [(.agg [(.int .i64 x_0.Kind), (.int .i64 x_0.Expect), (.int .i64 x_0.Name), (.int .i64 x_0.Addr), (.int .i64 x_0.Number), (.int .i64 x_0.Proto)])] = F_impl_CmdFault fu x_0 := by kernel_rfl
noncomputable def body_a38 : Code := Try.f88.body.getD .skip
theorem lpok_a38 (fu : Nat) : LpOk E (pc_a38 fu) 0 msk_a38 (lp_a38 fu) (loops 0 body_a38) := lp_nil (loop_nil (by kernel_rfl)) (by kernel_rfl)
def S_a38 (fu : Nat) (xs : List (D RT den)) : Option (Out RT den) := match xs with | [.agg [.int .i64 a0_1, .int .i64 a0_2, .int .i64 a0_3, .int .i64 a0_4, .int .i64 a0_5, .int .i64 a0_6]] => some ⟨Int, F_impl_CmdFault fu (⟨a0_1, a0_2, a0_3, a0_4, a0_5, a0_6⟩ : S_impl_Cmd), enc_i64, fun _ => true⟩ | _ => none
theorem hpc_a38 (fu : Nat) : ∀ f xs o, pcf_a38 fu f xs = some o → ∀ y, o.x = some y → Good E Try.prog f xs (o.g y) := by
  intro f xs o h
  unfold pcf_a38 at h
  split at h
  · exact good_a30 fu xs o h
  · exact good_a32 fu xs o h
  · exact good_a33 fu xs o h
  · exact good_a34 fu xs o h
  · exact good_a36 fu xs o h
  · exact good_a37 fu xs o h
  · cases h
theorem goodv_a38 (fu : Nat) (x_0 : S_impl_Cmd) (y : Int) (hy : F_impl_CmdFault fu x_0 = some y) : Good E Try.prog 88 [(.agg [(.int .i64 x_0.Kind), (.int .i64 x_0.Expect), (.int .i64 x_0.Name), (.int .i64 x_0.Addr), (.int .i64 x_0.Number), (.int .i64 x_0.Proto)])] (enc_i64 y) :=
  fun_good E_ok (pc_good (pc := pc_a38 fu) (hpc_a38 fu) hpx0) (fn := Try.f88) (c := body_a38) (out := out_i64) (y := y) (by kernel_rfl) (by kernel_rfl) (by kernel_rfl) (lpok_a38 fu) (fun d hd => out_i64_enc d _ hd) ((ev_a38 fu x_0).trans hy)
theorem good_a38 (fu : Nat) : ∀ xs o, S_a38 fu xs = some o → ∀ y, o.x = some y → Good E Try.prog 88 xs (o.g y) := by
  intro xs o h y hy
  unfold S_a38 at h
  split at h
  · rename_i a0_1 a0_2 a0_3 a0_4 a0_5 a0_6
    cases h
    exact goodv_a38 fu (⟨a0_1, a0_2, a0_3, a0_4, a0_5, a0_6⟩ : S_impl_Cmd) y hy
  · cases h

/-! impl.EntryFault -/
def F_impl_EntryFault (fu : Nat) (x_0 : S_impl_Entry) : Option (Int) :=
  ((((F_impl_in fu x_0.Term 1 100000).bind fun y208 => (bif (!y208) then (some true) else ((F_impl_in fu x_0.Client 0 999).bind fun y209 => (bif (!y209) then (some true) else
    ((F_impl_in fu x_0.Seq 0 1000000).bind fun y210 => (some (!y210))))))) : Option Bool).bind fun m211 => (bif m211 then (some 3) else (bif (!((x_0.Client == 0) == (x_0.Seq == 0))) then
    (some 1) else (bif (x_0.Client != 0) then ((F_impl_CmdFault fu x_0.Cmd).bind fun y212 => (some y212)) else (bif (!((x_0.Cmd.Kind == 0) && ((x_0.Cmd.Expect == 0) &&
    ((x_0.Cmd.Name == 0) && ((x_0.Cmd.Addr == 0) && ((x_0.Cmd.Number == 0) && ((x_0.Cmd.Proto == 0) && true))))))) then (some 1) else (some 0))))))
def pcf_a39 (fu : Nat) (f : Nat) (xs : List (D RT den)) : Option (Out RT den) := match f with | 58 => S_a30 fu xs | 88 => S_a38 fu xs | _ => none
def pc_a39 (fu : Nat) : Pc RT den := ⟨pcf_a39 fu, fun _ => false, fun _ => false, pcd0, pcd0, pcx0⟩
def msk_a39 (b : Nat) : List Nat := match b with | 200001 => [3] | _ => []
def lp_a39 (fu : Nat) : Lp RT den (Int) := ⟨fun b s k => none, inl0⟩
theorem ev_a39 (fu : Nat) (x_0 : S_impl_Entry) : evFun E (pc_a39 fu) msk_a39 (lp_a39 fu) out_i64 65 [(.agg [(.int .i64 x_0.Term), (.int .i64 x_0.Client), (.int .i64 x_0.Seq), (.int .i64 x_0.Cmd.Kind), (.int .i64 x_0.Cmd.Expect), (.int .i64 x_0.Cmd.Name), (.int .i64 x_0.Cmd.Addr), (.int .i64 x_0.Cmd.Number), (.int .i64 x_0.Cmd.Proto)])] = F_impl_EntryFault fu x_0 := by kernel_rfl
noncomputable def body_a39 : Code := Try.f65.body.getD .skip
theorem lpok_a39 (fu : Nat) : LpOk E (pc_a39 fu) 0 msk_a39 (lp_a39 fu) (loops 0 body_a39) := lp_nil (loop_nil (by kernel_rfl)) (by kernel_rfl)
def S_a39 (fu : Nat) (xs : List (D RT den)) : Option (Out RT den) := match xs with | [.agg [.int .i64 a0_1, .int .i64 a0_2, .int .i64 a0_3, .int .i64 a0_5, .int .i64 a0_6, .int .i64 a0_7, .int .i64 a0_8, .int .i64 a0_9, .int .i64 a0_10]] => some ⟨Int, F_impl_EntryFault fu (⟨a0_1, a0_2, a0_3, (⟨a0_5, a0_6, a0_7, a0_8, a0_9, a0_10⟩ : S_impl_Cmd)⟩ : S_impl_Entry), enc_i64, fun _ => true⟩ | _ => none
theorem hpc_a39 (fu : Nat) : ∀ f xs o, pcf_a39 fu f xs = some o → ∀ y, o.x = some y → Good E Try.prog f xs (o.g y) := by
  intro f xs o h
  unfold pcf_a39 at h
  split at h
  · exact good_a30 fu xs o h
  · exact good_a38 fu xs o h
  · cases h
theorem goodv_a39 (fu : Nat) (x_0 : S_impl_Entry) (y : Int) (hy : F_impl_EntryFault fu x_0 = some y) : Good E Try.prog 65 [(.agg [(.int .i64 x_0.Term), (.int .i64 x_0.Client), (.int .i64 x_0.Seq), (.int .i64 x_0.Cmd.Kind), (.int .i64 x_0.Cmd.Expect), (.int .i64 x_0.Cmd.Name), (.int .i64 x_0.Cmd.Addr), (.int .i64 x_0.Cmd.Number), (.int .i64 x_0.Cmd.Proto)])] (enc_i64 y) :=
  fun_good E_ok (pc_good (pc := pc_a39 fu) (hpc_a39 fu) hpx0) (fn := Try.f65) (c := body_a39) (out := out_i64) (y := y) (by kernel_rfl) (by kernel_rfl) (by kernel_rfl) (lpok_a39 fu) (fun d hd => out_i64_enc d _ hd) ((ev_a39 fu x_0).trans hy)
theorem good_a39 (fu : Nat) : ∀ xs o, S_a39 fu xs = some o → ∀ y, o.x = some y → Good E Try.prog 65 xs (o.g y) := by
  intro xs o h y hy
  unfold S_a39 at h
  split at h
  · rename_i a0_1 a0_2 a0_3 a0_5 a0_6 a0_7 a0_8 a0_9 a0_10
    cases h
    exact goodv_a39 fu (⟨a0_1, a0_2, a0_3, (⟨a0_5, a0_6, a0_7, a0_8, a0_9, a0_10⟩ : S_impl_Cmd)⟩ : S_impl_Entry) y hy
  · cases h
end Go.Proofs.Ytjdgfkmiaikegaa.Pc
