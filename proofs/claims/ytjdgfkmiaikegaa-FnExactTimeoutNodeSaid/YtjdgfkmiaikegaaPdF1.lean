/- The functions' evaluated forms, each a proved summary. Conditions: none. -/
import Derived.Test.YtjdgfkmiaikegaaPdF0
namespace Go.Proofs.Ytjdgfkmiaikegaa.Pd
open Go Go.RowKit Go.Proofs Vm
set_option linter.unusedVariables false
set_option linter.unusedSimpArgs false
set_option maxRecDepth 100000
abbrev Yb0 : Type := Int × Int × Int × Int × Int × Nat × Int × Int × Nat × Nat × Nat × Nat × Nat × (Nat → S_impl_Entry) × Nat × (Nat → Int) × Nat × (Nat → Int) × Nat × (Nat → Int) × Nat × (Nat → S_impl_Mail)
/-! spec.l8Bad -/
def F_spec_l8Bad_U (fu : Nat) (c_0 : Int) : Option (Yb0) :=
  (bif (decide ((0 : Nat) = 0) && true) then (some (c_0, 0, 0, 0, 0, 0, 0, 0, 0, 0, 0, 0, 0, (fun _ => dflt .impl_Entry), 0, (fun _ => dflt .i64), 0, (fun _ => dflt .i64), 0, (fun _ =>
    dflt .i64), 0, (fun _ => dflt .impl_Mail))) else none)
def pc_a21 (fu : Nat) : Pc RT den := ⟨pcf0, fun _ => false, fun _ => false, pcd0, pcd0, pcx0⟩
def msk_a21 (b : Nat) : List Nat := []
def lp_a21 (fu : Nat) : Lp RT den (Yb0) := ⟨fun b s k => none, inl0⟩
def pso_a21 : List (Pat RT) := [.agg [(.int .i64), (.int .i64), (.int .i64), (.int .i64), (.int .i64), (.os 0), (.int .i64), (.int .i64), (.os 1), (.os 2), (.os 3), (.os 4)]]
def oso_a21 : List (OP RT) := [.row false .impl_Entry, .row false .i64, .row false .i64, .row false .i64, .deep false .impl_Mail]
def conv_a21 (r : Raw den pso_a21 oso_a21) : Yb0 := (r.1.1.1, r.1.1.2.1, r.1.1.2.2.1, r.1.1.2.2.2.1, r.1.1.2.2.2.2.1, (e5 r.1.1).1, (e5 r.1.1).2.1, (e5 r.1.1).2.2.1, (e5 r.1.1).2.2.2.1, (e5 r.1.1).2.2.2.2.1, (e10 r.1.1).1, (e10 r.1.1).2.1, r.2.1.1, r.2.1.2, r.2.2.1.1, r.2.2.1.2, r.2.2.2.1.1, r.2.2.2.1.2, r.2.2.2.2.1.1, r.2.2.2.2.1.2, (e5 r).1.1, (e5 r).1.2.2)
def enc_a21 (y : Yb0) : D RT den × List (Ob RT den) := ((.agg [(.int .i64 y.1), (.int .i64 y.2.1), (.int .i64 y.2.2.1), (.int .i64 y.2.2.2.1), (.int .i64 y.2.2.2.2.1), (.os 0 y.2.2.2.2.2.1), (.int .i64 y.2.2.2.2.2.2.1), (.int .i64 y.2.2.2.2.2.2.2.1), (.os 1 y.2.2.2.2.2.2.2.2.1), (.os 2 y.2.2.2.2.2.2.2.2.2.1), (.os 3 y.2.2.2.2.2.2.2.2.2.2.1), (.os 4 y.2.2.2.2.2.2.2.2.2.2.2.1)]), [(.row false .impl_Entry y.2.2.2.2.2.2.2.2.2.2.2.2.1 y.2.2.2.2.2.2.2.2.2.2.2.2.2.1), (.row false .i64 y.2.2.2.2.2.2.2.2.2.2.2.2.2.2.1 y.2.2.2.2.2.2.2.2.2.2.2.2.2.2.2.1), (.row false .i64 y.2.2.2.2.2.2.2.2.2.2.2.2.2.2.2.2.1 y.2.2.2.2.2.2.2.2.2.2.2.2.2.2.2.2.2.1), (.row false .i64 y.2.2.2.2.2.2.2.2.2.2.2.2.2.2.2.2.2.2.1 y.2.2.2.2.2.2.2.2.2.2.2.2.2.2.2.2.2.2.2.1), (.deep false .impl_Mail y.2.2.2.2.2.2.2.2.2.2.2.2.2.2.2.2.2.2.2.2.1 y.2.2.2.2.2.2.2.2.2.2.2.2.2.2.2.2.2.2.2.2.1 y.2.2.2.2.2.2.2.2.2.2.2.2.2.2.2.2.2.2.2.2.2)])
def chk_a21 (r : Raw den pso_a21 oso_a21) : Bool := (decide (r.2.2.2.2.2.1.2.1 = r.2.2.2.2.2.1.1) && true)
def raw_a21 (r : Raw den pso_a21 oso_a21) : St RT den := ⟨[(.agg [(.int .i64 r.1.1.1), (.int .i64 r.1.1.2.1), (.int .i64 r.1.1.2.2.1), (.int .i64 r.1.1.2.2.2.1), (.int .i64 r.1.1.2.2.2.2.1), (.os 0 r.1.1.2.2.2.2.2.1), (.int .i64 r.1.1.2.2.2.2.2.2.1), (.int .i64 r.1.1.2.2.2.2.2.2.2.1), (.os 1 r.1.1.2.2.2.2.2.2.2.2.1), (.os 2 r.1.1.2.2.2.2.2.2.2.2.2.1), (.os 3 r.1.1.2.2.2.2.2.2.2.2.2.2.1), (.os 4 r.1.1.2.2.2.2.2.2.2.2.2.2.2.1)])], [(.row false .impl_Entry r.2.1.1 r.2.1.2), (.row false .i64 r.2.2.1.1 r.2.2.1.2), (.row false .i64 r.2.2.2.1.1 r.2.2.2.1.2), (.row false .i64 r.2.2.2.2.1.1 r.2.2.2.2.1.2), (.deep false .impl_Mail r.2.2.2.2.2.1.1 r.2.2.2.2.2.1.2.1 r.2.2.2.2.2.1.2.2)]⟩
theorem chkd_a21 (r : Raw den pso_a21 oso_a21) (h : chk_a21 r = true) : raw_a21 r = ⟨[(enc_a21 (conv_a21 r)).1], (enc_a21 (conv_a21 r)).2⟩ := by
  simp only [chk_a21, Bool.and_eq_true, decide_eq_true_eq, and_true] at h
  simp only [raw_a21, enc_a21, conv_a21, h, e5, e10, e20, e40]
def out_a21 (d : D RT den) (os : List (Ob RT den)) : Option (Yb0) := (unSt pso_a21 oso_a21 ⟨[d], os⟩).bind fun v => bif chk_a21 v.1 then some (conv_a21 v.1) else none
theorem out_a21_enc (d : D RT den) (os : List (Ob RT den)) (y : Yb0) (h : out_a21 d os = some y) : d = (enc_a21 y).1 ∧ os = (enc_a21 y).2 :=
  outU (conv := conv_a21) (enc := enc_a21) (chk := chk_a21) (fun raw h => Eq.trans (by kernel_rfl) (chkd_a21 raw h)) h
theorem ev_a21 (fu : Nat) (c_0 : Int) : evFunU E (pc_a21 fu) msk_a21 (lp_a21 fu) out_a21 26 [(.int .i64 c_0)] [] = F_spec_l8Bad_U fu c_0 := by kernel_rfl
noncomputable def body_a21 : Code := Try.f26.body.getD .skip
theorem lpok_a21 (fu : Nat) : LpOk E (pc_a21 fu) 0 msk_a21 (lp_a21 fu) (loops 0 body_a21) := lp_nil (loop_nil (by kernel_rfl)) (by kernel_rfl)
def S_a21 (fu : Nat) (xs : List (D RT den)) (ins : List (Ob RT den)) : Option (OutX RT den) := match xs, ins with | [.int .i64 a0_0], [] => some ⟨Yb0, F_spec_l8Bad_U fu a0_0, enc_a21⟩ | _, _ => none
theorem goodv_a21 (fu : Nat) (c_0 : Int) (y : Yb0) (hy : F_spec_l8Bad_U fu c_0 = some y) : GoodD E Try.prog 26 [(.int .i64 c_0)] [] (enc_a21 y).1 (enc_a21 y).2 :=
  funU_good E_ok (pc_good (pc := pc_a21 fu) hpc0 hpx0) (fn := Try.f26) (c := body_a21) (out := out_a21) (y := y) (by kernel_rfl) (by kernel_rfl) (by kernel_rfl) (lpok_a21 fu) (by kernel_rfl) (Nat.le_of_ble_eq_true (by kernel_rfl)) (Fulls.get 0 (And.intro (Nat.le_refl _) trivial)) (fun d os hd => out_a21_enc d os _ hd) ((ev_a21 fu c_0).trans hy)
theorem good_a21 (fu : Nat) : ∀ xs ins o, S_a21 fu xs ins = some o → ∀ y, o.x = some y → GoodD E Try.prog 26 xs ins (o.g y).1 (o.g y).2 := by
  intro xs ins o h y hy
  unfold S_a21 at h
  split at h
  · rename_i a0_0
    cases h
    exact goodv_a21 fu a0_0 y hy
  · cases h

/-! spec.l7Copy -/
def F_spec_l7Copy_H (fu : Nat) (log_0 : (Sl S_impl_Entry)) : Option ((Sl S_impl_Entry)) :=
  (bif (decide (log_0.n ≤ 9223372036854775807) && decide (log_0.n * 72 ≤ 140737488355328)) then (some (⟨none, log_0.n, log_0.f⟩ : (Sl S_impl_Entry))) else none)
def pc_a22 (fu : Nat) : Pc RT den := ⟨pcf0, fun _ => false, fun _ => false, pcd0, pcd0, pcx0⟩
def msk_a22 (b : Nat) : List Nat := []
def lp_a22 (fu : Nat) : Lp RT den ((Sl S_impl_Entry)) := ⟨fun b s k => none, inl0⟩
theorem ev_a22 (fu : Nat) (log_0 : (Sl S_impl_Entry)) : evFunX E false (pc_a22 fu) msk_a22 (lp_a22 fu) out_sl_impl_Entry_H 73 [(.rs log_0.z .impl_Entry log_0.n log_0.f)] [] = F_spec_l7Copy_H fu log_0 := by kernel_rfl
noncomputable def body_a22 : Code := Try.f73.body.getD .skip
theorem lpok_a22 (fu : Nat) : LpOk E (pc_a22 fu) 0 msk_a22 (lp_a22 fu) (loops 0 body_a22) := lp_nil (loop_nil (by kernel_rfl)) (by kernel_rfl)
def S_a22 (fu : Nat) (xs : List (D RT den)) (ins : List (Ob RT den)) : Option (OutX RT den) := match xs, ins with | [.rs za0_0 .impl_Entry na0_0 fa0_0], [] => some ⟨(Sl S_impl_Entry), F_spec_l7Copy_H fu (⟨za0_0, na0_0, fa0_0⟩ : (Sl S_impl_Entry)), enc_sl_impl_Entry_H⟩ | _, _ => none
theorem goodv_a22 (fu : Nat) (log_0 : (Sl S_impl_Entry)) (y : (Sl S_impl_Entry)) (hy : F_spec_l7Copy_H fu log_0 = some y) : GoodX E Try.prog 73 [(.rs log_0.z .impl_Entry log_0.n log_0.f)] [] (enc_sl_impl_Entry_H y).1 (enc_sl_impl_Entry_H y).2 :=
  funX_good (ke := false) E_ok (pc_good (pc := pc_a22 fu) hpc0 hpx0) (fn := Try.f73) (c := body_a22) (out := out_sl_impl_Entry_H) (y := y) (by kernel_rfl) (by kernel_rfl) (by kernel_rfl) (lpok_a22 fu) (by kernel_rfl) (Nat.zero_le _) (fun d os hd => out_sl_impl_Entry_H_enc d os _ hd) ((ev_a22 fu log_0).trans hy)
theorem good_a22 (fu : Nat) : ∀ xs ins o, S_a22 fu xs ins = some o → ∀ y, o.x = some y → GoodX E Try.prog 73 xs ins (o.g y).1 (o.g y).2 := by
  intro xs ins o h y hy
  unfold S_a22 at h
  split at h
  · rename_i za0_0 na0_0 fa0_0
    cases h
    exact goodv_a22 fu (⟨za0_0, na0_0, fa0_0⟩ : (Sl S_impl_Entry)) y hy
  · cases h

/-! spec.l8Copy -/
def F_spec_l8Copy_H (fu : Nat) (n_0 : S_impl_Node) : Option (S_impl_Node) :=
  ((F_spec_l7Copy_H fu n_0.Log).bind fun y98 => (bif (decide (n_0.Votes.n ≤ 9223372036854775807) && decide (n_0.Votes.n * 8 ≤ 140737488355328)) then (bif (decide (n_0.Next.n ≤ 9223372036854775807) &&
    decide (n_0.Next.n * 8 ≤ 140737488355328)) then (bif (decide (n_0.Match.n ≤ 9223372036854775807) && decide (n_0.Match.n * 8 ≤ 140737488355328)) then (some (⟨n_0.Id, n_0.Peers,
    n_0.Term, n_0.Voted, (⟨none, y98.n, y98.f⟩ : (Sl S_impl_Entry)), n_0.Role, n_0.Commit, (⟨none, n_0.Votes.n, n_0.Votes.f⟩ : (Sl Int)), (⟨none, n_0.Next.n, n_0.Next.f⟩ : (Sl Int)),
    (⟨none, n_0.Match.n, n_0.Match.f⟩ : (Sl Int))⟩ : S_impl_Node)) else none) else none) else none))
def pcx_a23 (fu : Nat) (f : Nat) (xs : List (D RT den)) (ins : List (Ob RT den)) : Option (OutX RT den) := match f with | 73 => S_a22 fu xs ins | _ => none
def pcd_a23 : Nat → Bool := fun _ => false
def pc_a23 (fu : Nat) : Pc RT den := ⟨pcf0, fun f => match f with | 73 => true | _ => false, fun _ => false, pcd_a23, pcd0, pcx_a23 fu⟩
def msk_a23 (b : Nat) : List Nat := []
def lp_a23 (fu : Nat) : Lp RT den (S_impl_Node) := ⟨fun b s k => none, inl0⟩
theorem ev_a23 (fu : Nat) (n_0 : S_impl_Node) : evFunX E false (pc_a23 fu) msk_a23 (lp_a23 fu) out_impl_Node_H 27 [(.agg [(.int .i64 n_0.Id), (.int .i64 n_0.Peers), (.int .i64 n_0.Term), (.int .i64 n_0.Voted), (.rs n_0.Log.z .impl_Entry n_0.Log.n n_0.Log.f), (.int .i64 n_0.Role), (.int .i64 n_0.Commit), (.rs n_0.Votes.z .i64 n_0.Votes.n n_0.Votes.f), (.rs n_0.Next.z .i64 n_0.Next.n n_0.Next.f), (.rs n_0.Match.z .i64 n_0.Match.n n_0.Match.f)])] [] = F_spec_l8Copy_H fu n_0 := by kernel_rfl
noncomputable def body_a23 : Code := Try.f27.body.getD .skip
theorem lpok_a23 (fu : Nat) : LpOk E (pc_a23 fu) 0 msk_a23 (lp_a23 fu) (loops 0 body_a23) := lp_nil (loop_nil (by kernel_rfl)) (by kernel_rfl)
def S_a23 (fu : Nat) (xs : List (D RT den)) (ins : List (Ob RT den)) : Option (OutX RT den) := match xs, ins with | [.agg [.int .i64 a0_1, .int .i64 a0_2, .int .i64 a0_3, .int .i64 a0_4, .rs za0_5 .impl_Entry na0_5 fa0_5, .int .i64 a0_6, .int .i64 a0_7, .rs za0_8 .i64 na0_8 fa0_8, .rs za0_9 .i64 na0_9 fa0_9, .rs za0_10 .i64 na0_10 fa0_10]], [] => some ⟨S_impl_Node, F_spec_l8Copy_H fu (⟨a0_1, a0_2, a0_3, a0_4, (⟨za0_5, na0_5, fa0_5⟩ : (Sl S_impl_Entry)), a0_6, a0_7, (⟨za0_8, na0_8, fa0_8⟩ : (Sl Int)), (⟨za0_9, na0_9, fa0_9⟩ : (Sl Int)), (⟨za0_10, na0_10, fa0_10⟩ : (Sl Int))⟩ : S_impl_Node), enc_impl_Node_H⟩ | _, _ => none
theorem hpx_a23 (fu : Nat) : ∀ f xs ins o, pcx_a23 fu f xs ins = some o → ∀ y, o.x = some y → GoodXD E Try.prog (pcd_a23 f) f xs ins (o.g y).1 (o.g y).2 := by
  intro f xs ins o h
  unfold pcx_a23 at h
  split at h
  · exact good_a22 fu xs ins o h
  · cases h
theorem goodv_a23 (fu : Nat) (n_0 : S_impl_Node) (y : S_impl_Node) (hy : F_spec_l8Copy_H fu n_0 = some y) : GoodX E Try.prog 27 [(.agg [(.int .i64 n_0.Id), (.int .i64 n_0.Peers), (.int .i64 n_0.Term), (.int .i64 n_0.Voted), (.rs n_0.Log.z .impl_Entry n_0.Log.n n_0.Log.f), (.int .i64 n_0.Role), (.int .i64 n_0.Commit), (.rs n_0.Votes.z .i64 n_0.Votes.n n_0.Votes.f), (.rs n_0.Next.z .i64 n_0.Next.n n_0.Next.f), (.rs n_0.Match.z .i64 n_0.Match.n n_0.Match.f)])] [] (enc_impl_Node_H y).1 (enc_impl_Node_H y).2 :=
  funX_good (ke := false) E_ok (pc_good (pc := pc_a23 fu) hpc0 (hpx_a23 fu)) (fn := Try.f27) (c := body_a23) (out := out_impl_Node_H) (y := y) (by kernel_rfl) (by kernel_rfl) (by kernel_rfl) (lpok_a23 fu) (by kernel_rfl) (Nat.zero_le _) (fun d os hd => out_impl_Node_H_enc d os _ hd) ((ev_a23 fu n_0).trans hy)
theorem good_a23 (fu : Nat) : ∀ xs ins o, S_a23 fu xs ins = some o → ∀ y, o.x = some y → GoodX E Try.prog 27 xs ins (o.g y).1 (o.g y).2 := by
  intro xs ins o h y hy
  unfold S_a23 at h
  split at h
  · rename_i a0_1 a0_2 a0_3 a0_4 za0_5 na0_5 fa0_5 a0_6 a0_7 za0_8 na0_8 fa0_8 za0_9 na0_9 fa0_9 za0_10 na0_10 fa0_10
    cases h
    exact goodv_a23 fu (⟨a0_1, a0_2, a0_3, a0_4, (⟨za0_5, na0_5, fa0_5⟩ : (Sl S_impl_Entry)), a0_6, a0_7, (⟨za0_8, na0_8, fa0_8⟩ : (Sl Int)), (⟨za0_9, na0_9, fa0_9⟩ : (Sl Int)), (⟨za0_10, na0_10, fa0_10⟩ : (Sl Int))⟩ : S_impl_Node) y hy
  · cases h
end Go.Proofs.Ytjdgfkmiaikegaa.Pd
