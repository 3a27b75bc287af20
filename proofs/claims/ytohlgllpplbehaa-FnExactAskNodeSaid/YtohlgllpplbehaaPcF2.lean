/- The functions' evaluated forms, each a proved summary. Conditions: none. -/
import Derived.Test.YtohlgllpplbehaaPcF1
namespace Go.Proofs.Ytohlgllpplbehaa.Pc
open Go Go.RowKit Go.Proofs Vm
set_option linter.unusedVariables false
set_option linter.unusedSimpArgs false
set_option maxRecDepth 100000
/-! slices.Clone[[]int64,int64] -/
def F_slices_Clone_int64_int64_H_raw (fu : Nat) (s_0 : (Sl Int)) : Option ((Sl Int)) :=
  ((s_0.z).bind fun b130 => (bif b130 then (some (⟨(some true), 0, (fun _ => dflt .i64)⟩ : (Sl Int))) else (bif (decide (s_0.n ≤ 9223372036854775807) && decide (s_0.n * 8 ≤ 140737488355328)) then
    (some (⟨none, s_0.n, s_0.f⟩ : (Sl Int))) else none)))
def pcf_slices_Clone_int64_int64_H_raw (fu : Nat) (f : Nat) (xs : List (D RT den)) : Option (Out RT den) := none
def pcx_slices_Clone_int64_int64_H_raw (fu : Nat) (f : Nat) (xs : List (D RT den)) (ins : List (Ob RT den)) : Option (OutX RT den) := none
def pc_slices_Clone_int64_int64_H_raw (fu : Nat) : Pc RT den := ⟨pcf_slices_Clone_int64_int64_H_raw fu, fun _ => false, fun _ => false, pcx_slices_Clone_int64_int64_H_raw fu⟩
def msk_slices_Clone_int64_int64_H_raw (b : Nat) : List Nat := []
def lp_slices_Clone_int64_int64_H_raw (fu : Nat) : Lp RT den ((Sl Int)) := fun b s k => none
theorem ev_slices_Clone_int64_int64_H_raw (fu : Nat) (s_0 : (Sl Int)) : evFunX E false (pc_slices_Clone_int64_int64_H_raw fu) msk_slices_Clone_int64_int64_H_raw (lp_slices_Clone_int64_int64_H_raw fu) out_sl_i64_H 95 [(.rs s_0.z .i64 s_0.n s_0.f)] [] = F_slices_Clone_int64_int64_H_raw fu s_0 := by kernel_rfl
noncomputable def body_slices_Clone_int64_int64_H_raw : Code := Try.f95.body.getD .skip
theorem lpok_slices_Clone_int64_int64_H_raw (fu : Nat) : LpOk E (pc_slices_Clone_int64_int64_H_raw fu) msk_slices_Clone_int64_int64_H_raw (lp_slices_Clone_int64_int64_H_raw fu) (loops 0 body_slices_Clone_int64_int64_H_raw) := by
  have h : loops 0 body_slices_Clone_int64_int64_H_raw = [] := by kernel_rfl
  rw [h]; intro p hp; cases hp
def S_slices_Clone_int64_int64_H_raw (fu : Nat) (xs : List (D RT den)) (ins : List (Ob RT den)) : Option (OutX RT den) := match xs, ins with | [.rs za0_0 .i64 na0_0 fa0_0], [] => some ⟨(Sl Int), F_slices_Clone_int64_int64_H_raw fu (⟨za0_0, na0_0, fa0_0⟩ : (Sl Int)), enc_sl_i64_H⟩ | _, _ => none
theorem hpc_slices_Clone_int64_int64_H_raw (fu : Nat) : ∀ f xs o, pcf_slices_Clone_int64_int64_H_raw fu f xs = some o → ∀ y, o.x = some y → Good E Try.prog f xs (o.g y) := by
  intro f xs o h
  cases h
theorem hpx_slices_Clone_int64_int64_H_raw (fu : Nat) : ∀ f xs ins o, pcx_slices_Clone_int64_int64_H_raw fu f xs ins = some o → ∀ y, o.x = some y → GoodX E Try.prog f xs ins (o.g y).1 (o.g y).2 := by
  intro f xs ins o h
  cases h
theorem goodv_slices_Clone_int64_int64_H_raw (fu : Nat) (s_0 : (Sl Int)) (y : (Sl Int)) (hy : F_slices_Clone_int64_int64_H_raw fu s_0 = some y) : GoodX E Try.prog 95 [(.rs s_0.z .i64 s_0.n s_0.f)] [] (enc_sl_i64_H y).1 (enc_sl_i64_H y).2 :=
  funX_good (ke := false) E_ok (pc_good (pc := pc_slices_Clone_int64_int64_H_raw fu) (hpc_slices_Clone_int64_int64_H_raw fu) (hpx_slices_Clone_int64_int64_H_raw fu)) (fn := Try.f95) (c := body_slices_Clone_int64_int64_H_raw) (out := out_sl_i64_H) (y := y) (by kernel_rfl) (by kernel_rfl) (by kernel_rfl) (lpok_slices_Clone_int64_int64_H_raw fu) (by kernel_rfl) (Nat.zero_le _) (fun d os hd => out_sl_i64_H_enc d os _ hd) ((ev_slices_Clone_int64_int64_H_raw fu s_0).trans hy)
def F_slices_Clone_int64_int64_H (fu : Nat) (s_0 : (Sl Int)) : Option ((Sl Int)) := bif decide (s_0.n ≤ 9223372036854775807) && decide (s_0.n * 8 ≤ 140737488355328) then some ⟨none, s_0.n, s_0.f⟩ else none
def S_slices_Clone_int64_int64_H (fu : Nat) (xs : List (D RT den)) (ins : List (Ob RT den)) : Option (OutX RT den) := match xs, ins with | [.rs za0_0 .i64 na0_0 fa0_0], [] => some ⟨(Sl Int), F_slices_Clone_int64_int64_H fu (⟨za0_0, na0_0, fa0_0⟩ : (Sl Int)), enc_sl_i64_H⟩ | _, _ => none
theorem good_slices_Clone_int64_int64_H (fu : Nat) : ∀ xs ins o, S_slices_Clone_int64_int64_H fu xs ins = some o → ∀ y, o.x = some y → GoodX E Try.prog 95 xs ins (o.g y).1 (o.g y).2 := by
  intro xs ins o h y hy
  unfold S_slices_Clone_int64_int64_H at h
  split at h
  · rename_i za0_0 na0_0 fa0_0
    cases h
    have hy : F_slices_Clone_int64_int64_H fu ⟨za0_0, na0_0, fa0_0⟩ = some y := hy
    unfold F_slices_Clone_int64_int64_H at hy
    dsimp only at hy
    cases hc : (decide (na0_0 ≤ 9223372036854775807) && decide (na0_0 * 8 ≤ 140737488355328)) with
    | false => rw [hc] at hy; cases hy
    | true =>
      rw [hc] at hy
      have hy := Option.some.inj hy; subst hy
      refine GoodX.clone (d0 := fun _ => dflt .i64) (goodv_slices_Clone_int64_int64_H_raw fu ⟨some true, na0_0, fa0_0⟩ ⟨some true, 0, fun _ => dflt .i64⟩ rfl) (goodv_slices_Clone_int64_int64_H_raw fu ⟨some false, na0_0, fa0_0⟩ ⟨none, na0_0, fa0_0⟩ ?_) _
      unfold F_slices_Clone_int64_int64_H_raw
      simp only [Option.bind_some, cond_false, hc, cond_true]
  · cases h

/-! (impl.Node).copied -/
def F_impl_Node_copied_H (fu : Nat) (n_0 : S_impl_Node) : Option (S_impl_Node) :=
  ((F_slices_Clone_impl_Entry_impl_Entry_H fu n_0.Log).bind fun y134 => ((F_slices_Clone_int64_int64_H fu n_0.Votes).bind fun y135 => ((F_slices_Clone_int64_int64_H fu n_0.Next).bind fun y136 =>
    ((F_slices_Clone_int64_int64_H fu n_0.Match).bind fun y137 => (some (⟨n_0.Id, n_0.Peers, n_0.Term, n_0.Voted, (⟨none, y134.n, y134.f⟩ : (Sl S_impl_Entry)), n_0.Role, n_0.Commit,
    (⟨none, y135.n, y135.f⟩ : (Sl Int)), (⟨none, y136.n, y136.f⟩ : (Sl Int)), (⟨none, y137.n, y137.f⟩ : (Sl Int))⟩ : S_impl_Node))))))
def pcf_impl_Node_copied_H (fu : Nat) (f : Nat) (xs : List (D RT den)) : Option (Out RT den) := none
def pcx_impl_Node_copied_H (fu : Nat) (f : Nat) (xs : List (D RT den)) (ins : List (Ob RT den)) : Option (OutX RT den) := match f with | 47 => S_slices_Clone_impl_Entry_impl_Entry_H fu xs ins | 95 => S_slices_Clone_int64_int64_H fu xs ins | _ => none
def pc_impl_Node_copied_H (fu : Nat) : Pc RT den := ⟨pcf_impl_Node_copied_H fu, fun f => match f with | 47 => true | 95 => true | _ => false, fun _ => false, pcx_impl_Node_copied_H fu⟩
def msk_impl_Node_copied_H (b : Nat) : List Nat := []
def lp_impl_Node_copied_H (fu : Nat) : Lp RT den (S_impl_Node) := fun b s k => none
theorem ev_impl_Node_copied_H (fu : Nat) (n_0 : S_impl_Node) : evFunX E false (pc_impl_Node_copied_H fu) msk_impl_Node_copied_H (lp_impl_Node_copied_H fu) out_impl_Node_H 43 [(.agg [(.int .i64 n_0.Id), (.int .i64 n_0.Peers), (.int .i64 n_0.Term), (.int .i64 n_0.Voted), (.rs n_0.Log.z .impl_Entry n_0.Log.n n_0.Log.f), (.int .i64 n_0.Role), (.int .i64 n_0.Commit), (.rs n_0.Votes.z .i64 n_0.Votes.n n_0.Votes.f), (.rs n_0.Next.z .i64 n_0.Next.n n_0.Next.f), (.rs n_0.Match.z .i64 n_0.Match.n n_0.Match.f)])] [] = F_impl_Node_copied_H fu n_0 := by kernel_rfl
noncomputable def body_impl_Node_copied_H : Code := Try.f43.body.getD .skip
theorem lpok_impl_Node_copied_H (fu : Nat) : LpOk E (pc_impl_Node_copied_H fu) msk_impl_Node_copied_H (lp_impl_Node_copied_H fu) (loops 0 body_impl_Node_copied_H) := by
  have h : loops 0 body_impl_Node_copied_H = [] := by kernel_rfl
  rw [h]; intro p hp; cases hp
def S_impl_Node_copied_H (fu : Nat) (xs : List (D RT den)) (ins : List (Ob RT den)) : Option (OutX RT den) := match xs, ins with | [.agg [.int .i64 a0_1, .int .i64 a0_2, .int .i64 a0_3, .int .i64 a0_4, .rs za0_5 .impl_Entry na0_5 fa0_5, .int .i64 a0_6, .int .i64 a0_7, .rs za0_8 .i64 na0_8 fa0_8, .rs za0_9 .i64 na0_9 fa0_9, .rs za0_10 .i64 na0_10 fa0_10]], [] => some ⟨S_impl_Node, F_impl_Node_copied_H fu (⟨a0_1, a0_2, a0_3, a0_4, (⟨za0_5, na0_5, fa0_5⟩ : (Sl S_impl_Entry)), a0_6, a0_7, (⟨za0_8, na0_8, fa0_8⟩ : (Sl Int)), (⟨za0_9, na0_9, fa0_9⟩ : (Sl Int)), (⟨za0_10, na0_10, fa0_10⟩ : (Sl Int))⟩ : S_impl_Node), enc_impl_Node_H⟩ | _, _ => none
theorem hpc_impl_Node_copied_H (fu : Nat) : ∀ f xs o, pcf_impl_Node_copied_H fu f xs = some o → ∀ y, o.x = some y → Good E Try.prog f xs (o.g y) := by
  intro f xs o h
  cases h
theorem hpx_impl_Node_copied_H (fu : Nat) : ∀ f xs ins o, pcx_impl_Node_copied_H fu f xs ins = some o → ∀ y, o.x = some y → GoodX E Try.prog f xs ins (o.g y).1 (o.g y).2 := by
  intro f xs ins o h
  unfold pcx_impl_Node_copied_H at h
  split at h
  · exact good_slices_Clone_impl_Entry_impl_Entry_H fu xs ins o h
  · exact good_slices_Clone_int64_int64_H fu xs ins o h
  · cases h
theorem goodv_impl_Node_copied_H (fu : Nat) (n_0 : S_impl_Node) (y : S_impl_Node) (hy : F_impl_Node_copied_H fu n_0 = some y) : GoodX E Try.prog 43 [(.agg [(.int .i64 n_0.Id), (.int .i64 n_0.Peers), (.int .i64 n_0.Term), (.int .i64 n_0.Voted), (.rs n_0.Log.z .impl_Entry n_0.Log.n n_0.Log.f), (.int .i64 n_0.Role), (.int .i64 n_0.Commit), (.rs n_0.Votes.z .i64 n_0.Votes.n n_0.Votes.f), (.rs n_0.Next.z .i64 n_0.Next.n n_0.Next.f), (.rs n_0.Match.z .i64 n_0.Match.n n_0.Match.f)])] [] (enc_impl_Node_H y).1 (enc_impl_Node_H y).2 :=
  funX_good (ke := false) E_ok (pc_good (pc := pc_impl_Node_copied_H fu) (hpc_impl_Node_copied_H fu) (hpx_impl_Node_copied_H fu)) (fn := Try.f43) (c := body_impl_Node_copied_H) (out := out_impl_Node_H) (y := y) (by kernel_rfl) (by kernel_rfl) (by kernel_rfl) (lpok_impl_Node_copied_H fu) (by kernel_rfl) (Nat.zero_le _) (fun d os hd => out_impl_Node_H_enc d os _ hd) ((ev_impl_Node_copied_H fu n_0).trans hy)
theorem good_impl_Node_copied_H (fu : Nat) : ∀ xs ins o, S_impl_Node_copied_H fu xs ins = some o → ∀ y, o.x = some y → GoodX E Try.prog 43 xs ins (o.g y).1 (o.g y).2 := by
  intro xs ins o h y hy
  unfold S_impl_Node_copied_H at h
  split at h
  · rename_i a0_1 a0_2 a0_3 a0_4 za0_5 na0_5 fa0_5 a0_6 a0_7 za0_8 na0_8 fa0_8 za0_9 na0_9 fa0_9 za0_10 na0_10 fa0_10
    cases h
    exact goodv_impl_Node_copied_H fu (⟨a0_1, a0_2, a0_3, a0_4, (⟨za0_5, na0_5, fa0_5⟩ : (Sl S_impl_Entry)), a0_6, a0_7, (⟨za0_8, na0_8, fa0_8⟩ : (Sl Int)), (⟨za0_9, na0_9, fa0_9⟩ : (Sl Int)), (⟨za0_10, na0_10, fa0_10⟩ : (Sl Int))⟩ : S_impl_Node) y hy
  · cases h

/-! (*impl.Node).isQuorum -/
def F_impl_Node_isQuorum (fu : Nat) (n_0 : S_impl_Node) (many_1 : Int) : Option (Bool) :=
  (some (decide ((IntKind.wrap .i64 (2 * many_1)) > n_0.Peers)))
def pcf_impl_Node_isQuorum (fu : Nat) (f : Nat) (xs : List (D RT den)) : Option (Out RT den) := none
def pcx_impl_Node_isQuorum (fu : Nat) (f : Nat) (xs : List (D RT den)) (ins : List (Ob RT den)) : Option (OutX RT den) := none
def pc_impl_Node_isQuorum (fu : Nat) : Pc RT den := ⟨pcf_impl_Node_isQuorum fu, fun _ => false, fun _ => false, pcx_impl_Node_isQuorum fu⟩
def msk_impl_Node_isQuorum (b : Nat) : List Nat := []
def lp_impl_Node_isQuorum (fu : Nat) : Lp RT den (Bool) := fun b s k => none
theorem ev_impl_Node_isQuorum (fu : Nat) (n_0 : S_impl_Node) (many_1 : Int) : evFun E (pc_impl_Node_isQuorum fu) msk_impl_Node_isQuorum (lp_impl_Node_isQuorum fu) out_bo 66 [(.rptr [(.int .i64 n_0.Id), (.int .i64 n_0.Peers), (.int .i64 n_0.Term), (.int .i64 n_0.Voted), (.rs n_0.Log.z .impl_Entry n_0.Log.n n_0.Log.f), (.int .i64 n_0.Role), (.int .i64 n_0.Commit), (.rs n_0.Votes.z .i64 n_0.Votes.n n_0.Votes.f), (.rs n_0.Next.z .i64 n_0.Next.n n_0.Next.f), (.rs n_0.Match.z .i64 n_0.Match.n n_0.Match.f)]), (.int .i64 many_1)] = F_impl_Node_isQuorum fu n_0 many_1 := by kernel_rfl
noncomputable def body_impl_Node_isQuorum : Code := Try.f66.body.getD .skip
theorem lpok_impl_Node_isQuorum (fu : Nat) : LpOk E (pc_impl_Node_isQuorum fu) msk_impl_Node_isQuorum (lp_impl_Node_isQuorum fu) (loops 0 body_impl_Node_isQuorum) := by
  have h : loops 0 body_impl_Node_isQuorum = [] := by kernel_rfl
  rw [h]; intro p hp; cases hp
def S_impl_Node_isQuorum (fu : Nat) (xs : List (D RT den)) : Option (Out RT den) := match xs with | [.rptr (.int .i64 a0_1 :: .int .i64 a0_2 :: .int .i64 a0_3 :: .int .i64 a0_4 :: .rs za0_5 .impl_Entry na0_5 fa0_5 :: .int .i64 a0_6 :: .int .i64 a0_7 :: .rs za0_8 .i64 na0_8 fa0_8 :: .rs za0_9 .i64 na0_9 fa0_9 :: .rs za0_10 .i64 na0_10 fa0_10 :: ra0), .int .i64 a1_0] => some ⟨Bool, F_impl_Node_isQuorum fu (⟨a0_1, a0_2, a0_3, a0_4, (⟨za0_5, na0_5, fa0_5⟩ : (Sl S_impl_Entry)), a0_6, a0_7, (⟨za0_8, na0_8, fa0_8⟩ : (Sl Int)), (⟨za0_9, na0_9, fa0_9⟩ : (Sl Int)), (⟨za0_10, na0_10, fa0_10⟩ : (Sl Int))⟩ : S_impl_Node) a1_0, enc_bo, fun _ => true⟩ | _ => none
theorem hpc_impl_Node_isQuorum (fu : Nat) : ∀ f xs o, pcf_impl_Node_isQuorum fu f xs = some o → ∀ y, o.x = some y → Good E Try.prog f xs (o.g y) := by
  intro f xs o h
  cases h
theorem hpx_impl_Node_isQuorum (fu : Nat) : ∀ f xs ins o, pcx_impl_Node_isQuorum fu f xs ins = some o → ∀ y, o.x = some y → GoodX E Try.prog f xs ins (o.g y).1 (o.g y).2 := by
  intro f xs ins o h
  cases h
theorem goodv_impl_Node_isQuorum (fu : Nat) (n_0 : S_impl_Node) (many_1 : Int) (y : Bool) (hy : F_impl_Node_isQuorum fu n_0 many_1 = some y) : Good E Try.prog 66 [(.rptr [(.int .i64 n_0.Id), (.int .i64 n_0.Peers), (.int .i64 n_0.Term), (.int .i64 n_0.Voted), (.rs n_0.Log.z .impl_Entry n_0.Log.n n_0.Log.f), (.int .i64 n_0.Role), (.int .i64 n_0.Commit), (.rs n_0.Votes.z .i64 n_0.Votes.n n_0.Votes.f), (.rs n_0.Next.z .i64 n_0.Next.n n_0.Next.f), (.rs n_0.Match.z .i64 n_0.Match.n n_0.Match.f)]), (.int .i64 many_1)] (enc_bo y) :=
  fun_good E_ok (pc_good (pc := pc_impl_Node_isQuorum fu) (hpc_impl_Node_isQuorum fu) (hpx_impl_Node_isQuorum fu)) (fn := Try.f66) (c := body_impl_Node_isQuorum) (out := out_bo) (y := y) (by kernel_rfl) (by kernel_rfl) (by kernel_rfl) (lpok_impl_Node_isQuorum fu) (fun d hd => out_bo_enc d _ hd) ((ev_impl_Node_isQuorum fu n_0 many_1).trans hy)
theorem good_impl_Node_isQuorum (fu : Nat) : ∀ xs o, S_impl_Node_isQuorum fu xs = some o → ∀ y, o.x = some y → Good E Try.prog 66 xs (o.g y) := by
  intro xs o h y hy
  unfold S_impl_Node_isQuorum at h
  split at h
  · rename_i a0_1 a0_2 a0_3 a0_4 za0_5 na0_5 fa0_5 a0_6 a0_7 za0_8 na0_8 fa0_8 za0_9 na0_9 fa0_9 za0_10 na0_10 fa0_10 ra0 a1_0
    cases h
    exact (goodv_impl_Node_isQuorum fu (⟨a0_1, a0_2, a0_3, a0_4, (⟨za0_5, na0_5, fa0_5⟩ : (Sl S_impl_Entry)), a0_6, a0_7, (⟨za0_8, na0_8, fa0_8⟩ : (Sl Int)), (⟨za0_9, na0_9, fa0_9⟩ : (Sl Int)), (⟨za0_10, na0_10, fa0_10⟩ : (Sl Int))⟩ : S_impl_Node) a1_0 y hy).sub ⟨Sub.of_eq ra0 rfl, .refl _, trivial⟩
  · cases h

/-! impl.size[impl.Entry] -/
def F_impl_size_impl_Entry (fu : Nat) (list_0 : (Sl S_impl_Entry)) : Option (Int) :=
  (some ((list_0.n : Nat) : Int))
def pcf_impl_size_impl_Entry (fu : Nat) (f : Nat) (xs : List (D RT den)) : Option (Out RT den) := none
def pcx_impl_size_impl_Entry (fu : Nat) (f : Nat) (xs : List (D RT den)) (ins : List (Ob RT den)) : Option (OutX RT den) := none
def pc_impl_size_impl_Entry (fu : Nat) : Pc RT den := ⟨pcf_impl_size_impl_Entry fu, fun _ => false, fun _ => false, pcx_impl_size_impl_Entry fu⟩
def msk_impl_size_impl_Entry (b : Nat) : List Nat := []
def lp_impl_size_impl_Entry (fu : Nat) : Lp RT den (Int) := fun b s k => none
theorem ev_impl_size_impl_Entry (fu : Nat) (list_0 : (Sl S_impl_Entry)) : evFun E (pc_impl_size_impl_Entry fu) msk_impl_size_impl_Entry (lp_impl_size_impl_Entry fu) out_i64 48 [(.rs list_0.z .impl_Entry list_0.n list_0.f)] = F_impl_size_impl_Entry fu list_0 := by kernel_rfl
noncomputable def body_impl_size_impl_Entry : Code := Try.f48.body.getD .skip
theorem lpok_impl_size_impl_Entry (fu : Nat) : LpOk E (pc_impl_size_impl_Entry fu) msk_impl_size_impl_Entry (lp_impl_size_impl_Entry fu) (loops 0 body_impl_size_impl_Entry) := by
  have h : loops 0 body_impl_size_impl_Entry = [] := by kernel_rfl
  rw [h]; intro p hp; cases hp
def S_impl_size_impl_Entry (fu : Nat) (xs : List (D RT den)) : Option (Out RT den) := match xs with | [.rs za0_0 .impl_Entry na0_0 fa0_0] => some ⟨Int, F_impl_size_impl_Entry fu (⟨za0_0, na0_0, fa0_0⟩ : (Sl S_impl_Entry)), enc_i64, fun _ => true⟩ | _ => none
theorem hpc_impl_size_impl_Entry (fu : Nat) : ∀ f xs o, pcf_impl_size_impl_Entry fu f xs = some o → ∀ y, o.x = some y → Good E Try.prog f xs (o.g y) := by
  intro f xs o h
  cases h
theorem hpx_impl_size_impl_Entry (fu : Nat) : ∀ f xs ins o, pcx_impl_size_impl_Entry fu f xs ins = some o → ∀ y, o.x = some y → GoodX E Try.prog f xs ins (o.g y).1 (o.g y).2 := by
  intro f xs ins o h
  cases h
theorem goodv_impl_size_impl_Entry (fu : Nat) (list_0 : (Sl S_impl_Entry)) (y : Int) (hy : F_impl_size_impl_Entry fu list_0 = some y) : Good E Try.prog 48 [(.rs list_0.z .impl_Entry list_0.n list_0.f)] (enc_i64 y) :=
  fun_good E_ok (pc_good (pc := pc_impl_size_impl_Entry fu) (hpc_impl_size_impl_Entry fu) (hpx_impl_size_impl_Entry fu)) (fn := Try.f48) (c := body_impl_size_impl_Entry) (out := out_i64) (y := y) (by kernel_rfl) (by kernel_rfl) (by kernel_rfl) (lpok_impl_size_impl_Entry fu) (fun d hd => out_i64_enc d _ hd) ((ev_impl_size_impl_Entry fu list_0).trans hy)
theorem good_impl_size_impl_Entry (fu : Nat) : ∀ xs o, S_impl_size_impl_Entry fu xs = some o → ∀ y, o.x = some y → Good E Try.prog 48 xs (o.g y) := by
  intro xs o h y hy
  unfold S_impl_size_impl_Entry at h
  split at h
  · rename_i za0_0 na0_0 fa0_0
    cases h
    exact goodv_impl_size_impl_Entry fu (⟨za0_0, na0_0, fa0_0⟩ : (Sl S_impl_Entry)) y hy
  · cases h

/-! (*impl.Node).agree -/
def F_impl_Node_agree_M_B2 {ρ : Type} (fu : Nat) (index2_0 : Int) (t22_2 : Nat) (t23_3 : Int) (o0_5 : Int) (o0_6 : Int) (o0_7 : Int) (o0_8 : Int) (o0_9 : Nat) (o0_10 : Int) (o0_11 : Int) (o0_12 : Nat) (o0_13 : Nat) (o0_14 : Nat) (on1_15 : Nat) (of1_16 : (Nat → S_impl_Entry)) (on2_17 : Nat) (of2_18 : (Nat → Int)) (on3_19 : Nat) (of3_20 : (Nat → Int)) (on4_21 : Nat) (of4_22 : (Nat → Int)) (k0 : Int → Option ρ) (many3_1 : Int) (t24_4 : Int) (go : Int → Int → Option ρ) : Option ρ :=
  (bif (decide (t24_4 < t23_3)) then ((bif (decide (0 ≤ t24_4) && decide ((Int.toNat t24_4) < t22_2)) then some () else none : Option Unit).bind fun _ => (bif (decide ((of4_22 (Int.toNat t24_4)) ≥ index2_0)) then
    (go (IntKind.wrap .i64 (many3_1 + 1)) (IntKind.wrap .i64 (t24_4 + 1))) else (go many3_1 (IntKind.wrap .i64 (t24_4 + 1))))) else (k0 many3_1))
def F_impl_Node_agree_M_B0 {ρ : Type} (fu : Nat) (o0_1 : Int) (o0_2 : Int) (o0_3 : Int) (o0_4 : Int) (o0_5 : Nat) (o0_6 : Int) (o0_7 : Int) (o0_8 : Nat) (o0_9 : Nat) (o0_10 : Nat) (on1_11 : Nat) (of1_12 : (Nat → S_impl_Entry)) (on2_13 : Nat) (of2_14 : (Nat → Int)) (on3_15 : Nat) (of3_16 : (Nat → Int)) (on4_17 : Nat) (of4_18 : (Nat → Int)) (k0 : Int → Option ρ) (k1 : Option ρ) (index2_0 : Int) (go : Int → Option ρ) : Option ρ :=
  (bif (decide (index2_0 > o0_7)) then (L (fun w2 go2 => F_impl_Node_agree_M_B2 fu index2_0 o0_10 ((o0_10 : Nat) : Int) o0_1 o0_2 o0_3 o0_4 o0_5 o0_6 o0_7 o0_8 o0_9 o0_10 on1_11 of1_12 on2_13 of2_14 on3_15 of3_16 on4_17 of4_18 (fun z151 =>
    ((((F_impl_Node_isQuorum fu (⟨o0_1, o0_2, o0_3, o0_4, (⟨none, o0_5, of1_12⟩ : (Sl S_impl_Entry)), o0_6, o0_7, (⟨none, o0_8, of2_14⟩ : (Sl Int)), (⟨none, o0_9, of3_16⟩ : (Sl Int)),
    (⟨none, o0_10, of4_18⟩ : (Sl Int))⟩ : S_impl_Node) z151).bind fun y152 => (bif y152 then ((bif (decide (0 ≤ (IntKind.wrap .i64 (index2_0 - 1))) && decide ((Int.toNat (IntKind.wrap .i64 (index2_0 - 1))) < o0_5)) then
    some () else none : Option Unit).bind fun _ => (some ((of1_12 (Int.toNat (IntKind.wrap .i64 (index2_0 - 1)))).Term == o0_3))) else (some false))) : Option Bool).bind fun m153 =>
    (bif m153 then (k0 index2_0) else (go (IntKind.wrap .i64 (index2_0 - 1)))))) w2.1 w2.2 (fun q0 q1 => go2 (q0, q1))) fu ((0, 0) : Int × Int)) else k1)
def F_impl_Node_agree_M (fu : Nat) (b0_0 : Int) (b0_1 : Int) (b0_2 : Int) (b0_3 : Int) (b0_4 : Nat) (b0_5 : Int) (b0_6 : Int) (b0_7 : Nat) (b0_8 : Nat) (b0_9 : Nat) (rn1 : Nat) (rf1 : (Nat → S_impl_Entry)) (rn2 : Nat) (rf2 : (Nat → Int)) (rn3 : Nat) (rf3 : (Nat → Int)) (rn4 : Nat) (rf4 : (Nat → Int)) : Option (Int × Int × Int × Int × Nat × Int × Int × Nat × Nat × Nat × Nat × (Nat → S_impl_Entry) × Nat × (Nat → Int) × Nat × (Nat → Int) × Nat × (Nat → Int)) :=
  ((F_impl_size_impl_Entry fu (⟨none, b0_4, rf1⟩ : (Sl S_impl_Entry))).bind fun y150 => (L (fun w0 go0 => F_impl_Node_agree_M_B0 fu b0_0 b0_1 b0_2 b0_3 b0_4 b0_5 b0_6 b0_7 b0_8 b0_9 rn1 rf1 rn2 rf2 rn3 rf3 rn4 rf4 (fun z154 =>
    (some (b0_0, b0_1, b0_2, b0_3, b0_4, b0_5, z154, b0_7, b0_8, b0_9, rn1, rf1, rn2, rf2, rn3, rf3, rn4, rf4))) (some (b0_0, b0_1, b0_2, b0_3, b0_4, b0_5, b0_6, b0_7, b0_8, b0_9,
    rn1, rf1, rn2, rf2, rn3, rf3, rn4, rf4)) w0 go0) fu (y150 : Int)))
def pcf_impl_Node_agree_M (fu : Nat) (f : Nat) (xs : List (D RT den)) : Option (Out RT den) := match f with | 48 => S_impl_size_impl_Entry fu xs | 66 => S_impl_Node_isQuorum fu xs | _ => none
def pcx_impl_Node_agree_M (fu : Nat) (f : Nat) (xs : List (D RT den)) (ins : List (Ob RT den)) : Option (OutX RT den) := none
def pc_impl_Node_agree_M (fu : Nat) : Pc RT den := ⟨pcf_impl_Node_agree_M fu, fun _ => false, fun _ => false, pcx_impl_Node_agree_M fu⟩
def msk_impl_Node_agree_M (b : Nat) : List Nat := match b with | 0 => [1, 3, 4, 5, 6, 7, 8, 9, 10, 11, 12, 13, 14, 15, 16, 17, 18, 19, 20, 21, 22, 23, 24, 25, 26, 27, 28, 29, 30, 31, 32, 33, 34, 35, 36, 37, 38, 39, 40, 41, 42, 43, 44, 45, 46, 47, 48, 49, 50, 51, 52, 53, 54, 55, 56] | 100000 => [0, 1, 2, 3, 4, 5, 6, 7, 8, 9, 10, 11, 12, 13, 14, 15, 16, 17, 18, 19, 20, 21, 22, 23, 24, 25, 26, 27, 28, 29, 30, 31, 32, 33, 34, 35, 36, 37, 38, 39, 40, 41, 42, 43, 44, 45, 46, 47, 48, 49, 50, 51, 52, 53, 54, 55, 56] | 2 => [1, 4, 5, 6, 7, 8, 9, 10, 11, 12, 13, 14, 15, 16, 17, 18, 19, 20, 21, 25, 26, 27, 28, 29, 30, 31, 32, 33, 34, 35, 36, 37, 38, 39, 40, 41, 42, 43, 44, 45, 46, 47, 48, 49, 50, 51, 52, 53, 54, 55, 56] | 100002 => [1, 4, 5, 6, 7, 8, 9, 10, 11, 12, 13, 14, 15, 16, 17, 18, 19, 20, 21, 22, 23, 24, 25, 26, 27, 28, 29, 30, 31, 32, 33, 34, 35, 36, 37, 38, 39, 40, 41, 42, 43, 44, 45, 46, 47, 48, 49, 50, 51, 52, 53, 54, 55, 56] | 200010 => [52] | _ => []
def ps_impl_Node_agree_M_2 : List (Pat RT) := [.flat (.ref 0 0), .flat .dead, .flat (.int .i64), .flat (.int .i64), .flat .dead, .flat .dead, .flat .dead, .flat .dead, .flat .dead, .flat .dead, .flat .dead, .flat .dead, .flat .dead, .flat .dead, .flat .dead, .flat .dead, .flat .dead, .flat .dead, .flat .dead, .flat .dead, .flat .dead, .flat .dead, .flat (.os 4), .flat (.int .i64), .flat (.int .i64), .flat .dead, .flat .dead, .flat .dead, .flat .dead, .flat .dead, .flat .dead, .flat .dead, .flat .dead, .flat .dead, .flat .dead, .flat .dead, .flat .dead, .flat .dead, .flat .dead, .flat .dead, .flat .dead, .flat .dead, .flat .dead, .flat .dead, .flat .dead, .flat .dead, .flat .dead, .flat .dead, .flat .dead, .flat .dead, .flat .dead, .flat .dead, .flat .dead, .flat .dead, .flat .dead, .flat .dead, .flat .dead]
def os_impl_Node_agree_M_2 : List (OP RT) := [.box true [(.int .i64), (.int .i64), (.int .i64), (.int .i64), (.os 1), (.int .i64), (.int .i64), (.os 2), (.os 3), (.os 4)], .row true .impl_Entry, .row true .i64, .row true .i64, .row true .i64]
def conv_impl_Node_agree_M_2 (r : Raw den ps_impl_Node_agree_M_2 os_impl_Node_agree_M_2) : (Int × Nat × Int × Int × Int × Int × Int × Nat × Int × Int × Nat × Nat × Nat × Nat × (Nat → S_impl_Entry) × Nat × (Nat → Int) × Nat × (Nat → Int) × Nat × (Nat → Int)) × (Int × Int) := ((r.1.2.2.1, r.1.2.2.2.2.2.2.2.2.2.2.2.2.2.2.2.2.2.2.2.2.2.2.1, r.1.2.2.2.2.2.2.2.2.2.2.2.2.2.2.2.2.2.2.2.2.2.2.2.1, r.2.1.1, r.2.1.2.1, r.2.1.2.2.1, r.2.1.2.2.2.1, r.2.1.2.2.2.2.1, r.2.1.2.2.2.2.2.1, r.2.1.2.2.2.2.2.2.1, r.2.1.2.2.2.2.2.2.2.1, r.2.1.2.2.2.2.2.2.2.2.1, r.2.1.2.2.2.2.2.2.2.2.2.1, r.2.2.1.1, r.2.2.1.2, r.2.2.2.1.1, r.2.2.2.1.2, r.2.2.2.2.1.1, r.2.2.2.2.1.2, r.2.2.2.2.2.1.1, r.2.2.2.2.2.1.2), (r.1.2.2.2.1, r.1.2.2.2.2.2.2.2.2.2.2.2.2.2.2.2.2.2.2.2.2.2.2.2.2.1))
def back_impl_Node_agree_M_2 (c : Int × Nat × Int × Int × Int × Int × Int × Nat × Int × Int × Nat × Nat × Nat × Nat × (Nat → S_impl_Entry) × Nat × (Nat → Int) × Nat × (Nat → Int) × Nat × (Nat → Int)) (w : Int × Int) : St RT den := ⟨[(.ref 0 0), .dead, (.int .i64 c.1), (.int .i64 w.1), .dead, .dead, .dead, .dead, .dead, .dead, .dead, .dead, .dead, .dead, .dead, .dead, .dead, .dead, .dead, .dead, .dead, .dead, (.os 4 c.2.1), (.int .i64 c.2.2.1), (.int .i64 w.2), .dead, .dead, .dead, .dead, .dead, .dead, .dead, .dead, .dead, .dead, .dead, .dead, .dead, .dead, .dead, .dead, .dead, .dead, .dead, .dead, .dead, .dead, .dead, .dead, .dead, .dead, .dead, .dead, .dead, .dead, .dead, .dead], [(.box true [(.int .i64 c.2.2.2.1), (.int .i64 c.2.2.2.2.1), (.int .i64 c.2.2.2.2.2.1), (.int .i64 c.2.2.2.2.2.2.1), (.os 1 c.2.2.2.2.2.2.2.1), (.int .i64 c.2.2.2.2.2.2.2.2.1), (.int .i64 c.2.2.2.2.2.2.2.2.2.1), (.os 2 c.2.2.2.2.2.2.2.2.2.2.1), (.os 3 c.2.2.2.2.2.2.2.2.2.2.2.1), (.os 4 c.2.2.2.2.2.2.2.2.2.2.2.2.1)]), (.row true .impl_Entry c.2.2.2.2.2.2.2.2.2.2.2.2.2.1 c.2.2.2.2.2.2.2.2.2.2.2.2.2.2.1), (.row true .i64 c.2.2.2.2.2.2.2.2.2.2.2.2.2.2.2.1 c.2.2.2.2.2.2.2.2.2.2.2.2.2.2.2.2.1), (.row true .i64 c.2.2.2.2.2.2.2.2.2.2.2.2.2.2.2.2.2.1 c.2.2.2.2.2.2.2.2.2.2.2.2.2.2.2.2.2.2.1), (.row true .i64 c.2.2.2.2.2.2.2.2.2.2.2.2.2.2.2.2.2.2.2.1 c.2.2.2.2.2.2.2.2.2.2.2.2.2.2.2.2.2.2.2.2)]⟩
def Bk_impl_Node_agree_M_2 {ρ : Type} (fu : Nat) (c : Int × Nat × Int × Int × Int × Int × Int × Nat × Int × Int × Nat × Nat × Nat × Nat × (Nat → S_impl_Entry) × Nat × (Nat → Int) × Nat × (Nat → Int) × Nat × (Nat → Int)) (k : Ex → St RT den → Option ρ) (w : Int × Int) (go : (Int × Int) → Option ρ) : Option ρ := F_impl_Node_agree_M_B2 fu c.1 c.2.1 c.2.2.1 c.2.2.2.1 c.2.2.2.2.1 c.2.2.2.2.2.1 c.2.2.2.2.2.2.1 c.2.2.2.2.2.2.2.1 c.2.2.2.2.2.2.2.2.1 c.2.2.2.2.2.2.2.2.2.1 c.2.2.2.2.2.2.2.2.2.2.1 c.2.2.2.2.2.2.2.2.2.2.2.1 c.2.2.2.2.2.2.2.2.2.2.2.2.1 c.2.2.2.2.2.2.2.2.2.2.2.2.2.1 c.2.2.2.2.2.2.2.2.2.2.2.2.2.2.1 c.2.2.2.2.2.2.2.2.2.2.2.2.2.2.2.1 c.2.2.2.2.2.2.2.2.2.2.2.2.2.2.2.2.1 c.2.2.2.2.2.2.2.2.2.2.2.2.2.2.2.2.2.1 c.2.2.2.2.2.2.2.2.2.2.2.2.2.2.2.2.2.2.1 c.2.2.2.2.2.2.2.2.2.2.2.2.2.2.2.2.2.2.2.1 c.2.2.2.2.2.2.2.2.2.2.2.2.2.2.2.2.2.2.2.2 (fun a0 => k (.exit 2) ⟨[(.ref 0 0), .dead, (.int .i64 c.1), (.int .i64 a0), .dead, .dead, .dead, .dead, .dead, .dead, .dead, .dead, .dead, .dead, .dead, .dead, .dead, .dead, .dead, .dead, .dead, .dead, .dead, .dead, .dead, .dead, .dead, .dead, .dead, .dead, .dead, .dead, .dead, .dead, .dead, .dead, .dead, .dead, .dead, .dead, .dead, .dead, .dead, .dead, .dead, .dead, .dead, .dead, .dead, .dead, .dead, .dead, .dead, .dead, .dead, .dead, .dead], [(.box true [(.int .i64 c.2.2.2.1), (.int .i64 c.2.2.2.2.1), (.int .i64 c.2.2.2.2.2.1), (.int .i64 c.2.2.2.2.2.2.1), (.os 1 c.2.2.2.2.2.2.2.1), (.int .i64 c.2.2.2.2.2.2.2.2.1), (.int .i64 c.2.2.2.2.2.2.2.2.2.1), (.os 2 c.2.2.2.2.2.2.2.2.2.2.1), (.os 3 c.2.2.2.2.2.2.2.2.2.2.2.1), (.os 4 c.2.2.2.2.2.2.2.2.2.2.2.2.1)]), (.row true .impl_Entry c.2.2.2.2.2.2.2.2.2.2.2.2.2.1 c.2.2.2.2.2.2.2.2.2.2.2.2.2.2.1), (.row true .i64 c.2.2.2.2.2.2.2.2.2.2.2.2.2.2.2.1 c.2.2.2.2.2.2.2.2.2.2.2.2.2.2.2.2.1), (.row true .i64 c.2.2.2.2.2.2.2.2.2.2.2.2.2.2.2.2.2.1 c.2.2.2.2.2.2.2.2.2.2.2.2.2.2.2.2.2.2.1), (.row true .i64 c.2.2.2.2.2.2.2.2.2.2.2.2.2.2.2.2.2.2.2.1 c.2.2.2.2.2.2.2.2.2.2.2.2.2.2.2.2.2.2.2.2)]⟩) w.1 w.2 (fun q0 q1 => go (q0, q1))
def ps_impl_Node_agree_M_0 : List (Pat RT) := [.flat (.ref 0 0), .flat .dead, .flat (.int .i64), .flat .dead, .flat .dead, .flat .dead, .flat .dead, .flat .dead, .flat .dead, .flat .dead, .flat .dead, .flat .dead, .flat .dead, .flat .dead, .flat .dead, .flat .dead, .flat .dead, .flat .dead, .flat .dead, .flat .dead, .flat .dead, .flat .dead, .flat .dead, .flat .dead, .flat .dead, .flat .dead, .flat .dead, .flat .dead, .flat .dead, .flat .dead, .flat .dead, .flat .dead, .flat .dead, .flat .dead, .flat .dead, .flat .dead, .flat .dead, .flat .dead, .flat .dead, .flat .dead, .flat .dead, .flat .dead, .flat .dead, .flat .dead, .flat .dead, .flat .dead, .flat .dead, .flat .dead, .flat .dead, .flat .dead, .flat .dead, .flat .dead, .flat .dead, .flat .dead, .flat .dead, .flat .dead, .flat .dead]
def os_impl_Node_agree_M_0 : List (OP RT) := [.box true [(.int .i64), (.int .i64), (.int .i64), (.int .i64), (.os 1), (.int .i64), (.int .i64), (.os 2), (.os 3), (.os 4)], .row true .impl_Entry, .row true .i64, .row true .i64, .row true .i64]
def conv_impl_Node_agree_M_0 (r : Raw den ps_impl_Node_agree_M_0 os_impl_Node_agree_M_0) : (Int × Int × Int × Int × Nat × Int × Int × Nat × Nat × Nat × Nat × (Nat → S_impl_Entry) × Nat × (Nat → Int) × Nat × (Nat → Int) × Nat × (Nat → Int)) × (Int) := ((r.2.1.1, r.2.1.2.1, r.2.1.2.2.1, r.2.1.2.2.2.1, r.2.1.2.2.2.2.1, r.2.1.2.2.2.2.2.1, r.2.1.2.2.2.2.2.2.1, r.2.1.2.2.2.2.2.2.2.1, r.2.1.2.2.2.2.2.2.2.2.1, r.2.1.2.2.2.2.2.2.2.2.2.1, r.2.2.1.1, r.2.2.1.2, r.2.2.2.1.1, r.2.2.2.1.2, r.2.2.2.2.1.1, r.2.2.2.2.1.2, r.2.2.2.2.2.1.1, r.2.2.2.2.2.1.2), r.1.2.2.1)
def back_impl_Node_agree_M_0 (c : Int × Int × Int × Int × Nat × Int × Int × Nat × Nat × Nat × Nat × (Nat → S_impl_Entry) × Nat × (Nat → Int) × Nat × (Nat → Int) × Nat × (Nat → Int)) (w : Int) : St RT den := ⟨[(.ref 0 0), .dead, (.int .i64 w), .dead, .dead, .dead, .dead, .dead, .dead, .dead, .dead, .dead, .dead, .dead, .dead, .dead, .dead, .dead, .dead, .dead, .dead, .dead, .dead, .dead, .dead, .dead, .dead, .dead, .dead, .dead, .dead, .dead, .dead, .dead, .dead, .dead, .dead, .dead, .dead, .dead, .dead, .dead, .dead, .dead, .dead, .dead, .dead, .dead, .dead, .dead, .dead, .dead, .dead, .dead, .dead, .dead, .dead], [(.box true [(.int .i64 c.1), (.int .i64 c.2.1), (.int .i64 c.2.2.1), (.int .i64 c.2.2.2.1), (.os 1 c.2.2.2.2.1), (.int .i64 c.2.2.2.2.2.1), (.int .i64 c.2.2.2.2.2.2.1), (.os 2 c.2.2.2.2.2.2.2.1), (.os 3 c.2.2.2.2.2.2.2.2.1), (.os 4 c.2.2.2.2.2.2.2.2.2.1)]), (.row true .impl_Entry c.2.2.2.2.2.2.2.2.2.2.1 c.2.2.2.2.2.2.2.2.2.2.2.1), (.row true .i64 c.2.2.2.2.2.2.2.2.2.2.2.2.1 c.2.2.2.2.2.2.2.2.2.2.2.2.2.1), (.row true .i64 c.2.2.2.2.2.2.2.2.2.2.2.2.2.2.1 c.2.2.2.2.2.2.2.2.2.2.2.2.2.2.2.1), (.row true .i64 c.2.2.2.2.2.2.2.2.2.2.2.2.2.2.2.2.1 c.2.2.2.2.2.2.2.2.2.2.2.2.2.2.2.2.2)]⟩
def Bk_impl_Node_agree_M_0 {ρ : Type} (fu : Nat) (c : Int × Int × Int × Int × Nat × Int × Int × Nat × Nat × Nat × Nat × (Nat → S_impl_Entry) × Nat × (Nat → Int) × Nat × (Nat → Int) × Nat × (Nat → Int)) (k : Ex → St RT den → Option ρ) (w : Int) (go : (Int) → Option ρ) : Option ρ := F_impl_Node_agree_M_B0 fu c.1 c.2.1 c.2.2.1 c.2.2.2.1 c.2.2.2.2.1 c.2.2.2.2.2.1 c.2.2.2.2.2.2.1 c.2.2.2.2.2.2.2.1 c.2.2.2.2.2.2.2.2.1 c.2.2.2.2.2.2.2.2.2.1 c.2.2.2.2.2.2.2.2.2.2.1 c.2.2.2.2.2.2.2.2.2.2.2.1 c.2.2.2.2.2.2.2.2.2.2.2.2.1 c.2.2.2.2.2.2.2.2.2.2.2.2.2.1 c.2.2.2.2.2.2.2.2.2.2.2.2.2.2.1 c.2.2.2.2.2.2.2.2.2.2.2.2.2.2.2.1 c.2.2.2.2.2.2.2.2.2.2.2.2.2.2.2.2.1 c.2.2.2.2.2.2.2.2.2.2.2.2.2.2.2.2.2 (fun a0 => k .ret ⟨[.dead, .dead, .dead, .dead, .dead, .dead, .dead, .dead, .dead, .dead, .dead, .dead, .dead, .dead, .dead, .dead, .dead, .dead, .dead, .dead, .dead, .dead, .dead, .dead, .dead, .dead, .dead, .dead, .dead, .dead, .dead, .dead, .dead, .dead, .dead, .dead, .dead, .dead, .dead, .dead, .dead, .dead, .dead, .dead, .dead, .dead, .dead, .dead, .dead, .dead, .dead, .dead, .dead, .dead, .dead, .dead, .dead], [(.box true [(.int .i64 c.1), (.int .i64 c.2.1), (.int .i64 c.2.2.1), (.int .i64 c.2.2.2.1), (.os 1 c.2.2.2.2.1), (.int .i64 c.2.2.2.2.2.1), (.int .i64 a0), (.os 2 c.2.2.2.2.2.2.2.1), (.os 3 c.2.2.2.2.2.2.2.2.1), (.os 4 c.2.2.2.2.2.2.2.2.2.1)]), (.row true .impl_Entry c.2.2.2.2.2.2.2.2.2.2.1 c.2.2.2.2.2.2.2.2.2.2.2.1), (.row true .i64 c.2.2.2.2.2.2.2.2.2.2.2.2.1 c.2.2.2.2.2.2.2.2.2.2.2.2.2.1), (.row true .i64 c.2.2.2.2.2.2.2.2.2.2.2.2.2.2.1 c.2.2.2.2.2.2.2.2.2.2.2.2.2.2.2.1), (.row true .i64 c.2.2.2.2.2.2.2.2.2.2.2.2.2.2.2.2.1 c.2.2.2.2.2.2.2.2.2.2.2.2.2.2.2.2.2)]⟩) (k (.exit 0) ⟨[.dead, .dead, .dead, .dead, .dead, .dead, .dead, .dead, .dead, .dead, .dead, .dead, .dead, .dead, .dead, .dead, .dead, .dead, .dead, .dead, .dead, .dead, .dead, .dead, .dead, .dead, .dead, .dead, .dead, .dead, .dead, .dead, .dead, .dead, .dead, .dead, .dead, .dead, .dead, .dead, .dead, .dead, .dead, .dead, .dead, .dead, .dead, .dead, .dead, .dead, .dead, .dead, .dead, .dead, .dead, .dead, .dead], [(.box true [(.int .i64 c.1), (.int .i64 c.2.1), (.int .i64 c.2.2.1), (.int .i64 c.2.2.2.1), (.os 1 c.2.2.2.2.1), (.int .i64 c.2.2.2.2.2.1), (.int .i64 c.2.2.2.2.2.2.1), (.os 2 c.2.2.2.2.2.2.2.1), (.os 3 c.2.2.2.2.2.2.2.2.1), (.os 4 c.2.2.2.2.2.2.2.2.2.1)]), (.row true .impl_Entry c.2.2.2.2.2.2.2.2.2.2.1 c.2.2.2.2.2.2.2.2.2.2.2.1), (.row true .i64 c.2.2.2.2.2.2.2.2.2.2.2.2.1 c.2.2.2.2.2.2.2.2.2.2.2.2.2.1), (.row true .i64 c.2.2.2.2.2.2.2.2.2.2.2.2.2.2.1 c.2.2.2.2.2.2.2.2.2.2.2.2.2.2.2.1), (.row true .i64 c.2.2.2.2.2.2.2.2.2.2.2.2.2.2.2.2.1 c.2.2.2.2.2.2.2.2.2.2.2.2.2.2.2.2.2)]⟩) w go
def lp_impl_Node_agree_M (fu : Nat) : Lp RT den (Int × Int × Int × Int × Nat × Int × Int × Nat × Nat × Nat × Nat × (Nat → S_impl_Entry) × Nat × (Nat → Int) × Nat × (Nat → Int) × Nat × (Nat → Int)) := fun b s k => match b with | 0 => handle ps_impl_Node_agree_M_0 os_impl_Node_agree_M_0 conv_impl_Node_agree_M_0 (Bk_impl_Node_agree_M_0 fu) fu s k | 2 => handle ps_impl_Node_agree_M_2 os_impl_Node_agree_M_2 conv_impl_Node_agree_M_2 (Bk_impl_Node_agree_M_2 fu) fu s k | _ => none
def pso_impl_Node_agree_M : List (Pat RT) := [.tup []]
def oso_impl_Node_agree_M : List (OP RT) := [.box true [(.int .i64), (.int .i64), (.int .i64), (.int .i64), (.os 1), (.int .i64), (.int .i64), (.os 2), (.os 3), (.os 4)], .row true .impl_Entry, .row true .i64, .row true .i64, .row true .i64]
def conv_impl_Node_agree_M (r : Raw den pso_impl_Node_agree_M oso_impl_Node_agree_M) : Int × Int × Int × Int × Nat × Int × Int × Nat × Nat × Nat × Nat × (Nat → S_impl_Entry) × Nat × (Nat → Int) × Nat × (Nat → Int) × Nat × (Nat → Int) := (r.2.1.1, r.2.1.2.1, r.2.1.2.2.1, r.2.1.2.2.2.1, r.2.1.2.2.2.2.1, r.2.1.2.2.2.2.2.1, r.2.1.2.2.2.2.2.2.1, r.2.1.2.2.2.2.2.2.2.1, r.2.1.2.2.2.2.2.2.2.2.1, r.2.1.2.2.2.2.2.2.2.2.2.1, r.2.2.1.1, r.2.2.1.2, r.2.2.2.1.1, r.2.2.2.1.2, r.2.2.2.2.1.1, r.2.2.2.2.1.2, r.2.2.2.2.2.1.1, r.2.2.2.2.2.1.2)
def enc_impl_Node_agree_M (y : Int × Int × Int × Int × Nat × Int × Int × Nat × Nat × Nat × Nat × (Nat → S_impl_Entry) × Nat × (Nat → Int) × Nat × (Nat → Int) × Nat × (Nat → Int)) : D RT den × List (Ob RT den) := ((.tup []), [(.box true [(.int .i64 y.1), (.int .i64 y.2.1), (.int .i64 y.2.2.1), (.int .i64 y.2.2.2.1), (.os 1 y.2.2.2.2.1), (.int .i64 y.2.2.2.2.2.1), (.int .i64 y.2.2.2.2.2.2.1), (.os 2 y.2.2.2.2.2.2.2.1), (.os 3 y.2.2.2.2.2.2.2.2.1), (.os 4 y.2.2.2.2.2.2.2.2.2.1)]), (.row true .impl_Entry y.2.2.2.2.2.2.2.2.2.2.1 y.2.2.2.2.2.2.2.2.2.2.2.1), (.row true .i64 y.2.2.2.2.2.2.2.2.2.2.2.2.1 y.2.2.2.2.2.2.2.2.2.2.2.2.2.1), (.row true .i64 y.2.2.2.2.2.2.2.2.2.2.2.2.2.2.1 y.2.2.2.2.2.2.2.2.2.2.2.2.2.2.2.1), (.row true .i64 y.2.2.2.2.2.2.2.2.2.2.2.2.2.2.2.2.1 y.2.2.2.2.2.2.2.2.2.2.2.2.2.2.2.2.2)])
def out_impl_Node_agree_M (d : D RT den) (os : List (Ob RT den)) : Option (Int × Int × Int × Int × Nat × Int × Int × Nat × Nat × Nat × Nat × (Nat → S_impl_Entry) × Nat × (Nat → Int) × Nat × (Nat → Int) × Nat × (Nat → Int)) := (unSt pso_impl_Node_agree_M oso_impl_Node_agree_M ⟨[d], os⟩).bind fun v => some (conv_impl_Node_agree_M v.1)
theorem out_impl_Node_agree_M_enc (d : D RT den) (os : List (Ob RT den)) (y : Int × Int × Int × Int × Nat × Int × Int × Nat × Nat × Nat × Nat × (Nat → S_impl_Entry) × Nat × (Nat → Int) × Nat × (Nat → Int) × Nat × (Nat → Int)) (h : out_impl_Node_agree_M d os = some y) : d = (enc_impl_Node_agree_M y).1 ∧ os = (enc_impl_Node_agree_M y).2 :=
  outM (conv := conv_impl_Node_agree_M) (enc := enc_impl_Node_agree_M) (fun raw => by kernel_rfl) h
theorem ev_impl_Node_agree_M (fu : Nat) (b0_0 : Int) (b0_1 : Int) (b0_2 : Int) (b0_3 : Int) (b0_4 : Nat) (b0_5 : Int) (b0_6 : Int) (b0_7 : Nat) (b0_8 : Nat) (b0_9 : Nat) (rn1 : Nat) (rf1 : (Nat → S_impl_Entry)) (rn2 : Nat) (rf2 : (Nat → Int)) (rn3 : Nat) (rf3 : (Nat → Int)) (rn4 : Nat) (rf4 : (Nat → Int)) : evFunM E false (pc_impl_Node_agree_M fu) msk_impl_Node_agree_M (lp_impl_Node_agree_M fu) out_impl_Node_agree_M 61 [(.ref 0 0)] [(.box true [(.int .i64 b0_0), (.int .i64 b0_1), (.int .i64 b0_2), (.int .i64 b0_3), (.os 1 b0_4), (.int .i64 b0_5), (.int .i64 b0_6), (.os 2 b0_7), (.os 3 b0_8), (.os 4 b0_9)]), (.row true .impl_Entry rn1 rf1), (.row true .i64 rn2 rf2), (.row true .i64 rn3 rf3), (.row true .i64 rn4 rf4)] = F_impl_Node_agree_M fu b0_0 b0_1 b0_2 b0_3 b0_4 b0_5 b0_6 b0_7 b0_8 b0_9 rn1 rf1 rn2 rf2 rn3 rf3 rn4 rf4 := by kernel_rfl
noncomputable def body_impl_Node_agree_M : Code := Try.f61.body.getD .skip
noncomputable def lc_impl_Node_agree_M_0 : Code := ((loops 0 body_impl_Node_agree_M).getD 0 (0, .skip)).2
theorem round_impl_Node_agree_M_0 (fu : Nat) (it : St RT den → Option (Int × Int × Int × Int × Nat × Int × Int × Nat × Nat × Nat × Nat × (Nat → S_impl_Entry) × Nat × (Nat → Int) × Nat × (Nat → Int) × Nat × (Nat → Int))) (k : Ex → St RT den → Option (Int × Int × Int × Int × Nat × Int × Int × Nat × Nat × Nat × Nat × (Nat → S_impl_Entry) × Nat × (Nat → Int) × Nat × (Nat → Int) × Nat × (Nat → Int))) c w : evCode E (pc_impl_Node_agree_M fu) msk_impl_Node_agree_M (lp_impl_Node_agree_M fu) 0 lc_impl_Node_agree_M_0 (back_impl_Node_agree_M_0 c w) (after (msk_impl_Node_agree_M 0) (msk_impl_Node_agree_M 100000) 5 it k) = Bk_impl_Node_agree_M_0 fu c k w (fun w => it (back_impl_Node_agree_M_0 c w)) := by kernel_rfl
theorem lpok_impl_Node_agree_M_0 (fu : Nat) : ∀ s k r, lp_impl_Node_agree_M fu 0 s k = some r → ∃ fuel, iter (msk_impl_Node_agree_M 0) (msk_impl_Node_agree_M 100000) s.objs.length (evCode E (pc_impl_Node_agree_M fu) msk_impl_Node_agree_M (lp_impl_Node_agree_M fu) 0 lc_impl_Node_agree_M_0) fuel s k = some r :=
  handle_ok (ps := ps_impl_Node_agree_M_0) (os := os_impl_Node_agree_M_0) (conv := conv_impl_Node_agree_M_0) (B := Bk_impl_Node_agree_M_0 fu) (fu := fu) back_impl_Node_agree_M_0 (fun raw => by kernel_rfl) 5 (fun c w => by kernel_rfl) (round_impl_Node_agree_M_0 fu)
noncomputable def lc_impl_Node_agree_M_2 : Code := ((loops 0 body_impl_Node_agree_M).getD 1 (0, .skip)).2
theorem round_impl_Node_agree_M_2 (fu : Nat) (it : St RT den → Option (Int × Int × Int × Int × Nat × Int × Int × Nat × Nat × Nat × Nat × (Nat → S_impl_Entry) × Nat × (Nat → Int) × Nat × (Nat → Int) × Nat × (Nat → Int))) (k : Ex → St RT den → Option (Int × Int × Int × Int × Nat × Int × Int × Nat × Nat × Nat × Nat × (Nat → S_impl_Entry) × Nat × (Nat → Int) × Nat × (Nat → Int) × Nat × (Nat → Int))) c w : evCode E (pc_impl_Node_agree_M fu) msk_impl_Node_agree_M (lp_impl_Node_agree_M fu) 2 lc_impl_Node_agree_M_2 (back_impl_Node_agree_M_2 c w) (after (msk_impl_Node_agree_M 2) (msk_impl_Node_agree_M 100002) 5 it k) = Bk_impl_Node_agree_M_2 fu c k w (fun w => it (back_impl_Node_agree_M_2 c w)) := by kernel_rfl
theorem lpok_impl_Node_agree_M_2 (fu : Nat) : ∀ s k r, lp_impl_Node_agree_M fu 2 s k = some r → ∃ fuel, iter (msk_impl_Node_agree_M 2) (msk_impl_Node_agree_M 100002) s.objs.length (evCode E (pc_impl_Node_agree_M fu) msk_impl_Node_agree_M (lp_impl_Node_agree_M fu) 2 lc_impl_Node_agree_M_2) fuel s k = some r :=
  handle_ok (ps := ps_impl_Node_agree_M_2) (os := os_impl_Node_agree_M_2) (conv := conv_impl_Node_agree_M_2) (B := Bk_impl_Node_agree_M_2 fu) (fu := fu) back_impl_Node_agree_M_2 (fun raw => by kernel_rfl) 5 (fun c w => by kernel_rfl) (round_impl_Node_agree_M_2 fu)
theorem lpok_impl_Node_agree_M (fu : Nat) : LpOk E (pc_impl_Node_agree_M fu) msk_impl_Node_agree_M (lp_impl_Node_agree_M fu) (loops 0 body_impl_Node_agree_M) := loop_all 2 (by kernel_rfl) fun i hi => match i, hi with
  | 0, _ => by
    have h : (loops 0 body_impl_Node_agree_M).getD 0 (0, .skip) = (0, lc_impl_Node_agree_M_0) := by kernel_rfl
    rw [h]; exact lpok_impl_Node_agree_M_0 fu
  | 1, _ => by
    have h : (loops 0 body_impl_Node_agree_M).getD 1 (0, .skip) = (2, lc_impl_Node_agree_M_2) := by kernel_rfl
    rw [h]; exact lpok_impl_Node_agree_M_2 fu
  | i + 2, hi => absurd hi (by omega)
def S_impl_Node_agree_M (fu : Nat) (xs : List (D RT den)) (ins : List (Ob RT den)) : Option (OutX RT den) := match xs, ins with | [.ref 0 0], [.box true [.int .i64 a1000_0, .int .i64 a1001_0, .int .i64 a1002_0, .int .i64 a1003_0, .os 1 a1004_0, .int .i64 a1005_0, .int .i64 a1006_0, .os 2 a1007_0, .os 3 a1008_0, .os 4 a1009_0], .row true .impl_Entry rn1 rf1, .row true .i64 rn2 rf2, .row true .i64 rn3 rf3, .row true .i64 rn4 rf4] => some ⟨Int × Int × Int × Int × Nat × Int × Int × Nat × Nat × Nat × Nat × (Nat → S_impl_Entry) × Nat × (Nat → Int) × Nat × (Nat → Int) × Nat × (Nat → Int), F_impl_Node_agree_M fu a1000_0 a1001_0 a1002_0 a1003_0 a1004_0 a1005_0 a1006_0 a1007_0 a1008_0 a1009_0 rn1 rf1 rn2 rf2 rn3 rf3 rn4 rf4, enc_impl_Node_agree_M⟩ | _, _ => none
theorem hpc_impl_Node_agree_M (fu : Nat) : ∀ f xs o, pcf_impl_Node_agree_M fu f xs = some o → ∀ y, o.x = some y → Good E Try.prog f xs (o.g y) := by
  intro f xs o h
  unfold pcf_impl_Node_agree_M at h
  split at h
  · exact good_impl_size_impl_Entry fu xs o h
  · exact good_impl_Node_isQuorum fu xs o h
  · cases h
theorem hpx_impl_Node_agree_M (fu : Nat) : ∀ f xs ins o, pcx_impl_Node_agree_M fu f xs ins = some o → ∀ y, o.x = some y → GoodX E Try.prog f xs ins (o.g y).1 (o.g y).2 := by
  intro f xs ins o h
  cases h
theorem goodv_impl_Node_agree_M (fu : Nat) (b0_0 : Int) (b0_1 : Int) (b0_2 : Int) (b0_3 : Int) (b0_4 : Nat) (b0_5 : Int) (b0_6 : Int) (b0_7 : Nat) (b0_8 : Nat) (b0_9 : Nat) (rn1 : Nat) (rf1 : (Nat → S_impl_Entry)) (rn2 : Nat) (rf2 : (Nat → Int)) (rn3 : Nat) (rf3 : (Nat → Int)) (rn4 : Nat) (rf4 : (Nat → Int)) (y : Int × Int × Int × Int × Nat × Int × Int × Nat × Nat × Nat × Nat × (Nat → S_impl_Entry) × Nat × (Nat → Int) × Nat × (Nat → Int) × Nat × (Nat → Int)) (hy : F_impl_Node_agree_M fu b0_0 b0_1 b0_2 b0_3 b0_4 b0_5 b0_6 b0_7 b0_8 b0_9 rn1 rf1 rn2 rf2 rn3 rf3 rn4 rf4 = some y) : GoodX E Try.prog 61 [(.ref 0 0)] [(.box true [(.int .i64 b0_0), (.int .i64 b0_1), (.int .i64 b0_2), (.int .i64 b0_3), (.os 1 b0_4), (.int .i64 b0_5), (.int .i64 b0_6), (.os 2 b0_7), (.os 3 b0_8), (.os 4 b0_9)]), (.row true .impl_Entry rn1 rf1), (.row true .i64 rn2 rf2), (.row true .i64 rn3 rf3), (.row true .i64 rn4 rf4)] (enc_impl_Node_agree_M y).1 (enc_impl_Node_agree_M y).2 :=
  funM_good (ke := false) E_ok (pc_good (pc := pc_impl_Node_agree_M fu) (hpc_impl_Node_agree_M fu) (hpx_impl_Node_agree_M fu)) (fn := Try.f61) (c := body_impl_Node_agree_M) (out := out_impl_Node_agree_M) (y := y) (by kernel_rfl) (by kernel_rfl) (by kernel_rfl) (lpok_impl_Node_agree_M fu) (by kernel_rfl) (Nat.le_of_ble_eq_true (by kernel_rfl)) (fun d os hd => out_impl_Node_agree_M_enc d os _ hd) ((ev_impl_Node_agree_M fu b0_0 b0_1 b0_2 b0_3 b0_4 b0_5 b0_6 b0_7 b0_8 b0_9 rn1 rf1 rn2 rf2 rn3 rf3 rn4 rf4).trans hy)
theorem good_impl_Node_agree_M (fu : Nat) : ∀ xs ins o, S_impl_Node_agree_M fu xs ins = some o → ∀ y, o.x = some y → GoodX E Try.prog 61 xs ins (o.g y).1 (o.g y).2 := by
  intro xs ins o h y hy
  unfold S_impl_Node_agree_M at h
  split at h
  · rename_i a1000_0 a1001_0 a1002_0 a1003_0 a1004_0 a1005_0 a1006_0 a1007_0 a1008_0 a1009_0 rn1 rf1 rn2 rf2 rn3 rf3 rn4 rf4
    cases h
    exact goodv_impl_Node_agree_M fu a1000_0 a1001_0 a1002_0 a1003_0 a1004_0 a1005_0 a1006_0 a1007_0 a1008_0 a1009_0 rn1 rf1 rn2 rf2 rn3 rf3 rn4 rf4 y hy
  · cases h

/-! impl.in -/
def F_impl_in (fu : Nat) (n_0 : Int) (low_1 : Int) (high_2 : Int) : Option (Bool) :=
  (((bif (decide (n_0 ≥ low_1)) then (some (decide (n_0 ≤ high_2))) else (some false)) : Option Bool).bind fun m175 => (some m175))
def pcf_impl_in (fu : Nat) (f : Nat) (xs : List (D RT den)) : Option (Out RT den) := none
def pcx_impl_in (fu : Nat) (f : Nat) (xs : List (D RT den)) (ins : List (Ob RT den)) : Option (OutX RT den) := none
def pc_impl_in (fu : Nat) : Pc RT den := ⟨pcf_impl_in fu, fun _ => false, fun _ => false, pcx_impl_in fu⟩
def msk_impl_in (b : Nat) : List Nat := match b with | 200001 => [6] | _ => []
def lp_impl_in (fu : Nat) : Lp RT den (Bool) := fun b s k => none
theorem ev_impl_in (fu : Nat) (n_0 : Int) (low_1 : Int) (high_2 : Int) : evFun E (pc_impl_in fu) msk_impl_in (lp_impl_in fu) out_bo 86 [(.int .i64 n_0), (.int .i64 low_1), (.int .i64 high_2)] = F_impl_in fu n_0 low_1 high_2 := by kernel_rfl
noncomputable def body_impl_in : Code := Try.f86.body.getD .skip
theorem lpok_impl_in (fu : Nat) : LpOk E (pc_impl_in fu) msk_impl_in (lp_impl_in fu) (loops 0 body_impl_in) := by
  have h : loops 0 body_impl_in = [] := by kernel_rfl
  rw [h]; intro p hp; cases hp
def S_impl_in (fu : Nat) (xs : List (D RT den)) : Option (Out RT den) := match xs with | [.int .i64 a0_0, .int .i64 a1_0, .int .i64 a2_0] => some ⟨Bool, F_impl_in fu a0_0 a1_0 a2_0, enc_bo, fun _ => true⟩ | _ => none
theorem hpc_impl_in (fu : Nat) : ∀ f xs o, pcf_impl_in fu f xs = some o → ∀ y, o.x = some y → Good E Try.prog f xs (o.g y) := by
  intro f xs o h
  cases h
theorem hpx_impl_in (fu : Nat) : ∀ f xs ins o, pcx_impl_in fu f xs ins = some o → ∀ y, o.x = some y → GoodX E Try.prog f xs ins (o.g y).1 (o.g y).2 := by
  intro f xs ins o h
  cases h
theorem goodv_impl_in (fu : Nat) (n_0 : Int) (low_1 : Int) (high_2 : Int) (y : Bool) (hy : F_impl_in fu n_0 low_1 high_2 = some y) : Good E Try.prog 86 [(.int .i64 n_0), (.int .i64 low_1), (.int .i64 high_2)] (enc_bo y) :=
  fun_good E_ok (pc_good (pc := pc_impl_in fu) (hpc_impl_in fu) (hpx_impl_in fu)) (fn := Try.f86) (c := body_impl_in) (out := out_bo) (y := y) (by kernel_rfl) (by kernel_rfl) (by kernel_rfl) (lpok_impl_in fu) (fun d hd => out_bo_enc d _ hd) ((ev_impl_in fu n_0 low_1 high_2).trans hy)
theorem good_impl_in (fu : Nat) : ∀ xs o, S_impl_in fu xs = some o → ∀ y, o.x = some y → Good E Try.prog 86 xs (o.g y) := by
  intro xs o h y hy
  unfold S_impl_in at h
  split at h
  · rename_i a0_0 a1_0 a2_0
    cases h
    exact goodv_impl_in fu a0_0 a1_0 a2_0 y hy
  · cases h

/-! (*impl.Node).isId -/
def F_impl_Node_isId (fu : Nat) (n_0 : S_impl_Node) (id_1 : Int) : Option (Bool) :=
  ((F_impl_in fu id_1 0 (IntKind.wrap .i64 (n_0.Peers - 1))).bind fun y174 => (some y174))
def pcf_impl_Node_isId (fu : Nat) (f : Nat) (xs : List (D RT den)) : Option (Out RT den) := match f with | 86 => S_impl_in fu xs | _ => none
def pcx_impl_Node_isId (fu : Nat) (f : Nat) (xs : List (D RT den)) (ins : List (Ob RT den)) : Option (OutX RT den) := none
def pc_impl_Node_isId (fu : Nat) : Pc RT den := ⟨pcf_impl_Node_isId fu, fun _ => false, fun _ => false, pcx_impl_Node_isId fu⟩
def msk_impl_Node_isId (b : Nat) : List Nat := []
def lp_impl_Node_isId (fu : Nat) : Lp RT den (Bool) := fun b s k => none
theorem ev_impl_Node_isId (fu : Nat) (n_0 : S_impl_Node) (id_1 : Int) : evFun E (pc_impl_Node_isId fu) msk_impl_Node_isId (lp_impl_Node_isId fu) out_bo 87 [(.rptr [(.int .i64 n_0.Id), (.int .i64 n_0.Peers), (.int .i64 n_0.Term), (.int .i64 n_0.Voted), (.rs n_0.Log.z .impl_Entry n_0.Log.n n_0.Log.f), (.int .i64 n_0.Role), (.int .i64 n_0.Commit), (.rs n_0.Votes.z .i64 n_0.Votes.n n_0.Votes.f), (.rs n_0.Next.z .i64 n_0.Next.n n_0.Next.f), (.rs n_0.Match.z .i64 n_0.Match.n n_0.Match.f)]), (.int .i64 id_1)] = F_impl_Node_isId fu n_0 id_1 := by kernel_rfl
noncomputable def body_impl_Node_isId : Code := Try.f87.body.getD .skip
theorem lpok_impl_Node_isId (fu : Nat) : LpOk E (pc_impl_Node_isId fu) msk_impl_Node_isId (lp_impl_Node_isId fu) (loops 0 body_impl_Node_isId) := by
  have h : loops 0 body_impl_Node_isId = [] := by kernel_rfl
  rw [h]; intro p hp; cases hp
def S_impl_Node_isId (fu : Nat) (xs : List (D RT den)) : Option (Out RT den) := match xs with | [.rptr (.int .i64 a0_1 :: .int .i64 a0_2 :: .int .i64 a0_3 :: .int .i64 a0_4 :: .rs za0_5 .impl_Entry na0_5 fa0_5 :: .int .i64 a0_6 :: .int .i64 a0_7 :: .rs za0_8 .i64 na0_8 fa0_8 :: .rs za0_9 .i64 na0_9 fa0_9 :: .rs za0_10 .i64 na0_10 fa0_10 :: ra0), .int .i64 a1_0] => some ⟨Bool, F_impl_Node_isId fu (⟨a0_1, a0_2, a0_3, a0_4, (⟨za0_5, na0_5, fa0_5⟩ : (Sl S_impl_Entry)), a0_6, a0_7, (⟨za0_8, na0_8, fa0_8⟩ : (Sl Int)), (⟨za0_9, na0_9, fa0_9⟩ : (Sl Int)), (⟨za0_10, na0_10, fa0_10⟩ : (Sl Int))⟩ : S_impl_Node) a1_0, enc_bo, fun _ => true⟩ | _ => none
theorem hpc_impl_Node_isId (fu : Nat) : ∀ f xs o, pcf_impl_Node_isId fu f xs = some o → ∀ y, o.x = some y → Good E Try.prog f xs (o.g y) := by
  intro f xs o h
  unfold pcf_impl_Node_isId at h
  split at h
  · exact good_impl_in fu xs o h
  · cases h
theorem hpx_impl_Node_isId (fu : Nat) : ∀ f xs ins o, pcx_impl_Node_isId fu f xs ins = some o → ∀ y, o.x = some y → GoodX E Try.prog f xs ins (o.g y).1 (o.g y).2 := by
  intro f xs ins o h
  cases h
theorem goodv_impl_Node_isId (fu : Nat) (n_0 : S_impl_Node) (id_1 : Int) (y : Bool) (hy : F_impl_Node_isId fu n_0 id_1 = some y) : Good E Try.prog 87 [(.rptr [(.int .i64 n_0.Id), (.int .i64 n_0.Peers), (.int .i64 n_0.Term), (.int .i64 n_0.Voted), (.rs n_0.Log.z .impl_Entry n_0.Log.n n_0.Log.f), (.int .i64 n_0.Role), (.int .i64 n_0.Commit), (.rs n_0.Votes.z .i64 n_0.Votes.n n_0.Votes.f), (.rs n_0.Next.z .i64 n_0.Next.n n_0.Next.f), (.rs n_0.Match.z .i64 n_0.Match.n n_0.Match.f)]), (.int .i64 id_1)] (enc_bo y) :=
  fun_good E_ok (pc_good (pc := pc_impl_Node_isId fu) (hpc_impl_Node_isId fu) (hpx_impl_Node_isId fu)) (fn := Try.f87) (c := body_impl_Node_isId) (out := out_bo) (y := y) (by kernel_rfl) (by kernel_rfl) (by kernel_rfl) (lpok_impl_Node_isId fu) (fun d hd => out_bo_enc d _ hd) ((ev_impl_Node_isId fu n_0 id_1).trans hy)
theorem good_impl_Node_isId (fu : Nat) : ∀ xs o, S_impl_Node_isId fu xs = some o → ∀ y, o.x = some y → Good E Try.prog 87 xs (o.g y) := by
  intro xs o h y hy
  unfold S_impl_Node_isId at h
  split at h
  · rename_i a0_1 a0_2 a0_3 a0_4 za0_5 na0_5 fa0_5 a0_6 a0_7 za0_8 na0_8 fa0_8 za0_9 na0_9 fa0_9 za0_10 na0_10 fa0_10 ra0 a1_0
    cases h
    exact (goodv_impl_Node_isId fu (⟨a0_1, a0_2, a0_3, a0_4, (⟨za0_5, na0_5, fa0_5⟩ : (Sl S_impl_Entry)), a0_6, a0_7, (⟨za0_8, na0_8, fa0_8⟩ : (Sl Int)), (⟨za0_9, na0_9, fa0_9⟩ : (Sl Int)), (⟨za0_10, na0_10, fa0_10⟩ : (Sl Int))⟩ : S_impl_Node) a1_0 y hy).sub ⟨Sub.of_eq ra0 rfl, .refl _, trivial⟩
  · cases h

/-! impl.needs -/
def F_impl_needs (fu : Nat) (kind_0 : Int) : Option (Bool × Bool × Bool × Bool) :=
  ((F_impl_in fu kind_0 5 8).bind fun y247 => ((F_impl_in fu kind_0 5 6).bind fun y248 => (bif (kind_0 == 1) then (some ((!y248), true, (kind_0 != 4), y247)) else (some ((!y248),
    y247, (kind_0 != 4), y247)))))
def pcf_impl_needs (fu : Nat) (f : Nat) (xs : List (D RT den)) : Option (Out RT den) := match f with | 86 => S_impl_in fu xs | _ => none
def pcx_impl_needs (fu : Nat) (f : Nat) (xs : List (D RT den)) (ins : List (Ob RT den)) : Option (OutX RT den) := none
def pc_impl_needs (fu : Nat) : Pc RT den := ⟨pcf_impl_needs fu, fun _ => false, fun _ => false, pcx_impl_needs fu⟩
def msk_impl_needs (b : Nat) : List Nat := []
def lp_impl_needs (fu : Nat) : Lp RT den (Bool × Bool × Bool × Bool) := fun b s k => none
theorem ev_impl_needs (fu : Nat) (kind_0 : Int) : evFun E (pc_impl_needs fu) msk_impl_needs (lp_impl_needs fu) out_bo_bo_bo_bo 116 [(.int .i64 kind_0)] = F_impl_needs fu kind_0 := by kernel_rfl
noncomputable def body_impl_needs : Code := Try.f116.body.getD .skip
theorem lpok_impl_needs (fu : Nat) : LpOk E (pc_impl_needs fu) msk_impl_needs (lp_impl_needs fu) (loops 0 body_impl_needs) := by
  have h : loops 0 body_impl_needs = [] := by kernel_rfl
  rw [h]; intro p hp; cases hp
def S_impl_needs (fu : Nat) (xs : List (D RT den)) : Option (Out RT den) := match xs with | [.int .i64 a0_0] => some ⟨Bool × Bool × Bool × Bool, F_impl_needs fu a0_0, enc_bo_bo_bo_bo, fun _ => true⟩ | _ => none
theorem hpc_impl_needs (fu : Nat) : ∀ f xs o, pcf_impl_needs fu f xs = some o → ∀ y, o.x = some y → Good E Try.prog f xs (o.g y) := by
  intro f xs o h
  unfold pcf_impl_needs at h
  split at h
  · exact good_impl_in fu xs o h
  · cases h
theorem hpx_impl_needs (fu : Nat) : ∀ f xs ins o, pcx_impl_needs fu f xs ins = some o → ∀ y, o.x = some y → GoodX E Try.prog f xs ins (o.g y).1 (o.g y).2 := by
  intro f xs ins o h
  cases h
theorem goodv_impl_needs (fu : Nat) (kind_0 : Int) (y : Bool × Bool × Bool × Bool) (hy : F_impl_needs fu kind_0 = some y) : Good E Try.prog 116 [(.int .i64 kind_0)] (enc_bo_bo_bo_bo y) :=
  fun_good E_ok (pc_good (pc := pc_impl_needs fu) (hpc_impl_needs fu) (hpx_impl_needs fu)) (fn := Try.f116) (c := body_impl_needs) (out := out_bo_bo_bo_bo) (y := y) (by kernel_rfl) (by kernel_rfl) (by kernel_rfl) (lpok_impl_needs fu) (fun d hd => out_bo_bo_bo_bo_enc d _ hd) ((ev_impl_needs fu kind_0).trans hy)
theorem good_impl_needs (fu : Nat) : ∀ xs o, S_impl_needs fu xs = some o → ∀ y, o.x = some y → Good E Try.prog 116 xs (o.g y) := by
  intro xs o h y hy
  unfold S_impl_needs at h
  split at h
  · rename_i a0_0
    cases h
    exact goodv_impl_needs fu a0_0 y hy
  · cases h

/-! impl.isName -/
def F_impl_isName (fu : Nat) (name_0 : Int) : Option (Bool) :=
  ((F_impl_in fu name_0 1 999).bind fun y249 => (some y249))
def pcf_impl_isName (fu : Nat) (f : Nat) (xs : List (D RT den)) : Option (Out RT den) := match f with | 86 => S_impl_in fu xs | _ => none
def pcx_impl_isName (fu : Nat) (f : Nat) (xs : List (D RT den)) (ins : List (Ob RT den)) : Option (OutX RT den) := none
def pc_impl_isName (fu : Nat) : Pc RT den := ⟨pcf_impl_isName fu, fun _ => false, fun _ => false, pcx_impl_isName fu⟩
def msk_impl_isName (b : Nat) : List Nat := []
def lp_impl_isName (fu : Nat) : Lp RT den (Bool) := fun b s k => none
theorem ev_impl_isName (fu : Nat) (name_0 : Int) : evFun E (pc_impl_isName fu) msk_impl_isName (lp_impl_isName fu) out_bo 117 [(.int .i64 name_0)] = F_impl_isName fu name_0 := by kernel_rfl
noncomputable def body_impl_isName : Code := Try.f117.body.getD .skip
theorem lpok_impl_isName (fu : Nat) : LpOk E (pc_impl_isName fu) msk_impl_isName (lp_impl_isName fu) (loops 0 body_impl_isName) := by
  have h : loops 0 body_impl_isName = [] := by kernel_rfl
  rw [h]; intro p hp; cases hp
def S_impl_isName (fu : Nat) (xs : List (D RT den)) : Option (Out RT den) := match xs with | [.int .i64 a0_0] => some ⟨Bool, F_impl_isName fu a0_0, enc_bo, fun _ => true⟩ | _ => none
theorem hpc_impl_isName (fu : Nat) : ∀ f xs o, pcf_impl_isName fu f xs = some o → ∀ y, o.x = some y → Good E Try.prog f xs (o.g y) := by
  intro f xs o h
  unfold pcf_impl_isName at h
  split at h
  · exact good_impl_in fu xs o h
  · cases h
theorem hpx_impl_isName (fu : Nat) : ∀ f xs ins o, pcx_impl_isName fu f xs ins = some o → ∀ y, o.x = some y → GoodX E Try.prog f xs ins (o.g y).1 (o.g y).2 := by
  intro f xs ins o h
  cases h
theorem goodv_impl_isName (fu : Nat) (name_0 : Int) (y : Bool) (hy : F_impl_isName fu name_0 = some y) : Good E Try.prog 117 [(.int .i64 name_0)] (enc_bo y) :=
  fun_good E_ok (pc_good (pc := pc_impl_isName fu) (hpc_impl_isName fu) (hpx_impl_isName fu)) (fn := Try.f117) (c := body_impl_isName) (out := out_bo) (y := y) (by kernel_rfl) (by kernel_rfl) (by kernel_rfl) (lpok_impl_isName fu) (fun d hd => out_bo_enc d _ hd) ((ev_impl_isName fu name_0).trans hy)
theorem good_impl_isName (fu : Nat) : ∀ xs o, S_impl_isName fu xs = some o → ∀ y, o.x = some y → Good E Try.prog 117 xs (o.g y) := by
  intro xs o h y hy
  unfold S_impl_isName at h
  split at h
  · rename_i a0_0
    cases h
    exact goodv_impl_isName fu a0_0 y hy
  · cases h

/-! impl.isAddress -/
def F_impl_isAddress (fu : Nat) (a_0 : Int) : Option (Bool) :=
  ((F_impl_in fu a_0 0 4294967295).bind fun y250 => (some y250))
def pcf_impl_isAddress (fu : Nat) (f : Nat) (xs : List (D RT den)) : Option (Out RT den) := match f with | 86 => S_impl_in fu xs | _ => none
def pcx_impl_isAddress (fu : Nat) (f : Nat) (xs : List (D RT den)) (ins : List (Ob RT den)) : Option (OutX RT den) := none
def pc_impl_isAddress (fu : Nat) : Pc RT den := ⟨pcf_impl_isAddress fu, fun _ => false, fun _ => false, pcx_impl_isAddress fu⟩
def msk_impl_isAddress (b : Nat) : List Nat := []
def lp_impl_isAddress (fu : Nat) : Lp RT den (Bool) := fun b s k => none
theorem ev_impl_isAddress (fu : Nat) (a_0 : Int) : evFun E (pc_impl_isAddress fu) msk_impl_isAddress (lp_impl_isAddress fu) out_bo 118 [(.int .i64 a_0)] = F_impl_isAddress fu a_0 := by kernel_rfl
noncomputable def body_impl_isAddress : Code := Try.f118.body.getD .skip
theorem lpok_impl_isAddress (fu : Nat) : LpOk E (pc_impl_isAddress fu) msk_impl_isAddress (lp_impl_isAddress fu) (loops 0 body_impl_isAddress) := by
  have h : loops 0 body_impl_isAddress = [] := by kernel_rfl
  rw [h]; intro p hp; cases hp
def S_impl_isAddress (fu : Nat) (xs : List (D RT den)) : Option (Out RT den) := match xs with | [.int .i64 a0_0] => some ⟨Bool, F_impl_isAddress fu a0_0, enc_bo, fun _ => true⟩ | _ => none
theorem hpc_impl_isAddress (fu : Nat) : ∀ f xs o, pcf_impl_isAddress fu f xs = some o → ∀ y, o.x = some y → Good E Try.prog f xs (o.g y) := by
  intro f xs o h
  unfold pcf_impl_isAddress at h
  split at h
  · exact good_impl_in fu xs o h
  · cases h
theorem hpx_impl_isAddress (fu : Nat) : ∀ f xs ins o, pcx_impl_isAddress fu f xs ins = some o → ∀ y, o.x = some y → GoodX E Try.prog f xs ins (o.g y).1 (o.g y).2 := by
  intro f xs ins o h
  cases h
theorem goodv_impl_isAddress (fu : Nat) (a_0 : Int) (y : Bool) (hy : F_impl_isAddress fu a_0 = some y) : Good E Try.prog 118 [(.int .i64 a_0)] (enc_bo y) :=
  fun_good E_ok (pc_good (pc := pc_impl_isAddress fu) (hpc_impl_isAddress fu) (hpx_impl_isAddress fu)) (fn := Try.f118) (c := body_impl_isAddress) (out := out_bo) (y := y) (by kernel_rfl) (by kernel_rfl) (by kernel_rfl) (lpok_impl_isAddress fu) (fun d hd => out_bo_enc d _ hd) ((ev_impl_isAddress fu a_0).trans hy)
theorem good_impl_isAddress (fu : Nat) : ∀ xs o, S_impl_isAddress fu xs = some o → ∀ y, o.x = some y → Good E Try.prog 118 xs (o.g y) := by
  intro xs o h y hy
  unfold S_impl_isAddress at h
  split at h
  · rename_i a0_0
    cases h
    exact goodv_impl_isAddress fu a0_0 y hy
  · cases h

/-! impl.isPort -/
def F_impl_isPort (fu : Nat) (n_0 : Int) : Option (Bool) :=
  ((F_impl_in fu n_0 0 65535).bind fun y256 => (some y256))
def pcf_impl_isPort (fu : Nat) (f : Nat) (xs : List (D RT den)) : Option (Out RT den) := match f with | 86 => S_impl_in fu xs | _ => none
def pcx_impl_isPort (fu : Nat) (f : Nat) (xs : List (D RT den)) (ins : List (Ob RT den)) : Option (OutX RT den) := none
def pc_impl_isPort (fu : Nat) : Pc RT den := ⟨pcf_impl_isPort fu, fun _ => false, fun _ => false, pcx_impl_isPort fu⟩
def msk_impl_isPort (b : Nat) : List Nat := []
def lp_impl_isPort (fu : Nat) : Lp RT den (Bool) := fun b s k => none
theorem ev_impl_isPort (fu : Nat) (n_0 : Int) : evFun E (pc_impl_isPort fu) msk_impl_isPort (lp_impl_isPort fu) out_bo 123 [(.int .i64 n_0)] = F_impl_isPort fu n_0 := by kernel_rfl
noncomputable def body_impl_isPort : Code := Try.f123.body.getD .skip
theorem lpok_impl_isPort (fu : Nat) : LpOk E (pc_impl_isPort fu) msk_impl_isPort (lp_impl_isPort fu) (loops 0 body_impl_isPort) := by
  have h : loops 0 body_impl_isPort = [] := by kernel_rfl
  rw [h]; intro p hp; cases hp
def S_impl_isPort (fu : Nat) (xs : List (D RT den)) : Option (Out RT den) := match xs with | [.int .i64 a0_0] => some ⟨Bool, F_impl_isPort fu a0_0, enc_bo, fun _ => true⟩ | _ => none
theorem hpc_impl_isPort (fu : Nat) : ∀ f xs o, pcf_impl_isPort fu f xs = some o → ∀ y, o.x = some y → Good E Try.prog f xs (o.g y) := by
  intro f xs o h
  unfold pcf_impl_isPort at h
  split at h
  · exact good_impl_in fu xs o h
  · cases h
theorem hpx_impl_isPort (fu : Nat) : ∀ f xs ins o, pcx_impl_isPort fu f xs ins = some o → ∀ y, o.x = some y → GoodX E Try.prog f xs ins (o.g y).1 (o.g y).2 := by
  intro f xs ins o h
  cases h
theorem goodv_impl_isPort (fu : Nat) (n_0 : Int) (y : Bool) (hy : F_impl_isPort fu n_0 = some y) : Good E Try.prog 123 [(.int .i64 n_0)] (enc_bo y) :=
  fun_good E_ok (pc_good (pc := pc_impl_isPort fu) (hpc_impl_isPort fu) (hpx_impl_isPort fu)) (fn := Try.f123) (c := body_impl_isPort) (out := out_bo) (y := y) (by kernel_rfl) (by kernel_rfl) (by kernel_rfl) (lpok_impl_isPort fu) (fun d hd => out_bo_enc d _ hd) ((ev_impl_isPort fu n_0).trans hy)
theorem good_impl_isPort (fu : Nat) : ∀ xs o, S_impl_isPort fu xs = some o → ∀ y, o.x = some y → Good E Try.prog 123 xs (o.g y) := by
  intro xs o h y hy
  unfold S_impl_isPort at h
  split at h
  · rename_i a0_0
    cases h
    exact goodv_impl_isPort fu a0_0 y hy
  · cases h

/-! impl.isNumber -/
def F_impl_isNumber (fu : Nat) (x_0 : S_impl_Cmd) : Option (Bool) :=
  (bif (x_0.Kind == 1) then ((F_impl_in fu x_0.Number 0 9).bind fun y251 => (some y251)) else (bif (x_0.Kind == 2) then ((F_impl_in fu x_0.Number 0 9).bind fun y252 => (some y252)) else
    (bif (x_0.Kind == 3) then ((F_impl_in fu x_0.Number 1 3).bind fun y253 => (some y253)) else (bif (x_0.Kind == 9) then ((F_impl_in fu x_0.Number 0 1).bind fun y254 => (some y254)) else
    ((F_impl_isPort fu x_0.Number).bind fun y255 => (some y255))))))
def pcf_impl_isNumber (fu : Nat) (f : Nat) (xs : List (D RT den)) : Option (Out RT den) := match f with | 86 => S_impl_in fu xs | 123 => S_impl_isPort fu xs | _ => none
def pcx_impl_isNumber (fu : Nat) (f : Nat) (xs : List (D RT den)) (ins : List (Ob RT den)) : Option (OutX RT den) := none
def pc_impl_isNumber (fu : Nat) : Pc RT den := ⟨pcf_impl_isNumber fu, fun _ => false, fun _ => false, pcx_impl_isNumber fu⟩
def msk_impl_isNumber (b : Nat) : List Nat := []
def lp_impl_isNumber (fu : Nat) : Lp RT den (Bool) := fun b s k => none
theorem ev_impl_isNumber (fu : Nat) (x_0 : S_impl_Cmd) : evFun E (pc_impl_isNumber fu) msk_impl_isNumber (lp_impl_isNumber fu) out_bo 119 [(.agg [(.int .i64 x_0.Kind), (.int .i64 x_0.Expect), (.int .i64 x_0.Name), (.int .i64 x_0.Addr), (.int .i64 x_0.Number), (.int .i64 x_0.Proto)])] = F_impl_isNumber fu x_0 := by kernel_rfl
noncomputable def body_impl_isNumber : Code := Try.f119.body.getD .skip
theorem lpok_impl_isNumber (fu : Nat) : LpOk E (pc_impl_isNumber fu) msk_impl_isNumber (lp_impl_isNumber fu) (loops 0 body_impl_isNumber) := by
  have h : loops 0 body_impl_isNumber = [] := by kernel_rfl
  rw [h]; intro p hp; cases hp
def S_impl_isNumber (fu : Nat) (xs : List (D RT den)) : Option (Out RT den) := match xs with | [.agg [.int .i64 a0_1, .int .i64 a0_2, .int .i64 a0_3, .int .i64 a0_4, .int .i64 a0_5, .int .i64 a0_6]] => some ⟨Bool, F_impl_isNumber fu (⟨a0_1, a0_2, a0_3, a0_4, a0_5, a0_6⟩ : S_impl_Cmd), enc_bo, fun _ => true⟩ | _ => none
theorem hpc_impl_isNumber (fu : Nat) : ∀ f xs o, pcf_impl_isNumber fu f xs = some o → ∀ y, o.x = some y → Good E Try.prog f xs (o.g y) := by
  intro f xs o h
  unfold pcf_impl_isNumber at h
  split at h
  · exact good_impl_in fu xs o h
  · exact good_impl_isPort fu xs o h
  · cases h
theorem hpx_impl_isNumber (fu : Nat) : ∀ f xs ins o, pcx_impl_isNumber fu f xs ins = some o → ∀ y, o.x = some y → GoodX E Try.prog f xs ins (o.g y).1 (o.g y).2 := by
  intro f xs ins o h
  cases h
theorem goodv_impl_isNumber (fu : Nat) (x_0 : S_impl_Cmd) (y : Bool) (hy : F_impl_isNumber fu x_0 = some y) : Good E Try.prog 119 [(.agg [(.int .i64 x_0.Kind), (.int .i64 x_0.Expect), (.int .i64 x_0.Name), (.int .i64 x_0.Addr), (.int .i64 x_0.Number), (.int .i64 x_0.Proto)])] (enc_bo y) :=
  fun_good E_ok (pc_good (pc := pc_impl_isNumber fu) (hpc_impl_isNumber fu) (hpx_impl_isNumber fu)) (fn := Try.f119) (c := body_impl_isNumber) (out := out_bo) (y := y) (by kernel_rfl) (by kernel_rfl) (by kernel_rfl) (lpok_impl_isNumber fu) (fun d hd => out_bo_enc d _ hd) ((ev_impl_isNumber fu x_0).trans hy)
theorem good_impl_isNumber (fu : Nat) : ∀ xs o, S_impl_isNumber fu xs = some o → ∀ y, o.x = some y → Good E Try.prog 119 xs (o.g y) := by
  intro xs o h y hy
  unfold S_impl_isNumber at h
  split at h
  · rename_i a0_1 a0_2 a0_3 a0_4 a0_5 a0_6
    cases h
    exact goodv_impl_isNumber fu (⟨a0_1, a0_2, a0_3, a0_4, a0_5, a0_6⟩ : S_impl_Cmd) y hy
  · cases h

/-! impl.isProto -/
def F_impl_isProto (fu : Nat) (n_0 : Int) : Option (Bool) :=
  (((bif (n_0 == 6) then (some true) else (some (n_0 == 17))) : Option Bool).bind fun m257 => (some m257))
def pcf_impl_isProto (fu : Nat) (f : Nat) (xs : List (D RT den)) : Option (Out RT den) := none
def pcx_impl_isProto (fu : Nat) (f : Nat) (xs : List (D RT den)) (ins : List (Ob RT den)) : Option (OutX RT den) := none
def pc_impl_isProto (fu : Nat) : Pc RT den := ⟨pcf_impl_isProto fu, fun _ => false, fun _ => false, pcx_impl_isProto fu⟩
def msk_impl_isProto (b : Nat) : List Nat := match b with | 200001 => [2] | _ => []
def lp_impl_isProto (fu : Nat) : Lp RT den (Bool) := fun b s k => none
theorem ev_impl_isProto (fu : Nat) (n_0 : Int) : evFun E (pc_impl_isProto fu) msk_impl_isProto (lp_impl_isProto fu) out_bo 120 [(.int .i64 n_0)] = F_impl_isProto fu n_0 := by kernel_rfl
noncomputable def body_impl_isProto : Code := Try.f120.body.getD .skip
theorem lpok_impl_isProto (fu : Nat) : LpOk E (pc_impl_isProto fu) msk_impl_isProto (lp_impl_isProto fu) (loops 0 body_impl_isProto) := by
  have h : loops 0 body_impl_isProto = [] := by kernel_rfl
  rw [h]; intro p hp; cases hp
def S_impl_isProto (fu : Nat) (xs : List (D RT den)) : Option (Out RT den) := match xs with | [.int .i64 a0_0] => some ⟨Bool, F_impl_isProto fu a0_0, enc_bo, fun _ => true⟩ | _ => none
theorem hpc_impl_isProto (fu : Nat) : ∀ f xs o, pcf_impl_isProto fu f xs = some o → ∀ y, o.x = some y → Good E Try.prog f xs (o.g y) := by
  intro f xs o h
  cases h
theorem hpx_impl_isProto (fu : Nat) : ∀ f xs ins o, pcx_impl_isProto fu f xs ins = some o → ∀ y, o.x = some y → GoodX E Try.prog f xs ins (o.g y).1 (o.g y).2 := by
  intro f xs ins o h
  cases h
theorem goodv_impl_isProto (fu : Nat) (n_0 : Int) (y : Bool) (hy : F_impl_isProto fu n_0 = some y) : Good E Try.prog 120 [(.int .i64 n_0)] (enc_bo y) :=
  fun_good E_ok (pc_good (pc := pc_impl_isProto fu) (hpc_impl_isProto fu) (hpx_impl_isProto fu)) (fn := Try.f120) (c := body_impl_isProto) (out := out_bo) (y := y) (by kernel_rfl) (by kernel_rfl) (by kernel_rfl) (lpok_impl_isProto fu) (fun d hd => out_bo_enc d _ hd) ((ev_impl_isProto fu n_0).trans hy)
theorem good_impl_isProto (fu : Nat) : ∀ xs o, S_impl_isProto fu xs = some o → ∀ y, o.x = some y → Good E Try.prog 120 xs (o.g y) := by
  intro xs o h y hy
  unfold S_impl_isProto at h
  split at h
  · rename_i a0_0
    cases h
    exact goodv_impl_isProto fu a0_0 y hy
  · cases h

/-! impl.CmdFault -/
def F_impl_CmdFault (fu : Nat) (x_0 : S_impl_Cmd) : Option (Int) :=
  ((F_impl_in fu x_0.Kind 1 9).bind fun y227 => (bif (!y227) then (some 1) else ((F_impl_needs fu x_0.Kind).bind fun y228 => ((((F_impl_in fu x_0.Expect (-1) 1000000).bind fun y229 =>
    (bif (!y229) then (some true) else (bif y228.1 then ((F_impl_isName fu x_0.Name).bind fun y230 => (bif (!y230) then (some true) else (bif y228.2.1 then ((F_impl_isAddress fu x_0.Addr).bind fun y231 =>
    (bif (!y231) then (some true) else (bif y228.2.2.1 then ((F_impl_isNumber fu x_0).bind fun y232 => (bif (!y232) then (some true) else (bif y228.2.2.2 then ((F_impl_isProto fu x_0.Proto).bind fun y233 =>
    (some (!y233))) else (some false)))) else (bif y228.2.2.2 then ((F_impl_isProto fu x_0.Proto).bind fun y234 => (some (!y234))) else (some false))))) else (bif y228.2.2.1 then
    ((F_impl_isNumber fu x_0).bind fun y235 => (bif (!y235) then (some true) else (bif y228.2.2.2 then ((F_impl_isProto fu x_0.Proto).bind fun y236 => (some (!y236))) else (some false)))) else
    (bif y228.2.2.2 then ((F_impl_isProto fu x_0.Proto).bind fun y237 => (some (!y237))) else (some false)))))) else (bif y228.2.1 then ((F_impl_isAddress fu x_0.Addr).bind fun y238 =>
    (bif (!y238) then (some true) else (bif y228.2.2.1 then ((F_impl_isNumber fu x_0).bind fun y239 => (bif (!y239) then (some true) else (bif y228.2.2.2 then ((F_impl_isProto fu x_0.Proto).bind fun y240 =>
    (some (!y240))) else (some false)))) else (bif y228.2.2.2 then ((F_impl_isProto fu x_0.Proto).bind fun y241 => (some (!y241))) else (some false))))) else (bif y228.2.2.1 then
    ((F_impl_isNumber fu x_0).bind fun y242 => (bif (!y242) then (some true) else (bif y228.2.2.2 then ((F_impl_isProto fu x_0.Proto).bind fun y243 => (some (!y243))) else (some false)))) else
    (bif y228.2.2.2 then ((F_impl_isProto fu x_0.Proto).bind fun y244 => (some (!y244))) else (some false))))))) : Option Bool).bind fun m245 => (bif m245 then (some 3) else (((bif (!y228.1) then
    (bif (x_0.Name != 0) then (some true) else (bif (!y228.2.1) then (bif (x_0.Addr != 0) then (some true) else (bif (!y228.2.2.1) then (bif (x_0.Number != 0) then (some true) else
    (bif (!y228.2.2.2) then (some (x_0.Proto != 0)) else (some false))) else (bif (!y228.2.2.2) then (some (x_0.Proto != 0)) else (some false)))) else (bif (!y228.2.2.1) then (bif (x_0.Number != 0) then
    (some true) else (bif (!y228.2.2.2) then (some (x_0.Proto != 0)) else (some false))) else (bif (!y228.2.2.2) then (some (x_0.Proto != 0)) else (some false))))) else (bif (!y228.2.1) then
    (bif (x_0.Addr != 0) then (some true) else (bif (!y228.2.2.1) then (bif (x_0.Number != 0) then (some true) else (bif (!y228.2.2.2) then (some (x_0.Proto != 0)) else (some false))) else
    (bif (!y228.2.2.2) then (some (x_0.Proto != 0)) else (some false)))) else (bif (!y228.2.2.1) then (bif (x_0.Number != 0) then (some true) else (bif (!y228.2.2.2) then (some (x_0.Proto != 0)) else
    (some false))) else (bif (!y228.2.2.2) then (some (x_0.Proto != 0)) else (some false))))) : Option Bool).bind fun m246 => (bif m246 then (some 1) else (some 0))))))))
def pcf_impl_CmdFault (fu : Nat) (f : Nat) (xs : List (D RT den)) : Option (Out RT den) := match f with | 86 => S_impl_in fu xs | 116 => S_impl_needs fu xs | 117 => S_impl_isName fu xs | 118 => S_impl_isAddress fu xs | 119 => S_impl_isNumber fu xs | 120 => S_impl_isProto fu xs | _ => none
def pcx_impl_CmdFault (fu : Nat) (f : Nat) (xs : List (D RT den)) (ins : List (Ob RT den)) : Option (OutX RT den) := none
def pc_impl_CmdFault (fu : Nat) : Pc RT den := ⟨pcf_impl_CmdFault fu, fun _ => false, fun _ => false, pcx_impl_CmdFault fu⟩
def msk_impl_CmdFault (b : Nat) : List Nat := match b with | 200004 => [19] | 200006 => [59] | _ => []
def lp_impl_CmdFault (fu : Nat) : Lp RT den (Int) := fun b s k => none
theorem ev_impl_CmdFault (fu : Nat) (x_0 : S_impl_Cmd) : evFun E (pc_impl_CmdFault fu) msk_impl_CmdFault (lp_impl_CmdFault fu) out_i64 101 [(.agg [(.int .i64 x_0.Kind), (.int .i64 x_0.Expect), (.int .i64 x_0.Name), (.int .i64 x_0.Addr), (.int .i64 x_0.Number), (.int .i64 x_0.Proto)])] = F_impl_CmdFault fu x_0 := by kernel_rfl
noncomputable def body_impl_CmdFault : Code := Try.f101.body.getD .skip
theorem lpok_impl_CmdFault (fu : Nat) : LpOk E (pc_impl_CmdFault fu) msk_impl_CmdFault (lp_impl_CmdFault fu) (loops 0 body_impl_CmdFault) := by
  have h : loops 0 body_impl_CmdFault = [] := by kernel_rfl
  rw [h]; intro p hp; cases hp
def S_impl_CmdFault (fu : Nat) (xs : List (D RT den)) : Option (Out RT den) := match xs with | [.agg [.int .i64 a0_1, .int .i64 a0_2, .int .i64 a0_3, .int .i64 a0_4, .int .i64 a0_5, .int .i64 a0_6]] => some ⟨Int, F_impl_CmdFault fu (⟨a0_1, a0_2, a0_3, a0_4, a0_5, a0_6⟩ : S_impl_Cmd), enc_i64, fun _ => true⟩ | _ => none
theorem hpc_impl_CmdFault (fu : Nat) : ∀ f xs o, pcf_impl_CmdFault fu f xs = some o → ∀ y, o.x = some y → Good E Try.prog f xs (o.g y) := by
  intro f xs o h
  unfold pcf_impl_CmdFault at h
  split at h
  · exact good_impl_in fu xs o h
  · exact good_impl_needs fu xs o h
  · exact good_impl_isName fu xs o h
  · exact good_impl_isAddress fu xs o h
  · exact good_impl_isNumber fu xs o h
  · exact good_impl_isProto fu xs o h
  · cases h
theorem hpx_impl_CmdFault (fu : Nat) : ∀ f xs ins o, pcx_impl_CmdFault fu f xs ins = some o → ∀ y, o.x = some y → GoodX E Try.prog f xs ins (o.g y).1 (o.g y).2 := by
  intro f xs ins o h
  cases h
theorem goodv_impl_CmdFault (fu : Nat) (x_0 : S_impl_Cmd) (y : Int) (hy : F_impl_CmdFault fu x_0 = some y) : Good E Try.prog 101 [(.agg [(.int .i64 x_0.Kind), (.int .i64 x_0.Expect), (.int .i64 x_0.Name), (.int .i64 x_0.Addr), (.int .i64 x_0.Number), (.int .i64 x_0.Proto)])] (enc_i64 y) :=
  fun_good E_ok (pc_good (pc := pc_impl_CmdFault fu) (hpc_impl_CmdFault fu) (hpx_impl_CmdFault fu)) (fn := Try.f101) (c := body_impl_CmdFault) (out := out_i64) (y := y) (by kernel_rfl) (by kernel_rfl) (by kernel_rfl) (lpok_impl_CmdFault fu) (fun d hd => out_i64_enc d _ hd) ((ev_impl_CmdFault fu x_0).trans hy)
theorem good_impl_CmdFault (fu : Nat) : ∀ xs o, S_impl_CmdFault fu xs = some o → ∀ y, o.x = some y → Good E Try.prog 101 xs (o.g y) := by
  intro xs o h y hy
  unfold S_impl_CmdFault at h
  split at h
  · rename_i a0_1 a0_2 a0_3 a0_4 a0_5 a0_6
    cases h
    exact goodv_impl_CmdFault fu (⟨a0_1, a0_2, a0_3, a0_4, a0_5, a0_6⟩ : S_impl_Cmd) y hy
  · cases h

/-! impl.EntryFault -/
def F_impl_EntryFault (fu : Nat) (x_0 : S_impl_Entry) : Option (Int) :=
  ((((F_impl_in fu x_0.Term 1 100000).bind fun y222 => (bif (!y222) then (some true) else ((F_impl_in fu x_0.Client 0 999).bind fun y223 => (bif (!y223) then (some true) else
    ((F_impl_in fu x_0.Seq 0 1000000).bind fun y224 => (some (!y224))))))) : Option Bool).bind fun m225 => (bif m225 then (some 3) else (bif (!((x_0.Client == 0) == (x_0.Seq == 0))) then
    (some 1) else (bif (x_0.Client != 0) then ((F_impl_CmdFault fu x_0.Cmd).bind fun y226 => (some y226)) else (bif (!((x_0.Cmd.Kind == 0) && ((x_0.Cmd.Expect == 0) &&
    ((x_0.Cmd.Name == 0) && ((x_0.Cmd.Addr == 0) && ((x_0.Cmd.Number == 0) && ((x_0.Cmd.Proto == 0) && true))))))) then (some 1) else (some 0))))))
def pcf_impl_EntryFault (fu : Nat) (f : Nat) (xs : List (D RT den)) : Option (Out RT den) := match f with | 86 => S_impl_in fu xs | 101 => S_impl_CmdFault fu xs | _ => none
def pcx_impl_EntryFault (fu : Nat) (f : Nat) (xs : List (D RT den)) (ins : List (Ob RT den)) : Option (OutX RT den) := none
def pc_impl_EntryFault (fu : Nat) : Pc RT den := ⟨pcf_impl_EntryFault fu, fun _ => false, fun _ => false, pcx_impl_EntryFault fu⟩
def msk_impl_EntryFault (b : Nat) : List Nat := match b with | 200001 => [3] | _ => []
def lp_impl_EntryFault (fu : Nat) : Lp RT den (Int) := fun b s k => none
theorem ev_impl_EntryFault (fu : Nat) (x_0 : S_impl_Entry) : evFun E (pc_impl_EntryFault fu) msk_impl_EntryFault (lp_impl_EntryFault fu) out_i64 60 [(.agg [(.int .i64 x_0.Term), (.int .i64 x_0.Client), (.int .i64 x_0.Seq), (.int .i64 x_0.Cmd.Kind), (.int .i64 x_0.Cmd.Expect), (.int .i64 x_0.Cmd.Name), (.int .i64 x_0.Cmd.Addr), (.int .i64 x_0.Cmd.Number), (.int .i64 x_0.Cmd.Proto)])] = F_impl_EntryFault fu x_0 := by kernel_rfl
noncomputable def body_impl_EntryFault : Code := Try.f60.body.getD .skip
theorem lpok_impl_EntryFault (fu : Nat) : LpOk E (pc_impl_EntryFault fu) msk_impl_EntryFault (lp_impl_EntryFault fu) (loops 0 body_impl_EntryFault) := by
  have h : loops 0 body_impl_EntryFault = [] := by kernel_rfl
  rw [h]; intro p hp; cases hp
def S_impl_EntryFault (fu : Nat) (xs : List (D RT den)) : Option (Out RT den) := match xs with | [.agg [.int .i64 a0_1, .int .i64 a0_2, .int .i64 a0_3, .int .i64 a0_5, .int .i64 a0_6, .int .i64 a0_7, .int .i64 a0_8, .int .i64 a0_9, .int .i64 a0_10]] => some ⟨Int, F_impl_EntryFault fu (⟨a0_1, a0_2, a0_3, (⟨a0_5, a0_6, a0_7, a0_8, a0_9, a0_10⟩ : S_impl_Cmd)⟩ : S_impl_Entry), enc_i64, fun _ => true⟩ | _ => none
theorem hpc_impl_EntryFault (fu : Nat) : ∀ f xs o, pcf_impl_EntryFault fu f xs = some o → ∀ y, o.x = some y → Good E Try.prog f xs (o.g y) := by
  intro f xs o h
  unfold pcf_impl_EntryFault at h
  split at h
  · exact good_impl_in fu xs o h
  · exact good_impl_CmdFault fu xs o h
  · cases h
theorem hpx_impl_EntryFault (fu : Nat) : ∀ f xs ins o, pcx_impl_EntryFault fu f xs ins = some o → ∀ y, o.x = some y → GoodX E Try.prog f xs ins (o.g y).1 (o.g y).2 := by
  intro f xs ins o h
  cases h
theorem goodv_impl_EntryFault (fu : Nat) (x_0 : S_impl_Entry) (y : Int) (hy : F_impl_EntryFault fu x_0 = some y) : Good E Try.prog 60 [(.agg [(.int .i64 x_0.Term), (.int .i64 x_0.Client), (.int .i64 x_0.Seq), (.int .i64 x_0.Cmd.Kind), (.int .i64 x_0.Cmd.Expect), (.int .i64 x_0.Cmd.Name), (.int .i64 x_0.Cmd.Addr), (.int .i64 x_0.Cmd.Number), (.int .i64 x_0.Cmd.Proto)])] (enc_i64 y) :=
  fun_good E_ok (pc_good (pc := pc_impl_EntryFault fu) (hpc_impl_EntryFault fu) (hpx_impl_EntryFault fu)) (fn := Try.f60) (c := body_impl_EntryFault) (out := out_i64) (y := y) (by kernel_rfl) (by kernel_rfl) (by kernel_rfl) (lpok_impl_EntryFault fu) (fun d hd => out_i64_enc d _ hd) ((ev_impl_EntryFault fu x_0).trans hy)
theorem good_impl_EntryFault (fu : Nat) : ∀ xs o, S_impl_EntryFault fu xs = some o → ∀ y, o.x = some y → Good E Try.prog 60 xs (o.g y) := by
  intro xs o h y hy
  unfold S_impl_EntryFault at h
  split at h
  · rename_i a0_1 a0_2 a0_3 a0_5 a0_6 a0_7 a0_8 a0_9 a0_10
    cases h
    exact goodv_impl_EntryFault fu (⟨a0_1, a0_2, a0_3, (⟨a0_5, a0_6, a0_7, a0_8, a0_9, a0_10⟩ : S_impl_Cmd)⟩ : S_impl_Entry) y hy
  · cases h

/-! impl.LogFault -/
def F_impl_LogFault_B0 {ρ : Type} (fu : Nat) (log0_0 : (Sl S_impl_Entry)) (t9_1 : (Sl S_impl_Entry)) (t10_2 : Int) (k0 : Int → Int → Int → Int → Int → Int → Int → Int → Int → Int → Option ρ) (k1 : Int → Int → Int → Int → Int → Int → Int → Int → Int → Option ρ) (k2 : Option ρ) (t11_3 : Int) (go : Int → Option ρ) : Option ρ :=
  (bif (decide (t11_3 < t10_2)) then ((bif (decide (0 ≤ t11_3) && decide ((Int.toNat t11_3) < t9_1.n)) then some () else none : Option Unit).bind fun _ => ((F_impl_EntryFault fu (t9_1.f (Int.toNat t11_3))).bind fun y201 =>
    (bif (y201 != 0) then (k0 y201 (t9_1.f (Int.toNat t11_3)).Term (t9_1.f (Int.toNat t11_3)).Client (t9_1.f (Int.toNat t11_3)).Seq (t9_1.f (Int.toNat t11_3)).Cmd.Kind (t9_1.f (Int.toNat t11_3)).Cmd.Expect (t9_1.f (Int.toNat t11_3)).Cmd.Name (t9_1.f (Int.toNat t11_3)).Cmd.Addr (t9_1.f (Int.toNat t11_3)).Cmd.Number (t9_1.f (Int.toNat t11_3)).Cmd.Proto) else
    (((bif (decide (t11_3 > 0)) then ((bif (decide (0 ≤ (IntKind.wrap .i64 (t11_3 - 1))) && decide ((Int.toNat (IntKind.wrap .i64 (t11_3 - 1))) < log0_0.n)) then some () else none : Option Unit).bind fun _ =>
    (some (decide ((t9_1.f (Int.toNat t11_3)).Term < (log0_0.f (Int.toNat (IntKind.wrap .i64 (t11_3 - 1)))).Term)))) else (some false)) : Option Bool).bind fun m202 => (bif m202 then
    (k1 (t9_1.f (Int.toNat t11_3)).Term (t9_1.f (Int.toNat t11_3)).Client (t9_1.f (Int.toNat t11_3)).Seq (t9_1.f (Int.toNat t11_3)).Cmd.Kind (t9_1.f (Int.toNat t11_3)).Cmd.Expect (t9_1.f (Int.toNat t11_3)).Cmd.Name (t9_1.f (Int.toNat t11_3)).Cmd.Addr (t9_1.f (Int.toNat t11_3)).Cmd.Number (t9_1.f (Int.toNat t11_3)).Cmd.Proto) else
    (go (IntKind.wrap .i64 (t11_3 + 1)))))))) else k2)
def F_impl_LogFault (fu : Nat) (log_0 : (Sl S_impl_Entry)) : Option (Int) :=
  (bif (decide (((log_0.n : Nat) : Int) > 40)) then (some 2) else (L (fun w0 go0 => F_impl_LogFault_B0 fu log_0 log_0 ((log_0.n : Nat) : Int) (fun z203 z204 z205 z206 z207 z208 z209 z210 z211 z212 =>
    (some z203)) (fun z213 z214 z215 z216 z217 z218 z219 z220 z221 => (some 1)) (some 0) w0 go0) fu (0 : Int)))
def pcf_impl_LogFault (fu : Nat) (f : Nat) (xs : List (D RT den)) : Option (Out RT den) := match f with | 60 => S_impl_EntryFault fu xs | _ => none
def pcx_impl_LogFault (fu : Nat) (f : Nat) (xs : List (D RT den)) (ins : List (Ob RT den)) : Option (OutX RT den) := none
def pc_impl_LogFault (fu : Nat) : Pc RT den := ⟨pcf_impl_LogFault fu, fun _ => false, fun _ => false, pcx_impl_LogFault fu⟩
def msk_impl_LogFault (b : Nat) : List Nat := match b with | 0 => [1, 2, 3, 4, 5, 6, 7, 8, 12, 13, 14, 15, 16, 17, 18, 19, 20, 21, 22, 23, 24, 25, 26, 27, 28, 29, 30, 31, 32, 33, 34] | 100000 => [0, 1, 3, 4, 5, 6, 7, 8, 9, 10, 11, 12, 13, 14, 15, 16, 17, 18, 19, 20, 21, 22, 23, 24, 25, 26, 27, 28, 29, 30, 31, 32, 33, 34] | 200009 => [33] | _ => []
def ps_impl_LogFault_0 : List (Pat RT) := [.flat (.rs .impl_Entry), .flat .dead, .flat .dead, .flat .dead, .flat .dead, .flat .dead, .flat .dead, .flat .dead, .flat .dead, .flat (.rs .impl_Entry), .flat (.int .i64), .flat (.int .i64), .flat .dead, .flat .dead, .flat .dead, .flat .dead, .flat .dead, .flat .dead, .flat .dead, .flat .dead, .flat .dead, .flat .dead, .flat .dead, .flat .dead, .flat .dead, .flat .dead, .flat .dead, .flat .dead, .flat .dead, .flat .dead, .flat .dead, .flat .dead, .flat .dead, .flat .dead, .flat .dead]
def os_impl_LogFault_0 : List (OP RT) := []
def conv_impl_LogFault_0 (r : Raw den ps_impl_LogFault_0 os_impl_LogFault_0) : ((Sl S_impl_Entry) × (Sl S_impl_Entry) × Int) × (Int) := ((r.1.1, r.1.2.2.2.2.2.2.2.2.2.1, r.1.2.2.2.2.2.2.2.2.2.2.1), r.1.2.2.2.2.2.2.2.2.2.2.2.1)
def back_impl_LogFault_0 (c : (Sl S_impl_Entry) × (Sl S_impl_Entry) × Int) (w : Int) : St RT den := ⟨[(.rs c.1.z .impl_Entry c.1.n c.1.f), .dead, .dead, .dead, .dead, .dead, .dead, .dead, .dead, (.rs c.2.1.z .impl_Entry c.2.1.n c.2.1.f), (.int .i64 c.2.2), (.int .i64 w), .dead, .dead, .dead, .dead, .dead, .dead, .dead, .dead, .dead, .dead, .dead, .dead, .dead, .dead, .dead, .dead, .dead, .dead, .dead, .dead, .dead, .dead, .dead], []⟩
def Bk_impl_LogFault_0 {ρ : Type} (fu : Nat) (c : (Sl S_impl_Entry) × (Sl S_impl_Entry) × Int) (k : Ex → St RT den → Option ρ) (w : Int) (go : (Int) → Option ρ) : Option ρ := F_impl_LogFault_B0 fu c.1 c.2.1 c.2.2 (fun a0 a1 a2 a3 a4 a5 a6 a7 a8 a9 => k .ret ⟨[.dead, .dead, (.int .i64 a0), .dead, .dead, .dead, .dead, .dead, .dead, .dead, .dead, .dead, .dead, .dead, .dead, .dead, .dead, .dead, .dead, .dead, .dead, .dead, .dead, .dead, .dead, .dead, .dead, .dead, .dead, .dead, .dead, .dead, .dead, .dead, .dead], [(.box false [(.int .i64 a1), (.int .i64 a2), (.int .i64 a3), (.int .i64 a4), (.int .i64 a5), (.int .i64 a6), (.int .i64 a7), (.int .i64 a8), (.int .i64 a9)])]⟩) (fun a0 a1 a2 a3 a4 a5 a6 a7 a8 => k .ret ⟨[.dead, .dead, (.int .i64 1), .dead, .dead, .dead, .dead, .dead, .dead, .dead, .dead, .dead, .dead, .dead, .dead, .dead, .dead, .dead, .dead, .dead, .dead, .dead, .dead, .dead, .dead, .dead, .dead, .dead, .dead, .dead, .dead, .dead, .dead, .dead, .dead], [(.box false [(.int .i64 a0), (.int .i64 a1), (.int .i64 a2), (.int .i64 a3), (.int .i64 a4), (.int .i64 a5), (.int .i64 a6), (.int .i64 a7), (.int .i64 a8)])]⟩) (k (.exit 0) ⟨[.dead, .dead, .dead, .dead, .dead, .dead, .dead, .dead, .dead, .dead, .dead, .dead, .dead, .dead, .dead, .dead, .dead, .dead, .dead, .dead, .dead, .dead, .dead, .dead, .dead, .dead, .dead, .dead, .dead, .dead, .dead, .dead, .dead, .dead, .dead], []⟩) w go
def lp_impl_LogFault (fu : Nat) : Lp RT den (Int) := fun b s k => match b with | 0 => handle ps_impl_LogFault_0 os_impl_LogFault_0 conv_impl_LogFault_0 (Bk_impl_LogFault_0 fu) fu s k | _ => none
theorem ev_impl_LogFault (fu : Nat) (log_0 : (Sl S_impl_Entry)) : evFun E (pc_impl_LogFault fu) msk_impl_LogFault (lp_impl_LogFault fu) out_i64 26 [(.rs log_0.z .impl_Entry log_0.n log_0.f)] = F_impl_LogFault fu log_0 := by kernel_rfl
noncomputable def body_impl_LogFault : Code := Try.f26.body.getD .skip
noncomputable def lc_impl_LogFault_0 : Code := ((loops 0 body_impl_LogFault).getD 0 (0, .skip)).2
theorem round_impl_LogFault_0 (fu : Nat) (it : St RT den → Option (Int)) (k : Ex → St RT den → Option (Int)) c w : evCode E (pc_impl_LogFault fu) msk_impl_LogFault (lp_impl_LogFault fu) 0 lc_impl_LogFault_0 (back_impl_LogFault_0 c w) (after (msk_impl_LogFault 0) (msk_impl_LogFault 100000) 0 it k) = Bk_impl_LogFault_0 fu c k w (fun w => it (back_impl_LogFault_0 c w)) := by kernel_rfl
theorem lpok_impl_LogFault_0 (fu : Nat) : ∀ s k r, lp_impl_LogFault fu 0 s k = some r → ∃ fuel, iter (msk_impl_LogFault 0) (msk_impl_LogFault 100000) s.objs.length (evCode E (pc_impl_LogFault fu) msk_impl_LogFault (lp_impl_LogFault fu) 0 lc_impl_LogFault_0) fuel s k = some r :=
  handle_ok (ps := ps_impl_LogFault_0) (os := os_impl_LogFault_0) (conv := conv_impl_LogFault_0) (B := Bk_impl_LogFault_0 fu) (fu := fu) back_impl_LogFault_0 (fun raw => by kernel_rfl) 0 (fun c w => by kernel_rfl) (round_impl_LogFault_0 fu)
theorem lpok_impl_LogFault (fu : Nat) : LpOk E (pc_impl_LogFault fu) msk_impl_LogFault (lp_impl_LogFault fu) (loops 0 body_impl_LogFault) := loop_all 1 (by kernel_rfl) fun i hi => match i, hi with
  | 0, _ => by
    have h : (loops 0 body_impl_LogFault).getD 0 (0, .skip) = (0, lc_impl_LogFault_0) := by kernel_rfl
    rw [h]; exact lpok_impl_LogFault_0 fu
  | i + 1, hi => absurd hi (by omega)
def S_impl_LogFault (fu : Nat) (xs : List (D RT den)) : Option (Out RT den) := match xs with | [.rs za0_0 .impl_Entry na0_0 fa0_0] => some ⟨Int, F_impl_LogFault fu (⟨za0_0, na0_0, fa0_0⟩ : (Sl S_impl_Entry)), enc_i64, fun _ => true⟩ | _ => none
theorem hpc_impl_LogFault (fu : Nat) : ∀ f xs o, pcf_impl_LogFault fu f xs = some o → ∀ y, o.x = some y → Good E Try.prog f xs (o.g y) := by
  intro f xs o h
  unfold pcf_impl_LogFault at h
  split at h
  · exact good_impl_EntryFault fu xs o h
  · cases h
theorem hpx_impl_LogFault (fu : Nat) : ∀ f xs ins o, pcx_impl_LogFault fu f xs ins = some o → ∀ y, o.x = some y → GoodX E Try.prog f xs ins (o.g y).1 (o.g y).2 := by
  intro f xs ins o h
  cases h
theorem goodv_impl_LogFault (fu : Nat) (log_0 : (Sl S_impl_Entry)) (y : Int) (hy : F_impl_LogFault fu log_0 = some y) : Good E Try.prog 26 [(.rs log_0.z .impl_Entry log_0.n log_0.f)] (enc_i64 y) :=
  fun_good E_ok (pc_good (pc := pc_impl_LogFault fu) (hpc_impl_LogFault fu) (hpx_impl_LogFault fu)) (fn := Try.f26) (c := body_impl_LogFault) (out := out_i64) (y := y) (by kernel_rfl) (by kernel_rfl) (by kernel_rfl) (lpok_impl_LogFault fu) (fun d hd => out_i64_enc d _ hd) ((ev_impl_LogFault fu log_0).trans hy)
theorem good_impl_LogFault (fu : Nat) : ∀ xs o, S_impl_LogFault fu xs = some o → ∀ y, o.x = some y → Good E Try.prog 26 xs (o.g y) := by
  intro xs o h y hy
  unfold S_impl_LogFault at h
  split at h
  · rename_i za0_0 na0_0 fa0_0
    cases h
    exact goodv_impl_LogFault fu (⟨za0_0, na0_0, fa0_0⟩ : (Sl S_impl_Entry)) y hy
  · cases h

/-! impl.last -/
def F_impl_last (fu : Nat) (log_0 : (Sl S_impl_Entry)) : Option (S_impl_Entry) :=
  (bif (((log_0.n : Nat) : Int) == 0) then (some (⟨0, 0, 0, (⟨0, 0, 0, 0, 0, 0⟩ : S_impl_Cmd)⟩ : S_impl_Entry)) else ((bif (decide (0 ≤ (IntKind.wrap .i64 (((log_0.n : Nat) : Int) - 1))) &&
    decide ((Int.toNat (IntKind.wrap .i64 (((log_0.n : Nat) : Int) - 1))) < log_0.n)) then some () else none : Option Unit).bind fun _ => (some (log_0.f (Int.toNat (IntKind.wrap .i64 (((log_0.n : Nat) : Int) - 1)))))))
def pcf_impl_last (fu : Nat) (f : Nat) (xs : List (D RT den)) : Option (Out RT den) := none
def pcx_impl_last (fu : Nat) (f : Nat) (xs : List (D RT den)) (ins : List (Ob RT den)) : Option (OutX RT den) := none
def pc_impl_last (fu : Nat) : Pc RT den := ⟨pcf_impl_last fu, fun _ => false, fun _ => false, pcx_impl_last fu⟩
def msk_impl_last (b : Nat) : List Nat := []
def lp_impl_last (fu : Nat) : Lp RT den (S_impl_Entry) := fun b s k => none
theorem ev_impl_last (fu : Nat) (log_0 : (Sl S_impl_Entry)) : evFun E (pc_impl_last fu) msk_impl_last (lp_impl_last fu) out_impl_Entry 46 [(.rs log_0.z .impl_Entry log_0.n log_0.f)] = F_impl_last fu log_0 := by kernel_rfl
noncomputable def body_impl_last : Code := Try.f46.body.getD .skip
theorem lpok_impl_last (fu : Nat) : LpOk E (pc_impl_last fu) msk_impl_last (lp_impl_last fu) (loops 0 body_impl_last) := by
  have h : loops 0 body_impl_last = [] := by kernel_rfl
  rw [h]; intro p hp; cases hp
def S_impl_last (fu : Nat) (xs : List (D RT den)) : Option (Out RT den) := match xs with | [.rs za0_0 .impl_Entry na0_0 fa0_0] => some ⟨S_impl_Entry, F_impl_last fu (⟨za0_0, na0_0, fa0_0⟩ : (Sl S_impl_Entry)), enc_impl_Entry, fun _ => true⟩ | _ => none
theorem hpc_impl_last (fu : Nat) : ∀ f xs o, pcf_impl_last fu f xs = some o → ∀ y, o.x = some y → Good E Try.prog f xs (o.g y) := by
  intro f xs o h
  cases h
theorem hpx_impl_last (fu : Nat) : ∀ f xs ins o, pcx_impl_last fu f xs ins = some o → ∀ y, o.x = some y → GoodX E Try.prog f xs ins (o.g y).1 (o.g y).2 := by
  intro f xs ins o h
  cases h
theorem goodv_impl_last (fu : Nat) (log_0 : (Sl S_impl_Entry)) (y : S_impl_Entry) (hy : F_impl_last fu log_0 = some y) : Good E Try.prog 46 [(.rs log_0.z .impl_Entry log_0.n log_0.f)] (enc_impl_Entry y) :=
  fun_good E_ok (pc_good (pc := pc_impl_last fu) (hpc_impl_last fu) (hpx_impl_last fu)) (fn := Try.f46) (c := body_impl_last) (out := out_impl_Entry) (y := y) (by kernel_rfl) (by kernel_rfl) (by kernel_rfl) (lpok_impl_last fu) (fun d hd => out_impl_Entry_enc d _ hd) ((ev_impl_last fu log_0).trans hy)
theorem good_impl_last (fu : Nat) : ∀ xs o, S_impl_last fu xs = some o → ∀ y, o.x = some y → Good E Try.prog 46 xs (o.g y) := by
  intro xs o h y hy
  unfold S_impl_last at h
  split at h
  · rename_i za0_0 na0_0 fa0_0
    cases h
    exact goodv_impl_last fu (⟨za0_0, na0_0, fa0_0⟩ : (Sl S_impl_Entry)) y hy
  · cases h
end Go.Proofs.Ytohlgllpplbehaa.Pc
