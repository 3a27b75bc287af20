/- The functions' evaluated forms, each a proved summary. Conditions: none. -/
import Derived.Test.YtjdgfkmiaikegaaPeT
namespace Go.Proofs.Ytjdgfkmiaikegaa.Pe
open Go Go.RowKit Go.Proofs Vm
set_option linter.unusedVariables false
set_option linter.unusedSimpArgs false
set_option maxRecDepth 100000
abbrev Ya0 : Type := Int × Int × Int × Int × Nat × Int × Int × Nat × Nat × Nat × (Nat → S_impl_Entry) × Nat × (Nat → Int) × Nat × (Nat → Int)
abbrev Ya1 : Type := Int × Nat × Int × Int × Int × Int × Int × Nat × Int × Int × Nat × Nat × Nat × (Nat → S_impl_Entry) × Nat × (Nat → Int) × Nat × (Nat → Int)
abbrev Ya2 : Type := Int × Int × Int × Int × Nat × Int × Int × Nat × Nat × Nat × (Nat → S_impl_Entry) × Nat × (Nat → Int) × Nat × (Nat → Int) × Nat × (Nat → Int) × Nat × (Nat → Int) × Nat × (Nat → Int)
def F_slices_Clone_impl_Entry_impl_Entry_H_raw (fu : Nat) (s_0 : (Sl S_impl_Entry)) : Option ((Sl S_impl_Entry)) :=
 ((s_0.z).bind fun b5 => (bif b5 then (some (⟨(some true), 0, (fun _ => dflt .impl_Entry)⟩ : (Sl S_impl_Entry))) else (bif (decide (s_0.n ≤ 9223372036854775807) && decide (s_0.n * 72 ≤ 140737488355328)) then
  (some (⟨none, s_0.n, s_0.f⟩ : (Sl S_impl_Entry))) else none)))
def pc_a0r (fu : Nat) : Pc RT den := ⟨pcf0, fun _ => false, fun _ => false, pcd0, pcd0, pcx0⟩
def msk_a0r (b : Nat) : List Nat := []
def lp_a0r (fu : Nat) : Lp RT den ((Sl S_impl_Entry)) := ⟨fun b s k => none, inl0⟩
theorem ev_a0r (fu : Nat) (s_0 : (Sl S_impl_Entry)) : evFunX E false (pc_a0r fu) msk_a0r (lp_a0r fu) out_sl_impl_Entry_H 36 [(.rs s_0.z .impl_Entry s_0.n s_0.f)] [] = F_slices_Clone_impl_Entry_impl_Entry_H_raw fu s_0 := by kernel_rfl
noncomputable def body_a0r : Code := Try.f36.body.getD .skip
theorem lpok_a0r (fu : Nat) : LpOk E (pc_a0r fu) 0 msk_a0r (lp_a0r fu) (loops 0 body_a0r) := lp_nil (loop_nil (by kernel_rfl)) (by kernel_rfl)
def S_a0r (fu : Nat) (xs : List (D RT den)) (ins : List (Ob RT den)) : Option (OutX RT den) := match xs, ins with | [.rs za0_0 .impl_Entry na0_0 fa0_0], [] => some ⟨(Sl S_impl_Entry), F_slices_Clone_impl_Entry_impl_Entry_H_raw fu (⟨za0_0, na0_0, fa0_0⟩ : (Sl S_impl_Entry)), enc_sl_impl_Entry_H⟩ | _, _ => none
theorem goodv_a0r (fu : Nat) (s_0 y : (Sl S_impl_Entry)) (hy : F_slices_Clone_impl_Entry_impl_Entry_H_raw fu s_0 = some y) : GoodX E Try.prog 36 [(.rs s_0.z .impl_Entry s_0.n s_0.f)] [] (enc_sl_impl_Entry_H y).1 (enc_sl_impl_Entry_H y).2 :=
 funX_good (ke := false) E_ok (pc_good (pc := pc_a0r fu) hpc0 hpx0) (fn := Try.f36) (by kernel_rfl) (by kernel_rfl) (by kernel_rfl) (lpok_a0r fu) (by kernel_rfl) (Nat.zero_le _) (fun d os hd => out_sl_impl_Entry_H_enc d os _ hd) ((ev_a0r fu s_0).trans hy)
def F_slices_Clone_impl_Entry_impl_Entry_H (fu : Nat) (s_0 : (Sl S_impl_Entry)) : Option ((Sl S_impl_Entry)) := bif decide (s_0.n ≤ 9223372036854775807) && decide (s_0.n * 72 ≤ 140737488355328) then some ⟨none, s_0.n, s_0.f⟩ else none
def S_a0 (fu : Nat) (xs : List (D RT den)) (ins : List (Ob RT den)) : Option (OutX RT den) := match xs, ins with | [.rs za0_0 .impl_Entry na0_0 fa0_0], [] => some ⟨(Sl S_impl_Entry), F_slices_Clone_impl_Entry_impl_Entry_H fu (⟨za0_0, na0_0, fa0_0⟩ : (Sl S_impl_Entry)), enc_sl_impl_Entry_H⟩ | _, _ => none
theorem good_a0 (fu : Nat) : GoodSX E Try.prog 36 (S_a0 fu) := by
 intro xs ins o h y hy
 unfold S_a0 at h
 split at h
 ·rename_i za0_0 na0_0 fa0_0
  cases h
  have hy : F_slices_Clone_impl_Entry_impl_Entry_H fu ⟨za0_0, na0_0, fa0_0⟩ = some y := hy
  unfold F_slices_Clone_impl_Entry_impl_Entry_H at hy
  dsimp only at hy
  cases hc : (decide (na0_0 ≤ 9223372036854775807) && decide (na0_0 * 72 ≤ 140737488355328)) with
  | false => rw [hc] at hy; cases hy
  | true =>
   rw [hc] at hy
   have hy := Option.some.inj hy; subst hy
   refine GoodX.clone (d0 := fun _ => dflt .impl_Entry) (goodv_a0r fu ⟨some true, na0_0, fa0_0⟩ ⟨some true, 0, fun _ => dflt .impl_Entry⟩ rfl) (goodv_a0r fu ⟨some false, na0_0, fa0_0⟩ ⟨none, na0_0, fa0_0⟩ ?_) _
   unfold F_slices_Clone_impl_Entry_impl_Entry_H_raw
   simp only [Option.bind_some, cond_false, hc, cond_true]
 ·cases h
def F_slices_Clone_int64_int64_H_raw (fu : Nat) (s_0 : (Sl Int)) : Option ((Sl Int)) :=
 ((s_0.z).bind fun b8 => (bif b8 then (some (⟨(some true), 0, (fun _ => dflt .i64)⟩ : (Sl Int))) else (bif (decide (s_0.n ≤ 9223372036854775807) && decide (s_0.n * 8 ≤ 140737488355328)) then
  (some (⟨none, s_0.n, s_0.f⟩ : (Sl Int))) else none)))
def pc_a1r (fu : Nat) : Pc RT den := ⟨pcf0, fun _ => false, fun _ => false, pcd0, pcd0, pcx0⟩
def msk_a1r (b : Nat) : List Nat := []
def lp_a1r (fu : Nat) : Lp RT den ((Sl Int)) := ⟨fun b s k => none, inl0⟩
theorem ev_a1r (fu : Nat) (s_0 : (Sl Int)) : evFunX E false (pc_a1r fu) msk_a1r (lp_a1r fu) out_sl_i64_H 76 [(.rs s_0.z .i64 s_0.n s_0.f)] [] = F_slices_Clone_int64_int64_H_raw fu s_0 := by kernel_rfl
noncomputable def body_a1r : Code := Try.f76.body.getD .skip
theorem lpok_a1r (fu : Nat) : LpOk E (pc_a1r fu) 0 msk_a1r (lp_a1r fu) (loops 0 body_a1r) := lp_nil (loop_nil (by kernel_rfl)) (by kernel_rfl)
def S_a1r (fu : Nat) (xs : List (D RT den)) (ins : List (Ob RT den)) : Option (OutX RT den) := match xs, ins with | [.rs za0_0 .i64 na0_0 fa0_0], [] => some ⟨(Sl Int), F_slices_Clone_int64_int64_H_raw fu (⟨za0_0, na0_0, fa0_0⟩ : (Sl Int)), enc_sl_i64_H⟩ | _, _ => none
theorem goodv_a1r (fu : Nat) (s_0 y : (Sl Int)) (hy : F_slices_Clone_int64_int64_H_raw fu s_0 = some y) : GoodX E Try.prog 76 [(.rs s_0.z .i64 s_0.n s_0.f)] [] (enc_sl_i64_H y).1 (enc_sl_i64_H y).2 :=
 funX_good (ke := false) E_ok (pc_good (pc := pc_a1r fu) hpc0 hpx0) (fn := Try.f76) (by kernel_rfl) (by kernel_rfl) (by kernel_rfl) (lpok_a1r fu) (by kernel_rfl) (Nat.zero_le _) (fun d os hd => out_sl_i64_H_enc d os _ hd) ((ev_a1r fu s_0).trans hy)
def F_slices_Clone_int64_int64_H (fu : Nat) (s_0 : (Sl Int)) : Option ((Sl Int)) := bif decide (s_0.n ≤ 9223372036854775807) && decide (s_0.n * 8 ≤ 140737488355328) then some ⟨none, s_0.n, s_0.f⟩ else none
def S_a1 (fu : Nat) (xs : List (D RT den)) (ins : List (Ob RT den)) : Option (OutX RT den) := match xs, ins with | [.rs za0_0 .i64 na0_0 fa0_0], [] => some ⟨(Sl Int), F_slices_Clone_int64_int64_H fu (⟨za0_0, na0_0, fa0_0⟩ : (Sl Int)), enc_sl_i64_H⟩ | _, _ => none
theorem good_a1 (fu : Nat) : GoodSX E Try.prog 76 (S_a1 fu) := by
 intro xs ins o h y hy
 unfold S_a1 at h
 split at h
 ·rename_i za0_0 na0_0 fa0_0
  cases h
  have hy : F_slices_Clone_int64_int64_H fu ⟨za0_0, na0_0, fa0_0⟩ = some y := hy
  unfold F_slices_Clone_int64_int64_H at hy
  dsimp only at hy
  cases hc : (decide (na0_0 ≤ 9223372036854775807) && decide (na0_0 * 8 ≤ 140737488355328)) with
  | false => rw [hc] at hy; cases hy
  | true =>
   rw [hc] at hy
   have hy := Option.some.inj hy; subst hy
   refine GoodX.clone (d0 := fun _ => dflt .i64) (goodv_a1r fu ⟨some true, na0_0, fa0_0⟩ ⟨some true, 0, fun _ => dflt .i64⟩ rfl) (goodv_a1r fu ⟨some false, na0_0, fa0_0⟩ ⟨none, na0_0, fa0_0⟩ ?_) _
   unfold F_slices_Clone_int64_int64_H_raw
   simp only [Option.bind_some, cond_false, hc, cond_true]
 ·cases h
def F_impl_Node_copied_H (fu : Nat) (n_0 : S_impl_Node) : Option (S_impl_Node) :=
 ((F_slices_Clone_impl_Entry_impl_Entry_H fu n_0.Log).bind fun y12 => ((F_slices_Clone_int64_int64_H fu n_0.Votes).bind fun y13 => ((F_slices_Clone_int64_int64_H fu n_0.Next).bind fun y14 =>
  ((F_slices_Clone_int64_int64_H fu n_0.Match).bind fun y15 => (some (⟨n_0.Id, n_0.Peers, n_0.Term, n_0.Voted, (⟨none, y12.n, y12.f⟩ : (Sl S_impl_Entry)), n_0.Role, n_0.Commit,
  (⟨none, y13.n, y13.f⟩ : (Sl Int)), (⟨none, y14.n, y14.f⟩ : (Sl Int)), (⟨none, y15.n, y15.f⟩ : (Sl Int))⟩ : S_impl_Node))))))
def pcx_a2 (fu f : Nat) (xs : List (D RT den)) (ins : List (Ob RT den)) : Option (OutX RT den) := match f with | 36 => S_a0 fu xs ins | 76 => S_a1 fu xs ins | _ => none
def pcd_a2 : Nat → Bool := fun _ => false
def pc_a2 (fu : Nat) : Pc RT den := ⟨pcf0, fun f => match f with | 36 => true | 76 => true | _ => false, fun _ => false, pcd_a2, pcd0, pcx_a2 fu⟩
def msk_a2 (b : Nat) : List Nat := []
def lp_a2 (fu : Nat) : Lp RT den (S_impl_Node) := ⟨fun b s k => none, inl0⟩
theorem ev_a2 (fu : Nat) (n_0 : S_impl_Node) : evFunX E false (pc_a2 fu) msk_a2 (lp_a2 fu) out_impl_Node_H 32 [(.agg [(ii n_0.Id), (ii n_0.Peers), (ii n_0.Term), (ii n_0.Voted), (.rs n_0.Log.z .impl_Entry n_0.Log.n n_0.Log.f), (ii n_0.Role), (ii n_0.Commit), (.rs n_0.Votes.z .i64 n_0.Votes.n n_0.Votes.f), (.rs n_0.Next.z .i64 n_0.Next.n n_0.Next.f), (.rs n_0.Match.z .i64 n_0.Match.n n_0.Match.f)])] [] = F_impl_Node_copied_H fu n_0 := by kernel_rfl
noncomputable def body_a2 : Code := Try.f32.body.getD .skip
theorem lpok_a2 (fu : Nat) : LpOk E (pc_a2 fu) 0 msk_a2 (lp_a2 fu) (loops 0 body_a2) := lp_nil (loop_nil (by kernel_rfl)) (by kernel_rfl)
def S_a2 (fu : Nat) (xs : List (D RT den)) (ins : List (Ob RT den)) : Option (OutX RT den) := match xs, ins with | [.agg [.int .i64 a0_1, .int .i64 a0_2, .int .i64 a0_3, .int .i64 a0_4, .rs za0_5 .impl_Entry na0_5 fa0_5, .int .i64 a0_6, .int .i64 a0_7, .rs za0_8 .i64 na0_8 fa0_8, .rs za0_9 .i64 na0_9 fa0_9, .rs za0_10 .i64 na0_10 fa0_10]], [] => some ⟨S_impl_Node, F_impl_Node_copied_H fu (⟨a0_1, a0_2, a0_3, a0_4, (⟨za0_5, na0_5, fa0_5⟩ : (Sl S_impl_Entry)), a0_6, a0_7, (⟨za0_8, na0_8, fa0_8⟩ : (Sl Int)), (⟨za0_9, na0_9, fa0_9⟩ : (Sl Int)), (⟨za0_10, na0_10, fa0_10⟩ : (Sl Int))⟩ : S_impl_Node), enc_impl_Node_H⟩ | _, _ => none
theorem hpx_a2 (fu : Nat) : HpxOk E Try.prog pcd_a2 (pcx_a2 fu) := by
 intro f xs ins o h
 unfold pcx_a2 at h
 split at h
 ·exact good_a0 fu xs ins o h
 ·exact good_a1 fu xs ins o h
 ·cases h
theorem goodv_a2 (fu : Nat) (n_0 y : S_impl_Node) (hy : F_impl_Node_copied_H fu n_0 = some y) : GoodX E Try.prog 32 [(.agg [(ii n_0.Id), (ii n_0.Peers), (ii n_0.Term), (ii n_0.Voted), (.rs n_0.Log.z .impl_Entry n_0.Log.n n_0.Log.f), (ii n_0.Role), (ii n_0.Commit), (.rs n_0.Votes.z .i64 n_0.Votes.n n_0.Votes.f), (.rs n_0.Next.z .i64 n_0.Next.n n_0.Next.f), (.rs n_0.Match.z .i64 n_0.Match.n n_0.Match.f)])] [] (enc_impl_Node_H y).1 (enc_impl_Node_H y).2 :=
 funX_good (ke := false) E_ok (pc_good (pc := pc_a2 fu) hpc0 (hpx_a2 fu)) (fn := Try.f32) (by kernel_rfl) (by kernel_rfl) (by kernel_rfl) (lpok_a2 fu) (by kernel_rfl) (Nat.zero_le _) (fun d os hd => out_impl_Node_H_enc d os _ hd) ((ev_a2 fu n_0).trans hy)
theorem good_a2 (fu : Nat) : GoodSX E Try.prog 32 (S_a2 fu) := by
 intro xs ins o h y hy
 unfold S_a2 at h
 split at h
 ·rename_i a0_1 a0_2 a0_3 a0_4 za0_5 na0_5 fa0_5 a0_6 a0_7 za0_8 na0_8 fa0_8 za0_9 na0_9 fa0_9 za0_10 na0_10 fa0_10
  cases h
  exact goodv_a2 fu (⟨a0_1, a0_2, a0_3, a0_4, (⟨za0_5, na0_5, fa0_5⟩ : (Sl S_impl_Entry)), a0_6, a0_7, (⟨za0_8, na0_8, fa0_8⟩ : (Sl Int)), (⟨za0_9, na0_9, fa0_9⟩ : (Sl Int)), (⟨za0_10, na0_10, fa0_10⟩ : (Sl Int))⟩ : S_impl_Node) y hy
 ·cases h
def F_impl_Node_isQuorum (fu : Nat) (n_0 : S_impl_Node) (many_1 : Int) : Option (Bool) :=
 (some (decide ((IntKind.wrap .i64 (2 * many_1)) > n_0.Peers)))
def pc_a3 (fu : Nat) : Pc RT den := ⟨pcf0, fun _ => false, fun _ => false, pcd0, pcd0, pcx0⟩
def msk_a3 (b : Nat) : List Nat := []
def lp_a3 (fu : Nat) : Lp RT den (Bool) := ⟨fun b s k => none, inl0⟩
theorem ev_a3 (fu : Nat) (n_0 : S_impl_Node) (many_1 : Int) : evFun E (pc_a3 fu) msk_a3 (lp_a3 fu) out_bo 50 [(.rptr [(ii n_0.Id), (ii n_0.Peers), (ii n_0.Term), (ii n_0.Voted), (.rs n_0.Log.z .impl_Entry n_0.Log.n n_0.Log.f), (ii n_0.Role), (ii n_0.Commit), (.rs n_0.Votes.z .i64 n_0.Votes.n n_0.Votes.f), (.rs n_0.Next.z .i64 n_0.Next.n n_0.Next.f), (.rs n_0.Match.z .i64 n_0.Match.n n_0.Match.f)]), (ii many_1)] = F_impl_Node_isQuorum fu n_0 many_1 := by kernel_rfl
noncomputable def body_a3 : Code := Try.f50.body.getD .skip
theorem lpok_a3 (fu : Nat) : LpOk E (pc_a3 fu) 0 msk_a3 (lp_a3 fu) (loops 0 body_a3) := lp_nil (loop_nil (by kernel_rfl)) (by kernel_rfl)
def S_a3 (fu : Nat) (xs : List (D RT den)) : Option (Out RT den) := match xs with | [.rptr (.int .i64 a0_1 :: .int .i64 a0_2 :: .int .i64 a0_3 :: .int .i64 a0_4 :: .rs za0_5 .impl_Entry na0_5 fa0_5 :: .int .i64 a0_6 :: .int .i64 a0_7 :: .rs za0_8 .i64 na0_8 fa0_8 :: .rs za0_9 .i64 na0_9 fa0_9 :: .rs za0_10 .i64 na0_10 fa0_10 :: ra0), .int .i64 a1_0] => some ⟨Bool, F_impl_Node_isQuorum fu (⟨a0_1, a0_2, a0_3, a0_4, (⟨za0_5, na0_5, fa0_5⟩ : (Sl S_impl_Entry)), a0_6, a0_7, (⟨za0_8, na0_8, fa0_8⟩ : (Sl Int)), (⟨za0_9, na0_9, fa0_9⟩ : (Sl Int)), (⟨za0_10, na0_10, fa0_10⟩ : (Sl Int))⟩ : S_impl_Node) a1_0, enc_bo, fun _ => true⟩ | _ => none
theorem goodv_a3 (fu : Nat) (n_0 : S_impl_Node) (many_1 : Int) (y : Bool) (hy : F_impl_Node_isQuorum fu n_0 many_1 = some y) : Good E Try.prog 50 [(.rptr [(ii n_0.Id), (ii n_0.Peers), (ii n_0.Term), (ii n_0.Voted), (.rs n_0.Log.z .impl_Entry n_0.Log.n n_0.Log.f), (ii n_0.Role), (ii n_0.Commit), (.rs n_0.Votes.z .i64 n_0.Votes.n n_0.Votes.f), (.rs n_0.Next.z .i64 n_0.Next.n n_0.Next.f), (.rs n_0.Match.z .i64 n_0.Match.n n_0.Match.f)]), (ii many_1)] (enc_bo y) :=
 fun_good E_ok (pc_good (pc := pc_a3 fu) hpc0 hpx0) (fn := Try.f50) (by kernel_rfl) (by kernel_rfl) (by kernel_rfl) (lpok_a3 fu) (fun d hd => out_bo_enc d _ hd) ((ev_a3 fu n_0 many_1).trans hy)
theorem good_a3 (fu : Nat) : GoodS E Try.prog 50 (S_a3 fu) := by
 intro xs o h y hy
 unfold S_a3 at h
 split at h
 ·rename_i a0_1 a0_2 a0_3 a0_4 za0_5 na0_5 fa0_5 a0_6 a0_7 za0_8 na0_8 fa0_8 za0_9 na0_9 fa0_9 za0_10 na0_10 fa0_10 ra0 a1_0
  cases h
  exact (goodv_a3 fu (⟨a0_1, a0_2, a0_3, a0_4, (⟨za0_5, na0_5, fa0_5⟩ : (Sl S_impl_Entry)), a0_6, a0_7, (⟨za0_8, na0_8, fa0_8⟩ : (Sl Int)), (⟨za0_9, na0_9, fa0_9⟩ : (Sl Int)), (⟨za0_10, na0_10, fa0_10⟩ : (Sl Int))⟩ : S_impl_Node) a1_0 y hy).sub ⟨Sub.of_eq ra0 rfl, .refl _, trivial⟩
 ·cases h
def F_bits_Mul64 (fu : Nat) (x_0 y_1 : Int) : Option (Int × Int) :=
 (some ((IntKind.wrap .u64 ((IntKind.wrap .u64 ((IntKind.wrap .u64 ((shrInt .u64 x_0 32) * (shrInt .u64 y_1 32))) + (shrInt .u64 (IntKind.wrap .u64 ((IntKind.wrap .u64 ((shrInt .u64 x_0 32) * (bitsAnd .u64 y_1 4294967295))) + (shrInt .u64 (IntKind.wrap .u64 ((bitsAnd .u64 x_0 4294967295) * (bitsAnd .u64 y_1 4294967295))) 32))) 32))) + (shrInt .u64 (IntKind.wrap .u64 ((bitsAnd .u64 (IntKind.wrap .u64 ((IntKind.wrap .u64 ((shrInt .u64 x_0 32) * (bitsAnd .u64 y_1 4294967295))) + (shrInt .u64 (IntKind.wrap .u64 ((bitsAnd .u64 x_0 4294967295) * (bitsAnd .u64 y_1 4294967295))) 32))) 4294967295) + (IntKind.wrap .u64 ((bitsAnd .u64 x_0 4294967295) * (shrInt .u64 y_1 32))))) 32))),
  (IntKind.wrap .u64 (x_0 * y_1))))
def pc_a4 (fu : Nat) : Pc RT den := ⟨pcf0, fun _ => false, fun _ => false, pcd0, pcd0, pcx0⟩
def msk_a4 (b : Nat) : List Nat := []
def lp_a4 (fu : Nat) : Lp RT den (Int × Int) := ⟨fun b s k => none, inl0⟩
theorem ev_a4 (fu : Nat) (x_0 y_1 : Int) : evFun E (pc_a4 fu) msk_a4 (lp_a4 fu) out_u64_u64 107 [(.int .u64 x_0), (.int .u64 y_1)] = F_bits_Mul64 fu x_0 y_1 := by kernel_rfl
noncomputable def body_a4 : Code := Try.f107.body.getD .skip
theorem lpok_a4 (fu : Nat) : LpOk E (pc_a4 fu) 0 msk_a4 (lp_a4 fu) (loops 0 body_a4) := lp_nil (loop_nil (by kernel_rfl)) (by kernel_rfl)
def S_a4 (fu : Nat) (xs : List (D RT den)) : Option (Out RT den) := match xs with | [.int .u64 a0_0, .int .u64 a1_0] => some ⟨Int × Int, F_bits_Mul64 fu a0_0 a1_0, enc_u64_u64, fun _ => true⟩ | _ => none
theorem goodv_a4 (fu : Nat) (x_0 y_1 : Int) (y : Int × Int) (hy : F_bits_Mul64 fu x_0 y_1 = some y) : Good E Try.prog 107 [(.int .u64 x_0), (.int .u64 y_1)] (enc_u64_u64 y) :=
 fun_good E_ok (pc_good (pc := pc_a4 fu) hpc0 hpx0) (fn := Try.f107) (by kernel_rfl) (by kernel_rfl) (by kernel_rfl) (lpok_a4 fu) (fun d hd => out_u64_u64_enc d _ hd) ((ev_a4 fu x_0 y_1).trans hy)
theorem good_a4 (fu : Nat) : GoodS E Try.prog 107 (S_a4 fu) := by
 intro xs o h y hy
 unfold S_a4 at h
 split at h
 ·rename_i a0_0 a1_0
  cases h
  exact goodv_a4 fu a0_0 a1_0 y hy
 ·cases h
def F_bits_Mul (fu : Nat) (x_0 y_1 : Int) : Option (Int × Int) :=
 ((F_bits_Mul64 fu x_0 y_1).bind fun y47 => (some (y47.1, y47.2)))
def pcf_a5 (fu f : Nat) (xs : List (D RT den)) : Option (Out RT den) := match f with | 107 => S_a4 fu xs | _ => none
def pc_a5 (fu : Nat) : Pc RT den := ⟨pcf_a5 fu, fun _ => false, fun _ => false, pcd0, pcd0, pcx0⟩
def msk_a5 (b : Nat) : List Nat := []
def lp_a5 (fu : Nat) : Lp RT den (Int × Int) := ⟨fun b s k => none, inl0⟩
theorem ev_a5 (fu : Nat) (x_0 y_1 : Int) : evFun E (pc_a5 fu) msk_a5 (lp_a5 fu) out_u64_u64 93 [(.int .u64 x_0), (.int .u64 y_1)] = F_bits_Mul fu x_0 y_1 := by kernel_rfl
noncomputable def body_a5 : Code := Try.f93.body.getD .skip
theorem lpok_a5 (fu : Nat) : LpOk E (pc_a5 fu) 0 msk_a5 (lp_a5 fu) (loops 0 body_a5) := lp_nil (loop_nil (by kernel_rfl)) (by kernel_rfl)
def S_a5 (fu : Nat) (xs : List (D RT den)) : Option (Out RT den) := match xs with | [.int .u64 a0_0, .int .u64 a1_0] => some ⟨Int × Int, F_bits_Mul fu a0_0 a1_0, enc_u64_u64, fun _ => true⟩ | _ => none
theorem hpc_a5 (fu : Nat) : HpcOk E Try.prog (pcf_a5 fu) := by
 intro f xs o h
 unfold pcf_a5 at h
 split at h
 ·exact good_a4 fu xs o h
 ·cases h
theorem goodv_a5 (fu : Nat) (x_0 y_1 : Int) (y : Int × Int) (hy : F_bits_Mul fu x_0 y_1 = some y) : Good E Try.prog 93 [(.int .u64 x_0), (.int .u64 y_1)] (enc_u64_u64 y) :=
 fun_good E_ok (pc_good (pc := pc_a5 fu) (hpc_a5 fu) hpx0) (fn := Try.f93) (by kernel_rfl) (by kernel_rfl) (by kernel_rfl) (lpok_a5 fu) (fun d hd => out_u64_u64_enc d _ hd) ((ev_a5 fu x_0 y_1).trans hy)
theorem good_a5 (fu : Nat) : GoodS E Try.prog 93 (S_a5 fu) := by
 intro xs o h y hy
 unfold S_a5 at h
 split at h
 ·rename_i a0_0 a1_0
  cases h
  exact goodv_a5 fu a0_0 a1_0 y hy
 ·cases h
def F_slices_Repeat_int64_int64_H_B0 {ρ : Type} (fu newslice7_0 on0_2 : Nat) (k0 : (Nat → Int) → Option ρ) (n8_1 : Int) (of0_3 : (Nat → Int)) (go : Int → (Nat → Int) → Option ρ) : Option ρ :=
 (bif (decide (n8_1 < ((newslice7_0 : Nat) : Int))) then ((bif (decide (0 ≤ n8_1) && (decide (n8_1 ≤ ((newslice7_0 : Nat) : Int)) && decide ((Int.toNat ((newslice7_0 : Nat) : Int)) ≤ newslice7_0))) then
  some () else none : Option Unit).bind fun _ => ((bif (decide (0 ≤ n8_1) && decide ((Int.toNat n8_1) ≤ newslice7_0)) then some () else none : Option Unit).bind fun _ => (go (IntKind.wrap .i64 (n8_1 + (((min (Int.toNat n8_1) ((Int.toNat ((newslice7_0 : Nat) : Int)) - (Int.toNat n8_1))) : Nat) : Int))) (fun i =>
  if (Int.toNat n8_1) ≤ i ∧ i < (Int.toNat n8_1) + (min (Int.toNat n8_1) ((Int.toNat ((newslice7_0 : Nat) : Int)) - (Int.toNat n8_1))) then (of0_3 (i - (Int.toNat n8_1))) else
  (of0_3 i))))) else (k0 of0_3))
def F_slices_Repeat_int64_int64_H (fu : Nat) (x_0 : (Sl Int)) (count_1 : Int) : Option ((Sl Int)) :=
 (bif (decide (count_1 < 0)) then none else ((F_bits_Mul fu (IntKind.wrap .u64 ((x_0.n : Nat) : Int)) (IntKind.wrap .u64 count_1)).bind fun y44 => (((bif (decide (y44.1 > 0)) then
  (some true) else (some (decide (y44.2 > 9223372036854775807)))) : Option Bool).bind fun m45 => (bif m45 then none else (bif (decide (0 ≤ (IntKind.wrap .i64 y44.2)) && (decide ((IntKind.wrap .i64 y44.2) = (IntKind.wrap .i64 y44.2)) &&
  (decide ((8 : Int) * (IntKind.wrap .i64 y44.2) ≤ 281474976710656) && decide ((IntKind.wrap .i64 y44.2) ≤ 9223372036854775807)))) then (L (fun w0 go0 =>
  F_slices_Repeat_int64_int64_H_B0 fu (Int.toNat (IntKind.wrap .i64 y44.2)) (Int.toNat (IntKind.wrap .i64 y44.2)) (fun z46 => (some (⟨none, (Int.toNat (IntKind.wrap .i64 y44.2)),
  z46⟩ : (Sl Int)))) w0.1 w0.2 (fun q0 q1 => go0 (q0, q1))) fu (((((min x_0.n (Int.toNat (IntKind.wrap .i64 y44.2))) : Nat) : Int), (fun i => if 0 ≤ i ∧ i < 0 + (min x_0.n (Int.toNat (IntKind.wrap .i64 y44.2))) then
  (x_0.f (i - 0)) else ((fun _ => 0) i))) : Int × (Nat → Int))) else none)))))
def pcf_a6 (fu f : Nat) (xs : List (D RT den)) : Option (Out RT den) := match f with | 93 => S_a5 fu xs | _ => none
def pc_a6 (fu : Nat) : Pc RT den := ⟨pcf_a6 fu, fun _ => false, fun _ => false, pcd0, pcd0, pcx0⟩
def msk_a6 (b : Nat) : List Nat := match b with | 0 => (rg 0 7 (rg 9 39 [])) | 100000 => (0 :: 1 :: 2 :: 3 :: 5 :: 6 :: (rg 8 40 [])) | 200004 => [26] | _ => []
def ps_a6_0 : List (Pat RT) := (fq 7 (.flat (.os 0) :: .flat (.int .i64) :: (fq 39 [])))
def os_a6_0 : List (OP RT) := [.row false .i64]
def conv_a6_0 (r : Raw den ps_a6_0 os_a6_0) : (Nat × Nat) × (Int × (Nat → Int)) := (((e5 r.1).2.2.1, r.2.1.1), ((e5 r.1).2.2.2.1, r.2.1.2))
def back_a6_0 (c : Nat × Nat) (w : Int × (Nat → Int)) : St RT den := ⟨(qs 7 ((.os 0 c.1) :: (ii w.1) :: (qs 39 []))), [(.row false .i64 c.2 w.2)]⟩
def Bk_a6_0 {ρ : Type} (fu : Nat) (c : Nat × Nat) (k : Ex → St RT den → Option ρ) (w : Int × (Nat → Int)) (go : (Int × (Nat → Int)) → Option ρ) : Option ρ := F_slices_Repeat_int64_int64_H_B0 fu c.1 c.2 (fun a0 => k (.exit 0) ⟨(qs 7 ((.os 0 c.1) :: (qs 40 []))), [(.row false .i64 c.2 a0)]⟩) w.1 w.2 (fun q0 q1 => go (q0, q1))
def lp_a6 (fu : Nat) : Lp RT den ((Sl Int)) := ⟨fun b s k => match b with | 0 => handle ps_a6_0 os_a6_0 conv_a6_0 (Bk_a6_0 fu) fu s k | _ => none, inl0⟩
theorem ev_a6 (fu : Nat) (x_0 : (Sl Int)) (count_1 : Int) : evFunX E false (pc_a6 fu) msk_a6 (lp_a6 fu) out_sl_i64_H 82 [(.rs x_0.z .i64 x_0.n x_0.f), (ii count_1)] [] = F_slices_Repeat_int64_int64_H fu x_0 count_1 := by kernel_rfl
noncomputable def body_a6 : Code := Try.f82.body.getD .skip
noncomputable def lc_a6_0 : Code := ((loops 0 body_a6).getD 0 (0, .skip)).2
theorem round_a6_0 (fu : Nat) : RoundOk E (pc_a6 fu) msk_a6 (lp_a6 fu) 0 lc_a6_0 back_a6_0 0 100000 1 (Bk_a6_0 fu) := fun it k c w => by kernel_rfl
theorem lpok_a6_0 (fu : Nat) : LpAt E (pc_a6 fu) msk_a6 (lp_a6 fu) 0 0 100000 0 lc_a6_0 :=
 handle_ok (ps := ps_a6_0) (os := os_a6_0) (conv := conv_a6_0) (B := Bk_a6_0 fu) (fu := fu) back_a6_0 (fun raw => by kernel_rfl) 1 (fun c w => by kernel_rfl) (round_a6_0 fu)
theorem lpok_a6 (fu : Nat) : LpOk E (pc_a6 fu) 0 msk_a6 (lp_a6 fu) (loops 0 body_a6) := lp_nil (loop_all 1 (by kernel_rfl) fun i hi => match i, hi with
 | 0, _ => by
  have h : (loops 0 body_a6).getD 0 (0, .skip) = (0, lc_a6_0) := by kernel_rfl
  rw [h]; exact lpok_a6_0 fu
 | i + 1, hi => absurd hi (by omega)) (by kernel_rfl)
def S_a6 (fu : Nat) (xs : List (D RT den)) (ins : List (Ob RT den)) : Option (OutX RT den) := match xs, ins with | [.rs za0_0 .i64 na0_0 fa0_0, .int .i64 a1_0], [] => some ⟨(Sl Int), F_slices_Repeat_int64_int64_H fu (⟨za0_0, na0_0, fa0_0⟩ : (Sl Int)) a1_0, enc_sl_i64_H⟩ | _, _ => none
theorem hpc_a6 (fu : Nat) : HpcOk E Try.prog (pcf_a6 fu) := by
 intro f xs o h
 unfold pcf_a6 at h
 split at h
 ·exact good_a5 fu xs o h
 ·cases h
theorem goodv_a6 (fu : Nat) (x_0 : (Sl Int)) (count_1 : Int) (y : (Sl Int)) (hy : F_slices_Repeat_int64_int64_H fu x_0 count_1 = some y) : GoodX E Try.prog 82 [(.rs x_0.z .i64 x_0.n x_0.f), (ii count_1)] [] (enc_sl_i64_H y).1 (enc_sl_i64_H y).2 :=
 funX_good (ke := false) E_ok (pc_good (pc := pc_a6 fu) (hpc_a6 fu) hpx0) (fn := Try.f82) (by kernel_rfl) (by kernel_rfl) (by kernel_rfl) (lpok_a6 fu) (by kernel_rfl) (Nat.zero_le _) (fun d os hd => out_sl_i64_H_enc d os _ hd) ((ev_a6 fu x_0 count_1).trans hy)
theorem good_a6 (fu : Nat) : GoodSX E Try.prog 82 (S_a6 fu) := by
 intro xs ins o h y hy
 unfold S_a6 at h
 split at h
 ·rename_i za0_0 na0_0 fa0_0 a1_0
  cases h
  exact goodv_a6 fu (⟨za0_0, na0_0, fa0_0⟩ : (Sl Int)) a1_0 y hy
 ·cases h
def F_impl_size_impl_Entry (fu : Nat) (list_0 : (Sl S_impl_Entry)) : Option (Int) :=
 (some ((list_0.n : Nat) : Int))
def pc_a7 (fu : Nat) : Pc RT den := ⟨pcf0, fun _ => false, fun _ => false, pcd0, pcd0, pcx0⟩
def msk_a7 (b : Nat) : List Nat := []
def lp_a7 (fu : Nat) : Lp RT den (Int) := ⟨fun b s k => none, inl0⟩
theorem ev_a7 (fu : Nat) (list_0 : (Sl S_impl_Entry)) : evFun E (pc_a7 fu) msk_a7 (lp_a7 fu) out_i64 37 [(.rs list_0.z .impl_Entry list_0.n list_0.f)] = F_impl_size_impl_Entry fu list_0 := by kernel_rfl
noncomputable def body_a7 : Code := Try.f37.body.getD .skip
theorem lpok_a7 (fu : Nat) : LpOk E (pc_a7 fu) 0 msk_a7 (lp_a7 fu) (loops 0 body_a7) := lp_nil (loop_nil (by kernel_rfl)) (by kernel_rfl)
def S_a7 (fu : Nat) (xs : List (D RT den)) : Option (Out RT den) := match xs with | [.rs za0_0 .impl_Entry na0_0 fa0_0] => some ⟨Int, F_impl_size_impl_Entry fu (⟨za0_0, na0_0, fa0_0⟩ : (Sl S_impl_Entry)), enc_i64, fun _ => true⟩ | _ => none
theorem goodv_a7 (fu : Nat) (list_0 : (Sl S_impl_Entry)) (y : Int) (hy : F_impl_size_impl_Entry fu list_0 = some y) : Good E Try.prog 37 [(.rs list_0.z .impl_Entry list_0.n list_0.f)] (enc_i64 y) :=
 fun_good E_ok (pc_good (pc := pc_a7 fu) hpc0 hpx0) (fn := Try.f37) (by kernel_rfl) (by kernel_rfl) (by kernel_rfl) (lpok_a7 fu) (fun d hd => out_i64_enc d _ hd) ((ev_a7 fu list_0).trans hy)
theorem good_a7 (fu : Nat) : GoodS E Try.prog 37 (S_a7 fu) := by
 intro xs o h y hy
 unfold S_a7 at h
 split at h
 ·rename_i za0_0 na0_0 fa0_0
  cases h
  exact goodv_a7 fu (⟨za0_0, na0_0, fa0_0⟩ : (Sl S_impl_Entry)) y hy
 ·cases h
def F_impl_Node_agree_M_B2 {ρ : Type} (fu : Nat) (index2_0 : Int) (t22_2 : Nat) (t23_3 o0_5 o0_6 o0_7 o0_8 : Int) (o0_9 : Nat) (o0_10 o0_11 : Int) (o0_12 o0_13 on1_14 : Nat) (of1_15 : (Nat → S_impl_Entry)) (on2_16 : Nat) (of2_17 : (Nat → Int)) (on3_18 : Nat) (of3_19 : (Nat → Int)) (k0 : Int → Option ρ) (many3_1 t24_4 : Int) (go : Int → Int → Option ρ) : Option ρ :=
 (bif (decide (t24_4 < t23_3)) then ((bif (decide (0 ≤ t24_4) && decide ((Int.toNat t24_4) < t22_2)) then some () else none : Option Unit).bind fun _ => (bif (decide ((of3_19 (Int.toNat t24_4)) ≥ index2_0)) then
  (go (IntKind.wrap .i64 (many3_1 + 1)) (IntKind.wrap .i64 (t24_4 + 1))) else (go many3_1 (IntKind.wrap .i64 (t24_4 + 1))))) else (k0 many3_1))
def F_impl_Node_agree_M_B0 {ρ : Type} (fu : Nat) (o0_1 o0_2 o0_3 o0_4 : Int) (o0_5 : Nat) (o0_6 o0_7 : Int) (o0_8 o0_9 on1_10 : Nat) (of1_11 : (Nat → S_impl_Entry)) (on2_12 : Nat) (of2_13 : (Nat → Int)) (on3_14 : Nat) (of3_15 : (Nat → Int)) (k0 : Int → Option ρ) (k1 : Option ρ) (index2_0 : Int) (go : Int → Option ρ) : Option ρ :=
 (bif (decide (index2_0 > o0_7)) then (L (fun w2 go2 => F_impl_Node_agree_M_B2 fu index2_0 o0_9 ((o0_9 : Nat) : Int) o0_1 o0_2 o0_3 o0_4 o0_5 o0_6 o0_7 o0_8 o0_9 on1_10 of1_11 on2_12 of2_13 on3_14 of3_15 (fun z58 =>
  ((((F_impl_Node_isQuorum fu (⟨o0_1, o0_2, o0_3, o0_4, (⟨none, o0_5, of1_11⟩ : (Sl S_impl_Entry)), o0_6, o0_7, (⟨(some true), 0, (fun _ => dflt .i64)⟩ : (Sl Int)), (⟨none, o0_8,
  of2_13⟩ : (Sl Int)), (⟨none, o0_9, of3_15⟩ : (Sl Int))⟩ : S_impl_Node) z58).bind fun y59 => (bif y59 then ((bif (decide (0 ≤ (IntKind.wrap .i64 (index2_0 - 1))) && decide ((Int.toNat (IntKind.wrap .i64 (index2_0 - 1))) < o0_5)) then
  some () else none : Option Unit).bind fun _ => (some ((of1_11 (Int.toNat (IntKind.wrap .i64 (index2_0 - 1)))).Term == o0_3))) else (some false))) : Option Bool).bind fun m60 =>
  (bif m60 then (k0 index2_0) else (go (IntKind.wrap .i64 (index2_0 - 1)))))) w2.1 w2.2 (fun q0 q1 => go2 (q0, q1))) fu ((0, 0) : Int × Int)) else k1)
def F_impl_Node_agree_M (fu : Nat) (b0_0 b0_1 b0_2 b0_3 : Int) (b0_4 : Nat) (b0_5 b0_6 : Int) (b0_7 b0_8 rn1 : Nat) (rf1 : (Nat → S_impl_Entry)) (rn2 : Nat) (rf2 : (Nat → Int)) (rn3 : Nat) (rf3 : (Nat → Int)) : Option (Ya0) :=
 ((F_impl_size_impl_Entry fu (⟨none, b0_4, rf1⟩ : (Sl S_impl_Entry))).bind fun y57 => (L (fun w0 go0 => F_impl_Node_agree_M_B0 fu b0_0 b0_1 b0_2 b0_3 b0_4 b0_5 b0_6 b0_7 b0_8 rn1 rf1 rn2 rf2 rn3 rf3 (fun z61 =>
  (some (b0_0, b0_1, b0_2, b0_3, b0_4, b0_5, z61, b0_7, b0_8, rn1, rf1, rn2, rf2, rn3, rf3))) (some (b0_0, b0_1, b0_2, b0_3, b0_4, b0_5, b0_6, b0_7, b0_8, rn1, rf1, rn2, rf2, rn3,
  rf3)) w0 go0) fu (y57 : Int)))
def pcf_a8 (fu f : Nat) (xs : List (D RT den)) : Option (Out RT den) := match f with | 37 => S_a7 fu xs | 50 => S_a3 fu xs | _ => none
def pc_a8 (fu : Nat) : Pc RT den := ⟨pcf_a8 fu, fun _ => false, fun _ => false, pcd0, pcd0, pcx0⟩
def msk_a8 (b : Nat) : List Nat := match b with | 0 => (1 :: (rg 3 54 [])) | 100000 => (rg 0 57 []) | 2 => (1 :: (rg 4 18 (rg 25 32 []))) | 100002 => (1 :: (rg 4 53 [])) | 200010 => [52] | _ => []
def ps_a8_2 : List (Pat RT) := (.flat (.ref 0 0) :: .flat .q :: .flat (.int .i64) :: .flat (.int .i64) :: (fq 18 (.flat (.os 3) :: .flat (.int .i64) :: .flat (.int .i64) :: (fq 32 []))))
def os_a8_2 : List (OP RT) := [.box true [(.int .i64), (.int .i64), (.int .i64), (.int .i64), (.os 1), (.int .i64), (.int .i64), (.emp true .i64), (.os 2), (.os 3)], .row true .impl_Entry, .row true .i64, .row true .i64]
def conv_a8_2 (r : Raw den ps_a8_2 os_a8_2) : (Ya1) × (Int × Int) := ((r.1.2.2.1, (e20 r.1).2.2.1, (e20 r.1).2.2.2.1, r.2.1.1, r.2.1.2.1, r.2.1.2.2.1, r.2.1.2.2.2.1, r.2.1.2.2.2.2.1, (e5 r.2.1).1, (e5 r.2.1).2.1, (e5 r.2.1).2.2.2.1, (e5 r.2.1).2.2.2.2.1, r.2.2.1.1, r.2.2.1.2, r.2.2.2.1.1, r.2.2.2.1.2, r.2.2.2.2.1.1, r.2.2.2.2.1.2), (r.1.2.2.2.1, (e20 r.1).2.2.2.2.1))
def back_a8_2 (c : Ya1) (w : Int × Int) : St RT den := ⟨((.ref 0 0) :: .q :: (ii c.1) :: (ii w.1) :: (qs 18 ((.os 3 c.2.1) :: (ii c.2.2.1) :: (ii w.2) :: (qs 32 [])))), [(.box true [(ii c.2.2.2.1), (ii c.2.2.2.2.1), (ii (e5 c).1), (ii (e5 c).2.1), (.os 1 (e5 c).2.2.1), (ii (e5 c).2.2.2.1), (ii (e5 c).2.2.2.2.1), (.emp true .i64), (.os 2 (e10 c).1), (.os 3 (e10 c).2.1)]), (.row true .impl_Entry (e10 c).2.2.1 (e10 c).2.2.2.1), (.row true .i64 (e10 c).2.2.2.2.1 (e5 (e10 c)).1), (.row true .i64 (e5 (e10 c)).2.1 (e5 (e10 c)).2.2)]⟩
def Bk_a8_2 {ρ : Type} (fu : Nat) (c : Ya1) (k : Ex → St RT den → Option ρ) (w : Int × Int) (go : (Int × Int) → Option ρ) : Option ρ := F_impl_Node_agree_M_B2 fu c.1 c.2.1 c.2.2.1 c.2.2.2.1 c.2.2.2.2.1 (e5 c).1 (e5 c).2.1 (e5 c).2.2.1 (e5 c).2.2.2.1 (e5 c).2.2.2.2.1 (e10 c).1 (e10 c).2.1 (e10 c).2.2.1 (e10 c).2.2.2.1 (e10 c).2.2.2.2.1 (e5 (e10 c)).1 (e5 (e10 c)).2.1 (e5 (e10 c)).2.2 (fun a0 => k (.exit 2) ⟨((.ref 0 0) :: .q :: (ii c.1) :: (ii a0) :: (qs 53 [])), [(.box true [(ii c.2.2.2.1), (ii c.2.2.2.2.1), (ii (e5 c).1), (ii (e5 c).2.1), (.os 1 (e5 c).2.2.1), (ii (e5 c).2.2.2.1), (ii (e5 c).2.2.2.2.1), (.emp true .i64), (.os 2 (e10 c).1), (.os 3 (e10 c).2.1)]), (.row true .impl_Entry (e10 c).2.2.1 (e10 c).2.2.2.1), (.row true .i64 (e10 c).2.2.2.2.1 (e5 (e10 c)).1), (.row true .i64 (e5 (e10 c)).2.1 (e5 (e10 c)).2.2)]⟩) w.1 w.2 (fun q0 q1 => go (q0, q1))
def ps_a8_0 : List (Pat RT) := (.flat (.ref 0 0) :: .flat .q :: .flat (.int .i64) :: (fq 54 []))
def os_a8_0 : List (OP RT) := [.box true [(.int .i64), (.int .i64), (.int .i64), (.int .i64), (.os 1), (.int .i64), (.int .i64), (.emp true .i64), (.os 2), (.os 3)], .row true .impl_Entry, .row true .i64, .row true .i64]
def conv_a8_0 (r : Raw den ps_a8_0 os_a8_0) : (Ya0) × (Int) := ((r.2.1.1, r.2.1.2.1, r.2.1.2.2.1, r.2.1.2.2.2.1, r.2.1.2.2.2.2.1, (e5 r.2.1).1, (e5 r.2.1).2.1, (e5 r.2.1).2.2.2.1, (e5 r.2.1).2.2.2.2.1, r.2.2.1.1, r.2.2.1.2, r.2.2.2.1.1, r.2.2.2.1.2, r.2.2.2.2.1.1, r.2.2.2.2.1.2), r.1.2.2.1)
def back_a8_0 (c : Ya0) (w : Int) : St RT den := ⟨((.ref 0 0) :: .q :: (ii w) :: (qs 54 [])), [(.box true [(ii c.1), (ii c.2.1), (ii c.2.2.1), (ii c.2.2.2.1), (.os 1 c.2.2.2.2.1), (ii (e5 c).1), (ii (e5 c).2.1), (.emp true .i64), (.os 2 (e5 c).2.2.1), (.os 3 (e5 c).2.2.2.1)]), (.row true .impl_Entry (e5 c).2.2.2.2.1 (e10 c).1), (.row true .i64 (e10 c).2.1 (e10 c).2.2.1), (.row true .i64 (e10 c).2.2.2.1 (e10 c).2.2.2.2)]⟩
def Bk_a8_0 {ρ : Type} (fu : Nat) (c : Ya0) (k : Ex → St RT den → Option ρ) (w : Int) (go : (Int) → Option ρ) : Option ρ := F_impl_Node_agree_M_B0 fu c.1 c.2.1 c.2.2.1 c.2.2.2.1 c.2.2.2.2.1 (e5 c).1 (e5 c).2.1 (e5 c).2.2.1 (e5 c).2.2.2.1 (e5 c).2.2.2.2.1 (e10 c).1 (e10 c).2.1 (e10 c).2.2.1 (e10 c).2.2.2.1 (e10 c).2.2.2.2 (fun a0 => k .ret ⟨(qs 57 []), [(.box true [(ii c.1), (ii c.2.1), (ii c.2.2.1), (ii c.2.2.2.1), (.os 1 c.2.2.2.2.1), (ii (e5 c).1), (ii a0), (.emp true .i64), (.os 2 (e5 c).2.2.1), (.os 3 (e5 c).2.2.2.1)]), (.row true .impl_Entry (e5 c).2.2.2.2.1 (e10 c).1), (.row true .i64 (e10 c).2.1 (e10 c).2.2.1), (.row true .i64 (e10 c).2.2.2.1 (e10 c).2.2.2.2)]⟩) (k (.exit 0) ⟨(qs 57 []), [(.box true [(ii c.1), (ii c.2.1), (ii c.2.2.1), (ii c.2.2.2.1), (.os 1 c.2.2.2.2.1), (ii (e5 c).1), (ii (e5 c).2.1), (.emp true .i64), (.os 2 (e5 c).2.2.1), (.os 3 (e5 c).2.2.2.1)]), (.row true .impl_Entry (e5 c).2.2.2.2.1 (e10 c).1), (.row true .i64 (e10 c).2.1 (e10 c).2.2.1), (.row true .i64 (e10 c).2.2.2.1 (e10 c).2.2.2.2)]⟩) w go
def lp_a8 (fu : Nat) : Lp RT den (Ya0) := ⟨fun b s k => match b with | 0 => handle ps_a8_0 os_a8_0 conv_a8_0 (Bk_a8_0 fu) fu s k | 2 => handle ps_a8_2 os_a8_2 conv_a8_2 (Bk_a8_2 fu) fu s k | _ => none, inl0⟩
def pso_a8 : List (Pat RT) := [.tup []]
def oso_a8 : List (OP RT) := [.box true [(.int .i64), (.int .i64), (.int .i64), (.int .i64), (.os 1), (.int .i64), (.int .i64), (.emp true .i64), (.os 2), (.os 3)], .row true .impl_Entry, .row true .i64, .row true .i64]
def conv_a8 (r : Raw den pso_a8 oso_a8) : Ya0 := (r.2.1.1, r.2.1.2.1, r.2.1.2.2.1, r.2.1.2.2.2.1, r.2.1.2.2.2.2.1, (e5 r.2.1).1, (e5 r.2.1).2.1, (e5 r.2.1).2.2.2.1, (e5 r.2.1).2.2.2.2.1, r.2.2.1.1, r.2.2.1.2, r.2.2.2.1.1, r.2.2.2.1.2, r.2.2.2.2.1.1, r.2.2.2.2.1.2)
def enc_a8 (y : Ya0) : D RT den × List (Ob RT den) := ((.tup []), [(.box true [(.int .i64 y.1), (.int .i64 y.2.1), (.int .i64 y.2.2.1), (.int .i64 y.2.2.2.1), (.os 1 y.2.2.2.2.1), (.int .i64 y.2.2.2.2.2.1), (.int .i64 y.2.2.2.2.2.2.1), (.emp true .i64), (.os 2 y.2.2.2.2.2.2.2.1), (.os 3 y.2.2.2.2.2.2.2.2.1)]), (.row true .impl_Entry y.2.2.2.2.2.2.2.2.2.1 y.2.2.2.2.2.2.2.2.2.2.1), (.row true .i64 y.2.2.2.2.2.2.2.2.2.2.2.1 y.2.2.2.2.2.2.2.2.2.2.2.2.1), (.row true .i64 y.2.2.2.2.2.2.2.2.2.2.2.2.2.1 y.2.2.2.2.2.2.2.2.2.2.2.2.2.2)])
def out_a8 (d : D RT den) (os : List (Ob RT den)) : Option (Ya0) := (unSt pso_a8 oso_a8 ⟨[d], os⟩).bind fun v => some (conv_a8 v.1)
theorem out_a8_enc (d : D RT den) (os : List (Ob RT den)) (y : Ya0) (h : out_a8 d os = some y) : d = (enc_a8 y).1 ∧ os = (enc_a8 y).2 :=
 outM (conv := conv_a8) (enc := enc_a8) (fun raw => by kernel_rfl) h
theorem ev_a8 (fu : Nat) (b0_0 b0_1 b0_2 b0_3 : Int) (b0_4 : Nat) (b0_5 b0_6 : Int) (b0_7 b0_8 rn1 : Nat) (rf1 : (Nat → S_impl_Entry)) (rn2 : Nat) (rf2 : (Nat → Int)) (rn3 : Nat) (rf3 : (Nat → Int)) : evFunM E false (pc_a8 fu) msk_a8 (lp_a8 fu) out_a8 66 [(.ref 0 0)] [(.box true [(ii b0_0), (ii b0_1), (ii b0_2), (ii b0_3), (.os 1 b0_4), (ii b0_5), (ii b0_6), (.emp true .i64), (.os 2 b0_7), (.os 3 b0_8)]), (.row true .impl_Entry rn1 rf1), (.row true .i64 rn2 rf2), (.row true .i64 rn3 rf3)] = F_impl_Node_agree_M fu b0_0 b0_1 b0_2 b0_3 b0_4 b0_5 b0_6 b0_7 b0_8 rn1 rf1 rn2 rf2 rn3 rf3 := by kernel_rfl
noncomputable def body_a8 : Code := Try.f66.body.getD .skip
noncomputable def lc_a8_0 : Code := ((loops 0 body_a8).getD 0 (0, .skip)).2
theorem round_a8_0 (fu : Nat) : RoundOk E (pc_a8 fu) msk_a8 (lp_a8 fu) 0 lc_a8_0 back_a8_0 0 100000 4 (Bk_a8_0 fu) := fun it k c w => by kernel_rfl
theorem lpok_a8_0 (fu : Nat) : LpAt E (pc_a8 fu) msk_a8 (lp_a8 fu) 0 0 100000 0 lc_a8_0 :=
 handle_ok (ps := ps_a8_0) (os := os_a8_0) (conv := conv_a8_0) (B := Bk_a8_0 fu) (fu := fu) back_a8_0 (fun raw => by kernel_rfl) 4 (fun c w => by kernel_rfl) (round_a8_0 fu)
noncomputable def lc_a8_2 : Code := ((loops 0 body_a8).getD 1 (0, .skip)).2
theorem round_a8_2 (fu : Nat) : RoundOk E (pc_a8 fu) msk_a8 (lp_a8 fu) 2 lc_a8_2 back_a8_2 2 100002 4 (Bk_a8_2 fu) := fun it k c w => by kernel_rfl
theorem lpok_a8_2 (fu : Nat) : LpAt E (pc_a8 fu) msk_a8 (lp_a8 fu) 2 2 100002 2 lc_a8_2 :=
 handle_ok (ps := ps_a8_2) (os := os_a8_2) (conv := conv_a8_2) (B := Bk_a8_2 fu) (fu := fu) back_a8_2 (fun raw => by kernel_rfl) 4 (fun c w => by kernel_rfl) (round_a8_2 fu)
theorem lpok_a8 (fu : Nat) : LpOk E (pc_a8 fu) 0 msk_a8 (lp_a8 fu) (loops 0 body_a8) := lp_nil (loop_all 2 (by kernel_rfl) fun i hi => match i, hi with
 | 0, _ => by
  have h : (loops 0 body_a8).getD 0 (0, .skip) = (0, lc_a8_0) := by kernel_rfl
  rw [h]; exact lpok_a8_0 fu
 | 1, _ => by
  have h : (loops 0 body_a8).getD 1 (0, .skip) = (2, lc_a8_2) := by kernel_rfl
  rw [h]; exact lpok_a8_2 fu
 | i + 2, hi => absurd hi (by omega)) (by kernel_rfl)
def S_a8 (fu : Nat) (xs : List (D RT den)) (ins : List (Ob RT den)) : Option (OutX RT den) := match xs, ins with | [.ref 0 0], [.box true [.int .i64 a1000_0, .int .i64 a1001_0, .int .i64 a1002_0, .int .i64 a1003_0, .os 1 a1004_0, .int .i64 a1005_0, .int .i64 a1006_0, .emp true .i64, .os 2 a1008_0, .os 3 a1009_0], .row true .impl_Entry rn1 rf1, .row true .i64 rn2 rf2, .row true .i64 rn3 rf3] => some ⟨Ya0, F_impl_Node_agree_M fu a1000_0 a1001_0 a1002_0 a1003_0 a1004_0 a1005_0 a1006_0 a1008_0 a1009_0 rn1 rf1 rn2 rf2 rn3 rf3, enc_a8⟩ | _, _ => none
theorem hpc_a8 (fu : Nat) : HpcOk E Try.prog (pcf_a8 fu) := by
 intro f xs o h
 unfold pcf_a8 at h
 split at h
 ·exact good_a7 fu xs o h
 ·exact good_a3 fu xs o h
 ·cases h
theorem goodv_a8 (fu : Nat) (b0_0 b0_1 b0_2 b0_3 : Int) (b0_4 : Nat) (b0_5 b0_6 : Int) (b0_7 b0_8 rn1 : Nat) (rf1 : (Nat → S_impl_Entry)) (rn2 : Nat) (rf2 : (Nat → Int)) (rn3 : Nat) (rf3 : (Nat → Int)) (y : Ya0) (hy : F_impl_Node_agree_M fu b0_0 b0_1 b0_2 b0_3 b0_4 b0_5 b0_6 b0_7 b0_8 rn1 rf1 rn2 rf2 rn3 rf3 = some y) : GoodX E Try.prog 66 [(.ref 0 0)] [(.box true [(ii b0_0), (ii b0_1), (ii b0_2), (ii b0_3), (.os 1 b0_4), (ii b0_5), (ii b0_6), (.emp true .i64), (.os 2 b0_7), (.os 3 b0_8)]), (.row true .impl_Entry rn1 rf1), (.row true .i64 rn2 rf2), (.row true .i64 rn3 rf3)] (enc_a8 y).1 (enc_a8 y).2 :=
 funM_good (ke := false) E_ok (pc_good (pc := pc_a8 fu) (hpc_a8 fu) hpx0) (fn := Try.f66) (by kernel_rfl) (by kernel_rfl) (by kernel_rfl) (lpok_a8 fu) (by kernel_rfl) (Nat.le_of_ble_eq_true (by kernel_rfl)) (fun d os hd => out_a8_enc d os _ hd) ((ev_a8 fu b0_0 b0_1 b0_2 b0_3 b0_4 b0_5 b0_6 b0_7 b0_8 rn1 rf1 rn2 rf2 rn3 rf3).trans hy)
theorem good_a8 (fu : Nat) : GoodSX E Try.prog 66 (S_a8 fu) := by
 intro xs ins o h y hy
 unfold S_a8 at h
 split at h
 ·rename_i a1000_0 a1001_0 a1002_0 a1003_0 a1004_0 a1005_0 a1006_0 a1008_0 a1009_0 rn1 rf1 rn2 rf2 rn3 rf3
  cases h
  exact goodv_a8 fu a1000_0 a1001_0 a1002_0 a1003_0 a1004_0 a1005_0 a1006_0 a1008_0 a1009_0 rn1 rf1 rn2 rf2 rn3 rf3 y hy
 ·cases h
def F_impl_Node_lead_M (fu : Nat) (b0_0 b0_1 b0_2 b0_3 : Int) (b0_4 : Nat) (b0_5 b0_6 : Int) (b0_7 b0_8 b0_9 rn1 : Nat) (rf1 : (Nat → S_impl_Entry)) (rn2 : Nat) (rf2 : (Nat → Int)) (rn3 : Nat) (rf3 : (Nat → Int)) (rn4 : Nat) (rf4 : (Nat → Int)) : Option (Ya2) :=
 ((F_impl_size_impl_Entry fu (⟨none, b0_4, rf1⟩ : (Sl S_impl_Entry))).bind fun y49 => ((F_slices_Repeat_int64_int64_H fu (⟨(some false), 1, (fun i => ([(IntKind.wrap .i64 (y49 + 1))] : List (Int)).getD i (dflt .i64))⟩ : (Sl Int)) b0_1).bind fun y50 =>
  (bif (decide (0 ≤ b0_1) && (decide (b0_1 = b0_1) && (decide ((8 : Int) * b0_1 ≤ 281474976710656) && decide (b0_1 ≤ 9223372036854775807)))) then ((F_impl_size_impl_Entry fu (⟨none,
  b0_4, rf1⟩ : (Sl S_impl_Entry))).bind fun y51 => ((bif (decide (0 ≤ b0_0) && decide ((Int.toNat b0_0) < (Int.toNat b0_1))) then some () else none : Option Unit).bind fun _ =>
  ((F_impl_Node_isQuorum fu (⟨b0_0, b0_1, b0_2, b0_3, (⟨none, b0_4, rf1⟩ : (Sl S_impl_Entry)), 2, b0_6, (⟨(some true), 0, (fun _ => dflt .i64)⟩ : (Sl Int)), (⟨none, y50.n, y50.f⟩ : (Sl Int)),
  (⟨none, (Int.toNat b0_1), (fun j => if j = (Int.toNat b0_0) then y51 else (fun _ => 0) j)⟩ : (Sl Int))⟩ : S_impl_Node) 1).bind fun y52 => (bif y52 then ((F_impl_Node_agree_M fu b0_0 b0_1 b0_2 b0_3 b0_4 2 b0_6 y50.n (Int.toNat b0_1) rn1 rf1 y50.n y50.f (Int.toNat b0_1) (fun j =>
  if j = (Int.toNat b0_0) then y51 else (fun _ => 0) j)).bind fun y62 => (some (y62.1, y62.2.1, y62.2.2.1, y62.2.2.2.1, y62.2.2.2.2.1, y62.2.2.2.2.2.1, y62.2.2.2.2.2.2.1,
  y62.2.2.2.2.2.2.2.1, y62.2.2.2.2.2.2.2.2.1, y62.2.2.2.2.2.2.2.2.2.1, y62.2.2.2.2.2.2.2.2.2.2.1, rn2, rf2, rn3, rf3, rn4, rf4, y62.2.2.2.2.2.2.2.1, y62.2.2.2.2.2.2.2.2.2.2.2.2.1,
  y62.2.2.2.2.2.2.2.2.1, y62.2.2.2.2.2.2.2.2.2.2.2.2.2.2))) else (some (b0_0, b0_1, b0_2, b0_3, b0_4, 2, b0_6, y50.n, (Int.toNat b0_1), rn1, rf1, rn2, rf2, rn3, rf3, rn4, rf4,
  y50.n, y50.f, (Int.toNat b0_1), (fun j => if j = (Int.toNat b0_0) then y51 else (fun _ => 0) j))))))) else none)))
def pcf_a9 (fu f : Nat) (xs : List (D RT den)) : Option (Out RT den) := match f with | 37 => S_a7 fu xs | 50 => S_a3 fu xs | _ => none
def pcx_a9 (fu f : Nat) (xs : List (D RT den)) (ins : List (Ob RT den)) : Option (OutX RT den) := match f with | 66 => S_a8 fu xs ins | 82 => S_a6 fu xs ins | _ => none
def pcd_a9 : Nat → Bool := fun _ => false
def pc_a9 (fu : Nat) : Pc RT den := ⟨pcf_a9 fu, fun f => match f with | 66 => true | 82 => true | _ => false, fun f => match f with | 66 => true | _ => false, pcd_a9, fun f => match f with | 82 => true | _ => false, pcx_a9 fu⟩
def msk_a9 (b : Nat) : List Nat := match b with | 600001 => [18990] | 800001 => (rg 1 48 []) | _ => []
def lp_a9 (fu : Nat) : Lp RT den (Ya2) := ⟨fun b s k => none, inl0⟩
def pso_a9 : List (Pat RT) := [.tup []]
def oso_a9 : List (OP RT) := [.box true [(.int .i64), (.int .i64), (.int .i64), (.int .i64), (.os 1), (.int .i64), (.int .i64), (.emp true .i64), (.os 5), (.os 6)], .row true .impl_Entry, .row true .i64, .row true .i64, .row true .i64, .row false .i64, .row false .i64]
def conv_a9 (r : Raw den pso_a9 oso_a9) : Ya2 := (r.2.1.1, r.2.1.2.1, r.2.1.2.2.1, r.2.1.2.2.2.1, r.2.1.2.2.2.2.1, (e5 r.2.1).1, (e5 r.2.1).2.1, (e5 r.2.1).2.2.2.1, (e5 r.2.1).2.2.2.2.1, r.2.2.1.1, r.2.2.1.2, r.2.2.2.1.1, r.2.2.2.1.2, r.2.2.2.2.1.1, r.2.2.2.2.1.2, (e5 r).1.1, (e5 r).1.2, (e5 r).2.1.1, (e5 r).2.1.2, (e5 r).2.2.1.1, (e5 r).2.2.1.2)
def enc_a9 (y : Ya2) : D RT den × List (Ob RT den) := ((.tup []), [(.box true [(.int .i64 y.1), (.int .i64 y.2.1), (.int .i64 y.2.2.1), (.int .i64 y.2.2.2.1), (.os 1 y.2.2.2.2.1), (.int .i64 y.2.2.2.2.2.1), (.int .i64 y.2.2.2.2.2.2.1), (.emp true .i64), (.os 5 y.2.2.2.2.2.2.2.1), (.os 6 y.2.2.2.2.2.2.2.2.1)]), (.row true .impl_Entry y.2.2.2.2.2.2.2.2.2.1 y.2.2.2.2.2.2.2.2.2.2.1), (.row true .i64 y.2.2.2.2.2.2.2.2.2.2.2.1 y.2.2.2.2.2.2.2.2.2.2.2.2.1), (.row true .i64 y.2.2.2.2.2.2.2.2.2.2.2.2.2.1 y.2.2.2.2.2.2.2.2.2.2.2.2.2.2.1), (.row true .i64 y.2.2.2.2.2.2.2.2.2.2.2.2.2.2.2.1 y.2.2.2.2.2.2.2.2.2.2.2.2.2.2.2.2.1), (.row false .i64 y.2.2.2.2.2.2.2.2.2.2.2.2.2.2.2.2.2.1 y.2.2.2.2.2.2.2.2.2.2.2.2.2.2.2.2.2.2.1), (.row false .i64 y.2.2.2.2.2.2.2.2.2.2.2.2.2.2.2.2.2.2.2.1 y.2.2.2.2.2.2.2.2.2.2.2.2.2.2.2.2.2.2.2.2)])
def out_a9 (d : D RT den) (os : List (Ob RT den)) : Option (Ya2) := (unSt pso_a9 oso_a9 ⟨[d], os⟩).bind fun v => some (conv_a9 v.1)
theorem out_a9_enc (d : D RT den) (os : List (Ob RT den)) (y : Ya2) (h : out_a9 d os = some y) : d = (enc_a9 y).1 ∧ os = (enc_a9 y).2 :=
 outM (conv := conv_a9) (enc := enc_a9) (fun raw => by kernel_rfl) h
theorem ev_a9 (fu : Nat) (b0_0 b0_1 b0_2 b0_3 : Int) (b0_4 : Nat) (b0_5 b0_6 : Int) (b0_7 b0_8 b0_9 rn1 : Nat) (rf1 : (Nat → S_impl_Entry)) (rn2 : Nat) (rf2 : (Nat → Int)) (rn3 : Nat) (rf3 : (Nat → Int)) (rn4 : Nat) (rf4 : (Nat → Int)) : evFunM E false (pc_a9 fu) msk_a9 (lp_a9 fu) out_a9 51 [(.ref 0 0)] [(.box true [(ii b0_0), (ii b0_1), (ii b0_2), (ii b0_3), (.os 1 b0_4), (ii b0_5), (ii b0_6), (.os 2 b0_7), (.os 3 b0_8), (.os 4 b0_9)]), (.row true .impl_Entry rn1 rf1), (.row true .i64 rn2 rf2), (.row true .i64 rn3 rf3), (.row true .i64 rn4 rf4)] = F_impl_Node_lead_M fu b0_0 b0_1 b0_2 b0_3 b0_4 b0_5 b0_6 b0_7 b0_8 b0_9 rn1 rf1 rn2 rf2 rn3 rf3 rn4 rf4 := by kernel_rfl
noncomputable def body_a9 : Code := Try.f51.body.getD .skip
theorem lpok_a9 (fu : Nat) : LpOk E (pc_a9 fu) 0 msk_a9 (lp_a9 fu) (loops 0 body_a9) := lp_nil (loop_nil (by kernel_rfl)) (by kernel_rfl)
def S_a9 (fu : Nat) (xs : List (D RT den)) (ins : List (Ob RT den)) : Option (OutX RT den) := match xs, ins with | [.ref 0 0], [.box true [.int .i64 a1000_0, .int .i64 a1001_0, .int .i64 a1002_0, .int .i64 a1003_0, .os 1 a1004_0, .int .i64 a1005_0, .int .i64 a1006_0, .os 2 a1007_0, .os 3 a1008_0, .os 4 a1009_0], .row true .impl_Entry rn1 rf1, .row true .i64 rn2 rf2, .row true .i64 rn3 rf3, .row true .i64 rn4 rf4] => some ⟨Ya2, F_impl_Node_lead_M fu a1000_0 a1001_0 a1002_0 a1003_0 a1004_0 a1005_0 a1006_0 a1007_0 a1008_0 a1009_0 rn1 rf1 rn2 rf2 rn3 rf3 rn4 rf4, enc_a9⟩ | _, _ => none
theorem hpc_a9 (fu : Nat) : HpcOk E Try.prog (pcf_a9 fu) := by
 intro f xs o h
 unfold pcf_a9 at h
 split at h
 ·exact good_a7 fu xs o h
 ·exact good_a3 fu xs o h
 ·cases h
theorem hpx_a9 (fu : Nat) : HpxOk E Try.prog pcd_a9 (pcx_a9 fu) := by
 intro f xs ins o h
 unfold pcx_a9 at h
 split at h
 ·exact good_a8 fu xs ins o h
 ·exact good_a6 fu xs ins o h
 ·cases h
theorem goodv_a9 (fu : Nat) (b0_0 b0_1 b0_2 b0_3 : Int) (b0_4 : Nat) (b0_5 b0_6 : Int) (b0_7 b0_8 b0_9 rn1 : Nat) (rf1 : (Nat → S_impl_Entry)) (rn2 : Nat) (rf2 : (Nat → Int)) (rn3 : Nat) (rf3 : (Nat → Int)) (rn4 : Nat) (rf4 : (Nat → Int)) (y : Ya2) (hy : F_impl_Node_lead_M fu b0_0 b0_1 b0_2 b0_3 b0_4 b0_5 b0_6 b0_7 b0_8 b0_9 rn1 rf1 rn2 rf2 rn3 rf3 rn4 rf4 = some y) : GoodX E Try.prog 51 [(.ref 0 0)] [(.box true [(ii b0_0), (ii b0_1), (ii b0_2), (ii b0_3), (.os 1 b0_4), (ii b0_5), (ii b0_6), (.os 2 b0_7), (.os 3 b0_8), (.os 4 b0_9)]), (.row true .impl_Entry rn1 rf1), (.row true .i64 rn2 rf2), (.row true .i64 rn3 rf3), (.row true .i64 rn4 rf4)] (enc_a9 y).1 (enc_a9 y).2 :=
 funM_good (ke := false) E_ok (pc_good (pc := pc_a9 fu) (hpc_a9 fu) (hpx_a9 fu)) (fn := Try.f51) (by kernel_rfl) (by kernel_rfl) (by kernel_rfl) (lpok_a9 fu) (by kernel_rfl) (Nat.le_of_ble_eq_true (by kernel_rfl)) (fun d os hd => out_a9_enc d os _ hd) ((ev_a9 fu b0_0 b0_1 b0_2 b0_3 b0_4 b0_5 b0_6 b0_7 b0_8 b0_9 rn1 rf1 rn2 rf2 rn3 rf3 rn4 rf4).trans hy)
theorem good_a9 (fu : Nat) : GoodSX E Try.prog 51 (S_a9 fu) := by
 intro xs ins o h y hy
 unfold S_a9 at h
 split at h
 ·rename_i a1000_0 a1001_0 a1002_0 a1003_0 a1004_0 a1005_0 a1006_0 a1007_0 a1008_0 a1009_0 rn1 rf1 rn2 rf2 rn3 rf3 rn4 rf4
  cases h
  exact goodv_a9 fu a1000_0 a1001_0 a1002_0 a1003_0 a1004_0 a1005_0 a1006_0 a1007_0 a1008_0 a1009_0 rn1 rf1 rn2 rf2 rn3 rf3 rn4 rf4 y hy
 ·cases h
def F_impl_in (fu : Nat) (n_0 low_1 high_2 : Int) : Option (Bool) :=
 (((bif (decide (n_0 ≥ low_1)) then (some (decide (n_0 ≤ high_2))) else (some false)) : Option Bool).bind fun m66 => (some m66))
def pc_a10 (fu : Nat) : Pc RT den := ⟨pcf0, fun _ => false, fun _ => false, pcd0, pcd0, pcx0⟩
def msk_a10 (b : Nat) : List Nat := match b with | 200001 => [6] | _ => []
def lp_a10 (fu : Nat) : Lp RT den (Bool) := ⟨fun b s k => none, inl0⟩
theorem ev_a10 (fu : Nat) (n_0 low_1 high_2 : Int) : evFun E (pc_a10 fu) msk_a10 (lp_a10 fu) out_bo 58 [(ii n_0), (ii low_1), (ii high_2)] = F_impl_in fu n_0 low_1 high_2 := by kernel_rfl
noncomputable def body_a10 : Code := Try.f58.body.getD .skip
theorem lpok_a10 (fu : Nat) : LpOk E (pc_a10 fu) 0 msk_a10 (lp_a10 fu) (loops 0 body_a10) := lp_nil (loop_nil (by kernel_rfl)) (by kernel_rfl)
def S_a10 (fu : Nat) (xs : List (D RT den)) : Option (Out RT den) := match xs with | [.int .i64 a0_0, .int .i64 a1_0, .int .i64 a2_0] => some ⟨Bool, F_impl_in fu a0_0 a1_0 a2_0, enc_bo, fun _ => true⟩ | _ => none
theorem goodv_a10 (fu : Nat) (n_0 low_1 high_2 : Int) (y : Bool) (hy : F_impl_in fu n_0 low_1 high_2 = some y) : Good E Try.prog 58 [(ii n_0), (ii low_1), (ii high_2)] (enc_bo y) :=
 fun_good E_ok (pc_good (pc := pc_a10 fu) hpc0 hpx0) (fn := Try.f58) (by kernel_rfl) (by kernel_rfl) (by kernel_rfl) (lpok_a10 fu) (fun d hd => out_bo_enc d _ hd) ((ev_a10 fu n_0 low_1 high_2).trans hy)
theorem good_a10 (fu : Nat) : GoodS E Try.prog 58 (S_a10 fu) := by
 intro xs o h y hy
 unfold S_a10 at h
 split at h
 ·rename_i a0_0 a1_0 a2_0
  cases h
  exact goodv_a10 fu a0_0 a1_0 a2_0 y hy
 ·cases h
def F_impl_Node_isId (fu : Nat) (n_0 : S_impl_Node) (id_1 : Int) : Option (Bool) :=
 ((F_impl_in fu id_1 0 (IntKind.wrap .i64 (n_0.Peers - 1))).bind fun y65 => (some y65))
def pcf_a11 (fu f : Nat) (xs : List (D RT den)) : Option (Out RT den) := match f with | 58 => S_a10 fu xs | _ => none
def pc_a11 (fu : Nat) : Pc RT den := ⟨pcf_a11 fu, fun _ => false, fun _ => false, pcd0, pcd0, pcx0⟩
def msk_a11 (b : Nat) : List Nat := []
def lp_a11 (fu : Nat) : Lp RT den (Bool) := ⟨fun b s k => none, inl0⟩
theorem ev_a11 (fu : Nat) (n_0 : S_impl_Node) (id_1 : Int) : evFun E (pc_a11 fu) msk_a11 (lp_a11 fu) out_bo 59 [(.rptr [(ii n_0.Id), (ii n_0.Peers), (ii n_0.Term), (ii n_0.Voted), (.rs n_0.Log.z .impl_Entry n_0.Log.n n_0.Log.f), (ii n_0.Role), (ii n_0.Commit), (.rs n_0.Votes.z .i64 n_0.Votes.n n_0.Votes.f), (.rs n_0.Next.z .i64 n_0.Next.n n_0.Next.f), (.rs n_0.Match.z .i64 n_0.Match.n n_0.Match.f)]), (ii id_1)] = F_impl_Node_isId fu n_0 id_1 := by kernel_rfl
noncomputable def body_a11 : Code := Try.f59.body.getD .skip
theorem lpok_a11 (fu : Nat) : LpOk E (pc_a11 fu) 0 msk_a11 (lp_a11 fu) (loops 0 body_a11) := lp_nil (loop_nil (by kernel_rfl)) (by kernel_rfl)
def S_a11 (fu : Nat) (xs : List (D RT den)) : Option (Out RT den) := match xs with | [.rptr (.int .i64 a0_1 :: .int .i64 a0_2 :: .int .i64 a0_3 :: .int .i64 a0_4 :: .rs za0_5 .impl_Entry na0_5 fa0_5 :: .int .i64 a0_6 :: .int .i64 a0_7 :: .rs za0_8 .i64 na0_8 fa0_8 :: .rs za0_9 .i64 na0_9 fa0_9 :: .rs za0_10 .i64 na0_10 fa0_10 :: ra0), .int .i64 a1_0] => some ⟨Bool, F_impl_Node_isId fu (⟨a0_1, a0_2, a0_3, a0_4, (⟨za0_5, na0_5, fa0_5⟩ : (Sl S_impl_Entry)), a0_6, a0_7, (⟨za0_8, na0_8, fa0_8⟩ : (Sl Int)), (⟨za0_9, na0_9, fa0_9⟩ : (Sl Int)), (⟨za0_10, na0_10, fa0_10⟩ : (Sl Int))⟩ : S_impl_Node) a1_0, enc_bo, fun _ => true⟩ | _ => none
theorem hpc_a11 (fu : Nat) : HpcOk E Try.prog (pcf_a11 fu) := by
 intro f xs o h
 unfold pcf_a11 at h
 split at h
 ·exact good_a10 fu xs o h
 ·cases h
theorem goodv_a11 (fu : Nat) (n_0 : S_impl_Node) (id_1 : Int) (y : Bool) (hy : F_impl_Node_isId fu n_0 id_1 = some y) : Good E Try.prog 59 [(.rptr [(ii n_0.Id), (ii n_0.Peers), (ii n_0.Term), (ii n_0.Voted), (.rs n_0.Log.z .impl_Entry n_0.Log.n n_0.Log.f), (ii n_0.Role), (ii n_0.Commit), (.rs n_0.Votes.z .i64 n_0.Votes.n n_0.Votes.f), (.rs n_0.Next.z .i64 n_0.Next.n n_0.Next.f), (.rs n_0.Match.z .i64 n_0.Match.n n_0.Match.f)]), (ii id_1)] (enc_bo y) :=
 fun_good E_ok (pc_good (pc := pc_a11 fu) (hpc_a11 fu) hpx0) (fn := Try.f59) (by kernel_rfl) (by kernel_rfl) (by kernel_rfl) (lpok_a11 fu) (fun d hd => out_bo_enc d _ hd) ((ev_a11 fu n_0 id_1).trans hy)
theorem good_a11 (fu : Nat) : GoodS E Try.prog 59 (S_a11 fu) := by
 intro xs o h y hy
 unfold S_a11 at h
 split at h
 ·rename_i a0_1 a0_2 a0_3 a0_4 za0_5 na0_5 fa0_5 a0_6 a0_7 za0_8 na0_8 fa0_8 za0_9 na0_9 fa0_9 za0_10 na0_10 fa0_10 ra0 a1_0
  cases h
  exact (goodv_a11 fu (⟨a0_1, a0_2, a0_3, a0_4, (⟨za0_5, na0_5, fa0_5⟩ : (Sl S_impl_Entry)), a0_6, a0_7, (⟨za0_8, na0_8, fa0_8⟩ : (Sl Int)), (⟨za0_9, na0_9, fa0_9⟩ : (Sl Int)), (⟨za0_10, na0_10, fa0_10⟩ : (Sl Int))⟩ : S_impl_Node) a1_0 y hy).sub ⟨Sub.of_eq ra0 rfl, .refl _, trivial⟩
 ·cases h
def F_impl_needs (fu : Nat) (kind_0 : Int) : Option (Bool × Bool × Bool × Bool) :=
 ((F_impl_in fu kind_0 5 8).bind fun y138 => ((F_impl_in fu kind_0 5 6).bind fun y139 => (bif (kind_0 == 1) then (some ((!y139), true, (kind_0 != 4), y138)) else (some ((!y139),
  y138, (kind_0 != 4), y138)))))
def pcf_a12 (fu f : Nat) (xs : List (D RT den)) : Option (Out RT den) := match f with | 58 => S_a10 fu xs | _ => none
def pc_a12 (fu : Nat) : Pc RT den := ⟨pcf_a12 fu, fun _ => false, fun _ => false, pcd0, pcd0, pcx0⟩
def msk_a12 (b : Nat) : List Nat := []
def lp_a12 (fu : Nat) : Lp RT den (Bool × Bool × Bool × Bool) := ⟨fun b s k => none, inl0⟩
theorem ev_a12 (fu : Nat) (kind_0 : Int) : evFun E (pc_a12 fu) msk_a12 (lp_a12 fu) out_bo_bo_bo_bo 96 [(ii kind_0)] = F_impl_needs fu kind_0 := by kernel_rfl
noncomputable def body_a12 : Code := Try.f96.body.getD .skip
theorem lpok_a12 (fu : Nat) : LpOk E (pc_a12 fu) 0 msk_a12 (lp_a12 fu) (loops 0 body_a12) := lp_nil (loop_nil (by kernel_rfl)) (by kernel_rfl)
def S_a12 (fu : Nat) (xs : List (D RT den)) : Option (Out RT den) := match xs with | [.int .i64 a0_0] => some ⟨Bool × Bool × Bool × Bool, F_impl_needs fu a0_0, enc_bo_bo_bo_bo, fun _ => true⟩ | _ => none
theorem hpc_a12 (fu : Nat) : HpcOk E Try.prog (pcf_a12 fu) := by
 intro f xs o h
 unfold pcf_a12 at h
 split at h
 ·exact good_a10 fu xs o h
 ·cases h
theorem goodv_a12 (fu : Nat) (kind_0 : Int) (y : Bool × Bool × Bool × Bool) (hy : F_impl_needs fu kind_0 = some y) : Good E Try.prog 96 [(ii kind_0)] (enc_bo_bo_bo_bo y) :=
 fun_good E_ok (pc_good (pc := pc_a12 fu) (hpc_a12 fu) hpx0) (fn := Try.f96) (by kernel_rfl) (by kernel_rfl) (by kernel_rfl) (lpok_a12 fu) (fun d hd => out_bo_bo_bo_bo_enc d _ hd) ((ev_a12 fu kind_0).trans hy)
theorem good_a12 (fu : Nat) : GoodS E Try.prog 96 (S_a12 fu) := by
 intro xs o h y hy
 unfold S_a12 at h
 split at h
 ·rename_i a0_0
  cases h
  exact goodv_a12 fu a0_0 y hy
 ·cases h
def F_impl_isName (fu : Nat) (name_0 : Int) : Option (Bool) :=
 ((F_impl_in fu name_0 1 999).bind fun y140 => (some y140))
def pcf_a13 (fu f : Nat) (xs : List (D RT den)) : Option (Out RT den) := match f with | 58 => S_a10 fu xs | _ => none
def pc_a13 (fu : Nat) : Pc RT den := ⟨pcf_a13 fu, fun _ => false, fun _ => false, pcd0, pcd0, pcx0⟩
def msk_a13 (b : Nat) : List Nat := []
def lp_a13 (fu : Nat) : Lp RT den (Bool) := ⟨fun b s k => none, inl0⟩
theorem ev_a13 (fu : Nat) (name_0 : Int) : evFun E (pc_a13 fu) msk_a13 (lp_a13 fu) out_bo 97 [(ii name_0)] = F_impl_isName fu name_0 := by kernel_rfl
noncomputable def body_a13 : Code := Try.f97.body.getD .skip
theorem lpok_a13 (fu : Nat) : LpOk E (pc_a13 fu) 0 msk_a13 (lp_a13 fu) (loops 0 body_a13) := lp_nil (loop_nil (by kernel_rfl)) (by kernel_rfl)
def S_a13 (fu : Nat) (xs : List (D RT den)) : Option (Out RT den) := match xs with | [.int .i64 a0_0] => some ⟨Bool, F_impl_isName fu a0_0, enc_bo, fun _ => true⟩ | _ => none
theorem hpc_a13 (fu : Nat) : HpcOk E Try.prog (pcf_a13 fu) := by
 intro f xs o h
 unfold pcf_a13 at h
 split at h
 ·exact good_a10 fu xs o h
 ·cases h
theorem goodv_a13 (fu : Nat) (name_0 : Int) (y : Bool) (hy : F_impl_isName fu name_0 = some y) : Good E Try.prog 97 [(ii name_0)] (enc_bo y) :=
 fun_good E_ok (pc_good (pc := pc_a13 fu) (hpc_a13 fu) hpx0) (fn := Try.f97) (by kernel_rfl) (by kernel_rfl) (by kernel_rfl) (lpok_a13 fu) (fun d hd => out_bo_enc d _ hd) ((ev_a13 fu name_0).trans hy)
theorem good_a13 (fu : Nat) : GoodS E Try.prog 97 (S_a13 fu) := by
 intro xs o h y hy
 unfold S_a13 at h
 split at h
 ·rename_i a0_0
  cases h
  exact goodv_a13 fu a0_0 y hy
 ·cases h
def F_impl_isAddress (fu : Nat) (a_0 : Int) : Option (Bool) :=
 ((F_impl_in fu a_0 0 4294967295).bind fun y141 => (some y141))
def pcf_a14 (fu f : Nat) (xs : List (D RT den)) : Option (Out RT den) := match f with | 58 => S_a10 fu xs | _ => none
def pc_a14 (fu : Nat) : Pc RT den := ⟨pcf_a14 fu, fun _ => false, fun _ => false, pcd0, pcd0, pcx0⟩
def msk_a14 (b : Nat) : List Nat := []
def lp_a14 (fu : Nat) : Lp RT den (Bool) := ⟨fun b s k => none, inl0⟩
theorem ev_a14 (fu : Nat) (a_0 : Int) : evFun E (pc_a14 fu) msk_a14 (lp_a14 fu) out_bo 98 [(ii a_0)] = F_impl_isAddress fu a_0 := by kernel_rfl
noncomputable def body_a14 : Code := Try.f98.body.getD .skip
theorem lpok_a14 (fu : Nat) : LpOk E (pc_a14 fu) 0 msk_a14 (lp_a14 fu) (loops 0 body_a14) := lp_nil (loop_nil (by kernel_rfl)) (by kernel_rfl)
def S_a14 (fu : Nat) (xs : List (D RT den)) : Option (Out RT den) := match xs with | [.int .i64 a0_0] => some ⟨Bool, F_impl_isAddress fu a0_0, enc_bo, fun _ => true⟩ | _ => none
theorem hpc_a14 (fu : Nat) : HpcOk E Try.prog (pcf_a14 fu) := by
 intro f xs o h
 unfold pcf_a14 at h
 split at h
 ·exact good_a10 fu xs o h
 ·cases h
theorem goodv_a14 (fu : Nat) (a_0 : Int) (y : Bool) (hy : F_impl_isAddress fu a_0 = some y) : Good E Try.prog 98 [(ii a_0)] (enc_bo y) :=
 fun_good E_ok (pc_good (pc := pc_a14 fu) (hpc_a14 fu) hpx0) (fn := Try.f98) (by kernel_rfl) (by kernel_rfl) (by kernel_rfl) (lpok_a14 fu) (fun d hd => out_bo_enc d _ hd) ((ev_a14 fu a_0).trans hy)
theorem good_a14 (fu : Nat) : GoodS E Try.prog 98 (S_a14 fu) := by
 intro xs o h y hy
 unfold S_a14 at h
 split at h
 ·rename_i a0_0
  cases h
  exact goodv_a14 fu a0_0 y hy
 ·cases h
def F_impl_isPort (fu : Nat) (n_0 : Int) : Option (Bool) :=
 ((F_impl_in fu n_0 0 65535).bind fun y147 => (some y147))
def pcf_a15 (fu f : Nat) (xs : List (D RT den)) : Option (Out RT den) := match f with | 58 => S_a10 fu xs | _ => none
def pc_a15 (fu : Nat) : Pc RT den := ⟨pcf_a15 fu, fun _ => false, fun _ => false, pcd0, pcd0, pcx0⟩
def msk_a15 (b : Nat) : List Nat := []
def lp_a15 (fu : Nat) : Lp RT den (Bool) := ⟨fun b s k => none, inl0⟩
theorem ev_a15 (fu : Nat) (n_0 : Int) : evFun E (pc_a15 fu) msk_a15 (lp_a15 fu) out_bo 108 [(ii n_0)] = F_impl_isPort fu n_0 := by kernel_rfl
noncomputable def body_a15 : Code := Try.f108.body.getD .skip
theorem lpok_a15 (fu : Nat) : LpOk E (pc_a15 fu) 0 msk_a15 (lp_a15 fu) (loops 0 body_a15) := lp_nil (loop_nil (by kernel_rfl)) (by kernel_rfl)
def S_a15 (fu : Nat) (xs : List (D RT den)) : Option (Out RT den) := match xs with | [.int .i64 a0_0] => some ⟨Bool, F_impl_isPort fu a0_0, enc_bo, fun _ => true⟩ | _ => none
theorem hpc_a15 (fu : Nat) : HpcOk E Try.prog (pcf_a15 fu) := by
 intro f xs o h
 unfold pcf_a15 at h
 split at h
 ·exact good_a10 fu xs o h
 ·cases h
theorem goodv_a15 (fu : Nat) (n_0 : Int) (y : Bool) (hy : F_impl_isPort fu n_0 = some y) : Good E Try.prog 108 [(ii n_0)] (enc_bo y) :=
 fun_good E_ok (pc_good (pc := pc_a15 fu) (hpc_a15 fu) hpx0) (fn := Try.f108) (by kernel_rfl) (by kernel_rfl) (by kernel_rfl) (lpok_a15 fu) (fun d hd => out_bo_enc d _ hd) ((ev_a15 fu n_0).trans hy)
theorem good_a15 (fu : Nat) : GoodS E Try.prog 108 (S_a15 fu) := by
 intro xs o h y hy
 unfold S_a15 at h
 split at h
 ·rename_i a0_0
  cases h
  exact goodv_a15 fu a0_0 y hy
 ·cases h
def F_impl_isNumber (fu : Nat) (x_0 : S_impl_Cmd) : Option (Bool) :=
 (bif (x_0.Kind == 1) then ((F_impl_in fu x_0.Number 0 9).bind fun y142 => (some y142)) else (bif (x_0.Kind == 2) then ((F_impl_in fu x_0.Number 0 9).bind fun y143 => (some y143)) else
  (bif (x_0.Kind == 3) then ((F_impl_in fu x_0.Number 1 3).bind fun y144 => (some y144)) else (bif (x_0.Kind == 9) then ((F_impl_in fu x_0.Number 0 1).bind fun y145 => (some y145)) else
  ((F_impl_isPort fu x_0.Number).bind fun y146 => (some y146))))))
def pcf_a16 (fu f : Nat) (xs : List (D RT den)) : Option (Out RT den) := match f with | 58 => S_a10 fu xs | 108 => S_a15 fu xs | _ => none
def pc_a16 (fu : Nat) : Pc RT den := ⟨pcf_a16 fu, fun _ => false, fun _ => false, pcd0, pcd0, pcx0⟩
def msk_a16 (b : Nat) : List Nat := []
def lp_a16 (fu : Nat) : Lp RT den (Bool) := ⟨fun b s k => none, inl0⟩
theorem ev_a16 (fu : Nat) (x_0 : S_impl_Cmd) : evFun E (pc_a16 fu) msk_a16 (lp_a16 fu) out_bo 99 [(.agg [(ii x_0.Kind), (ii x_0.Expect), (ii x_0.Name), (ii x_0.Addr), (ii x_0.Number), (ii x_0.Proto)])] = F_impl_isNumber fu x_0 := by kernel_rfl
noncomputable def body_a16 : Code := Try.f99.body.getD .skip
theorem lpok_a16 (fu : Nat) : LpOk E (pc_a16 fu) 0 msk_a16 (lp_a16 fu) (loops 0 body_a16) := lp_nil (loop_nil (by kernel_rfl)) (by kernel_rfl)
def S_a16 (fu : Nat) (xs : List (D RT den)) : Option (Out RT den) := match xs with | [.agg [.int .i64 a0_1, .int .i64 a0_2, .int .i64 a0_3, .int .i64 a0_4, .int .i64 a0_5, .int .i64 a0_6]] => some ⟨Bool, F_impl_isNumber fu (⟨a0_1, a0_2, a0_3, a0_4, a0_5, a0_6⟩ : S_impl_Cmd), enc_bo, fun _ => true⟩ | _ => none
theorem hpc_a16 (fu : Nat) : HpcOk E Try.prog (pcf_a16 fu) := by
 intro f xs o h
 unfold pcf_a16 at h
 split at h
 ·exact good_a10 fu xs o h
 ·exact good_a15 fu xs o h
 ·cases h
theorem goodv_a16 (fu : Nat) (x_0 : S_impl_Cmd) (y : Bool) (hy : F_impl_isNumber fu x_0 = some y) : Good E Try.prog 99 [(.agg [(ii x_0.Kind), (ii x_0.Expect), (ii x_0.Name), (ii x_0.Addr), (ii x_0.Number), (ii x_0.Proto)])] (enc_bo y) :=
 fun_good E_ok (pc_good (pc := pc_a16 fu) (hpc_a16 fu) hpx0) (fn := Try.f99) (by kernel_rfl) (by kernel_rfl) (by kernel_rfl) (lpok_a16 fu) (fun d hd => out_bo_enc d _ hd) ((ev_a16 fu x_0).trans hy)
theorem good_a16 (fu : Nat) : GoodS E Try.prog 99 (S_a16 fu) := by
 intro xs o h y hy
 unfold S_a16 at h
 split at h
 ·rename_i a0_1 a0_2 a0_3 a0_4 a0_5 a0_6
  cases h
  exact goodv_a16 fu (⟨a0_1, a0_2, a0_3, a0_4, a0_5, a0_6⟩ : S_impl_Cmd) y hy
 ·cases h
def F_impl_isProto (fu : Nat) (n_0 : Int) : Option (Bool) :=
 (((bif (n_0 == 6) then (some true) else (some (n_0 == 17))) : Option Bool).bind fun m148 => (some m148))
def pc_a17 (fu : Nat) : Pc RT den := ⟨pcf0, fun _ => false, fun _ => false, pcd0, pcd0, pcx0⟩
def msk_a17 (b : Nat) : List Nat := match b with | 200001 => [2] | _ => []
def lp_a17 (fu : Nat) : Lp RT den (Bool) := ⟨fun b s k => none, inl0⟩
theorem ev_a17 (fu : Nat) (n_0 : Int) : evFun E (pc_a17 fu) msk_a17 (lp_a17 fu) out_bo 100 [(ii n_0)] = F_impl_isProto fu n_0 := by kernel_rfl
noncomputable def body_a17 : Code := Try.f100.body.getD .skip
theorem lpok_a17 (fu : Nat) : LpOk E (pc_a17 fu) 0 msk_a17 (lp_a17 fu) (loops 0 body_a17) := lp_nil (loop_nil (by kernel_rfl)) (by kernel_rfl)
def S_a17 (fu : Nat) (xs : List (D RT den)) : Option (Out RT den) := match xs with | [.int .i64 a0_0] => some ⟨Bool, F_impl_isProto fu a0_0, enc_bo, fun _ => true⟩ | _ => none
theorem goodv_a17 (fu : Nat) (n_0 : Int) (y : Bool) (hy : F_impl_isProto fu n_0 = some y) : Good E Try.prog 100 [(ii n_0)] (enc_bo y) :=
 fun_good E_ok (pc_good (pc := pc_a17 fu) hpc0 hpx0) (fn := Try.f100) (by kernel_rfl) (by kernel_rfl) (by kernel_rfl) (lpok_a17 fu) (fun d hd => out_bo_enc d _ hd) ((ev_a17 fu n_0).trans hy)
theorem good_a17 (fu : Nat) : GoodS E Try.prog 100 (S_a17 fu) := by
 intro xs o h y hy
 unfold S_a17 at h
 split at h
 ·rename_i a0_0
  cases h
  exact goodv_a17 fu a0_0 y hy
 ·cases h
def F_impl_CmdFault (fu : Nat) (x_0 : S_impl_Cmd) : Option (Int) :=
 ((F_impl_in fu x_0.Kind 1 9).bind fun y118 => (bif (!y118) then (some 1) else ((F_impl_needs fu x_0.Kind).bind fun y119 => ((((F_impl_in fu x_0.Expect (-1) 1000000).bind fun y120 =>
  (bif (!y120) then (some true) else (bif y119.1 then ((F_impl_isName fu x_0.Name).bind fun y121 => (bif (!y121) then (some true) else (bif y119.2.1 then ((F_impl_isAddress fu x_0.Addr).bind fun y122 =>
  (bif (!y122) then (some true) else (bif y119.2.2.1 then ((F_impl_isNumber fu x_0).bind fun y123 => (bif (!y123) then (some true) else (bif y119.2.2.2 then ((F_impl_isProto fu x_0.Proto).bind fun y124 =>
  (some (!y124))) else (some false)))) else (bif y119.2.2.2 then ((F_impl_isProto fu x_0.Proto).bind fun y125 => (some (!y125))) else (some false))))) else (bif y119.2.2.1 then
  ((F_impl_isNumber fu x_0).bind fun y126 => (bif (!y126) then (some true) else (bif y119.2.2.2 then ((F_impl_isProto fu x_0.Proto).bind fun y127 => (some (!y127))) else (some false)))) else
  (bif y119.2.2.2 then ((F_impl_isProto fu x_0.Proto).bind fun y128 => (some (!y128))) else (some false)))))) else (bif y119.2.1 then ((F_impl_isAddress fu x_0.Addr).bind fun y129 =>
  (bif (!y129) then (some true) else (bif y119.2.2.1 then ((F_impl_isNumber fu x_0).bind fun y130 => (bif (!y130) then (some true) else (bif y119.2.2.2 then ((F_impl_isProto fu x_0.Proto).bind fun y131 =>
  (some (!y131))) else (some false)))) else (bif y119.2.2.2 then ((F_impl_isProto fu x_0.Proto).bind fun y132 => (some (!y132))) else (some false))))) else (bif y119.2.2.1 then
  ((F_impl_isNumber fu x_0).bind fun y133 => (bif (!y133) then (some true) else (bif y119.2.2.2 then ((F_impl_isProto fu x_0.Proto).bind fun y134 => (some (!y134))) else (some false)))) else
  (bif y119.2.2.2 then ((F_impl_isProto fu x_0.Proto).bind fun y135 => (some (!y135))) else (some false))))))) : Option Bool).bind fun m136 => (bif m136 then (some 3) else (((bif (!y119.1) then
  (bif (x_0.Name != 0) then (some true) else (bif (!y119.2.1) then (bif (x_0.Addr != 0) then (some true) else (bif (!y119.2.2.1) then (bif (x_0.Number != 0) then (some true) else
  (bif (!y119.2.2.2) then (some (x_0.Proto != 0)) else (some false))) else (bif (!y119.2.2.2) then (some (x_0.Proto != 0)) else (some false)))) else (bif (!y119.2.2.1) then (bif (x_0.Number != 0) then
  (some true) else (bif (!y119.2.2.2) then (some (x_0.Proto != 0)) else (some false))) else (bif (!y119.2.2.2) then (some (x_0.Proto != 0)) else (some false))))) else (bif (!y119.2.1) then
  (bif (x_0.Addr != 0) then (some true) else (bif (!y119.2.2.1) then (bif (x_0.Number != 0) then (some true) else (bif (!y119.2.2.2) then (some (x_0.Proto != 0)) else (some false))) else
  (bif (!y119.2.2.2) then (some (x_0.Proto != 0)) else (some false)))) else (bif (!y119.2.2.1) then (bif (x_0.Number != 0) then (some true) else (bif (!y119.2.2.2) then (some (x_0.Proto != 0)) else
  (some false))) else (bif (!y119.2.2.2) then (some (x_0.Proto != 0)) else (some false))))) : Option Bool).bind fun m137 => (bif m137 then (some 1) else (some 0))))))))
def pcf_a18 (fu f : Nat) (xs : List (D RT den)) : Option (Out RT den) := match f with | 58 => S_a10 fu xs | 96 => S_a12 fu xs | 97 => S_a13 fu xs | 98 => S_a14 fu xs | 99 => S_a16 fu xs | 100 => S_a17 fu xs | _ => none
def pc_a18 (fu : Nat) : Pc RT den := ⟨pcf_a18 fu, fun _ => false, fun _ => false, pcd0, pcd0, pcx0⟩
def msk_a18 (b : Nat) : List Nat := match b with | 200004 => [19] | 200006 => [59] | _ => []
def lp_a18 (fu : Nat) : Lp RT den (Int) := ⟨fun b s k => none, inl0⟩
theorem ev_a18 (fu : Nat) (x_0 : S_impl_Cmd) : evFun E (pc_a18 fu) msk_a18 (lp_a18 fu) out_i64 88 [(.agg [(ii x_0.Kind), (ii x_0.Expect), (ii x_0.Name), (ii x_0.Addr), (ii x_0.Number), (ii x_0.Proto)])] = F_impl_CmdFault fu x_0 := by kernel_rfl
noncomputable def body_a18 : Code := Try.f88.body.getD .skip
theorem lpok_a18 (fu : Nat) : LpOk E (pc_a18 fu) 0 msk_a18 (lp_a18 fu) (loops 0 body_a18) := lp_nil (loop_nil (by kernel_rfl)) (by kernel_rfl)
def S_a18 (fu : Nat) (xs : List (D RT den)) : Option (Out RT den) := match xs with | [.agg [.int .i64 a0_1, .int .i64 a0_2, .int .i64 a0_3, .int .i64 a0_4, .int .i64 a0_5, .int .i64 a0_6]] => some ⟨Int, F_impl_CmdFault fu (⟨a0_1, a0_2, a0_3, a0_4, a0_5, a0_6⟩ : S_impl_Cmd), enc_i64, fun _ => true⟩ | _ => none
theorem hpc_a18 (fu : Nat) : HpcOk E Try.prog (pcf_a18 fu) := by
 intro f xs o h
 unfold pcf_a18 at h
 split at h
 ·exact good_a10 fu xs o h
 ·exact good_a12 fu xs o h
 ·exact good_a13 fu xs o h
 ·exact good_a14 fu xs o h
 ·exact good_a16 fu xs o h
 ·exact good_a17 fu xs o h
 ·cases h
theorem goodv_a18 (fu : Nat) (x_0 : S_impl_Cmd) (y : Int) (hy : F_impl_CmdFault fu x_0 = some y) : Good E Try.prog 88 [(.agg [(ii x_0.Kind), (ii x_0.Expect), (ii x_0.Name), (ii x_0.Addr), (ii x_0.Number), (ii x_0.Proto)])] (enc_i64 y) :=
 fun_good E_ok (pc_good (pc := pc_a18 fu) (hpc_a18 fu) hpx0) (fn := Try.f88) (by kernel_rfl) (by kernel_rfl) (by kernel_rfl) (lpok_a18 fu) (fun d hd => out_i64_enc d _ hd) ((ev_a18 fu x_0).trans hy)
theorem good_a18 (fu : Nat) : GoodS E Try.prog 88 (S_a18 fu) := by
 intro xs o h y hy
 unfold S_a18 at h
 split at h
 ·rename_i a0_1 a0_2 a0_3 a0_4 a0_5 a0_6
  cases h
  exact goodv_a18 fu (⟨a0_1, a0_2, a0_3, a0_4, a0_5, a0_6⟩ : S_impl_Cmd) y hy
 ·cases h
def F_impl_EntryFault (fu : Nat) (x_0 : S_impl_Entry) : Option (Int) :=
 ((((F_impl_in fu x_0.Term 1 100000).bind fun y113 => (bif (!y113) then (some true) else ((F_impl_in fu x_0.Client 0 999).bind fun y114 => (bif (!y114) then (some true) else
  ((F_impl_in fu x_0.Seq 0 1000000).bind fun y115 => (some (!y115))))))) : Option Bool).bind fun m116 => (bif m116 then (some 3) else (bif (!((x_0.Client == 0) == (x_0.Seq == 0))) then
  (some 1) else (bif (x_0.Client != 0) then ((F_impl_CmdFault fu x_0.Cmd).bind fun y117 => (some y117)) else (bif (!((x_0.Cmd.Kind == 0) && ((x_0.Cmd.Expect == 0) &&
  ((x_0.Cmd.Name == 0) && ((x_0.Cmd.Addr == 0) && ((x_0.Cmd.Number == 0) && ((x_0.Cmd.Proto == 0) && true))))))) then (some 1) else (some 0))))))
def pcf_a19 (fu f : Nat) (xs : List (D RT den)) : Option (Out RT den) := match f with | 58 => S_a10 fu xs | 88 => S_a18 fu xs | _ => none
def pc_a19 (fu : Nat) : Pc RT den := ⟨pcf_a19 fu, fun _ => false, fun _ => false, pcd0, pcd0, pcx0⟩
def msk_a19 (b : Nat) : List Nat := match b with | 200001 => [3] | _ => []
def lp_a19 (fu : Nat) : Lp RT den (Int) := ⟨fun b s k => none, inl0⟩
theorem ev_a19 (fu : Nat) (x_0 : S_impl_Entry) : evFun E (pc_a19 fu) msk_a19 (lp_a19 fu) out_i64 65 [(.agg [(ii x_0.Term), (ii x_0.Client), (ii x_0.Seq), (ii x_0.Cmd.Kind), (ii x_0.Cmd.Expect), (ii x_0.Cmd.Name), (ii x_0.Cmd.Addr), (ii x_0.Cmd.Number), (ii x_0.Cmd.Proto)])] = F_impl_EntryFault fu x_0 := by kernel_rfl
noncomputable def body_a19 : Code := Try.f65.body.getD .skip
theorem lpok_a19 (fu : Nat) : LpOk E (pc_a19 fu) 0 msk_a19 (lp_a19 fu) (loops 0 body_a19) := lp_nil (loop_nil (by kernel_rfl)) (by kernel_rfl)
def S_a19 (fu : Nat) (xs : List (D RT den)) : Option (Out RT den) := match xs with | [.agg [.int .i64 a0_1, .int .i64 a0_2, .int .i64 a0_3, .int .i64 a0_5, .int .i64 a0_6, .int .i64 a0_7, .int .i64 a0_8, .int .i64 a0_9, .int .i64 a0_10]] => some ⟨Int, F_impl_EntryFault fu (⟨a0_1, a0_2, a0_3, (⟨a0_5, a0_6, a0_7, a0_8, a0_9, a0_10⟩ : S_impl_Cmd)⟩ : S_impl_Entry), enc_i64, fun _ => true⟩ | _ => none
theorem hpc_a19 (fu : Nat) : HpcOk E Try.prog (pcf_a19 fu) := by
 intro f xs o h
 unfold pcf_a19 at h
 split at h
 ·exact good_a10 fu xs o h
 ·exact good_a18 fu xs o h
 ·cases h
theorem goodv_a19 (fu : Nat) (x_0 : S_impl_Entry) (y : Int) (hy : F_impl_EntryFault fu x_0 = some y) : Good E Try.prog 65 [(.agg [(ii x_0.Term), (ii x_0.Client), (ii x_0.Seq), (ii x_0.Cmd.Kind), (ii x_0.Cmd.Expect), (ii x_0.Cmd.Name), (ii x_0.Cmd.Addr), (ii x_0.Cmd.Number), (ii x_0.Cmd.Proto)])] (enc_i64 y) :=
 fun_good E_ok (pc_good (pc := pc_a19 fu) (hpc_a19 fu) hpx0) (fn := Try.f65) (by kernel_rfl) (by kernel_rfl) (by kernel_rfl) (lpok_a19 fu) (fun d hd => out_i64_enc d _ hd) ((ev_a19 fu x_0).trans hy)
theorem good_a19 (fu : Nat) : GoodS E Try.prog 65 (S_a19 fu) := by
 intro xs o h y hy
 unfold S_a19 at h
 split at h
 ·rename_i a0_1 a0_2 a0_3 a0_5 a0_6 a0_7 a0_8 a0_9 a0_10
  cases h
  exact goodv_a19 fu (⟨a0_1, a0_2, a0_3, (⟨a0_5, a0_6, a0_7, a0_8, a0_9, a0_10⟩ : S_impl_Cmd)⟩ : S_impl_Entry) y hy
 ·cases h
end Go.Proofs.Ytjdgfkmiaikegaa.Pe
