/- The functions' evaluated forms, each a proved summary. Conditions: none. -/
import Derived.Test.YtjdgfkmiaikegaaPdF2
namespace Go.Proofs.Ytjdgfkmiaikegaa.Pd
open Go Go.RowKit Go.Proofs Vm
set_option linter.unusedVariables false
set_option linter.unusedSimpArgs false
set_option maxRecDepth 100000
abbrev Yd0 : Type := Int × Int × Int × Int × Nat × Int × Int × Nat × Nat × Nat × (Nat → S_impl_Entry) × Nat × (Nat → Int) × Nat × (Nat → Int)
abbrev Yd1 : Type := Int × Nat × Int × Int × Int × Int × Int × Nat × Int × Int × Nat × Nat × Nat × (Nat → S_impl_Entry) × Nat × (Nat → Int) × Nat × (Nat → Int)
abbrev Yd2 : Type := Int × Int × Int × Int × Nat × Int × Int × Nat × Nat × Nat × (Nat → S_impl_Entry) × Nat × (Nat → Int) × Nat × (Nat → Int) × Nat × (Nat → Int) × Nat × (Nat → Int) × Nat × (Nat → Int)
/-! slices.Clone[[]impl.Entry,impl.Entry] -/
def F_slices_Clone_impl_Entry_impl_Entry_H_raw (fu : Nat) (s_0 : (Sl S_impl_Entry)) : Option ((Sl S_impl_Entry)) :=
  ((s_0.z).bind fun b217 => (bif b217 then (some (⟨(some true), 0, (fun _ => dflt .impl_Entry)⟩ : (Sl S_impl_Entry))) else (bif (decide (s_0.n ≤ 9223372036854775807) && decide (s_0.n * 72 ≤ 140737488355328)) then
    (some (⟨none, s_0.n, s_0.f⟩ : (Sl S_impl_Entry))) else none)))
def pc_a25r (fu : Nat) : Pc RT den := ⟨pcf0, fun _ => false, fun _ => false, pcd0, pcd0, pcx0⟩
def msk_a25r (b : Nat) : List Nat := []
def lp_a25r (fu : Nat) : Lp RT den ((Sl S_impl_Entry)) := ⟨fun b s k => none, inl0⟩
theorem ev_a25r (fu : Nat) (s_0 : (Sl S_impl_Entry)) : evFunX E false (pc_a25r fu) msk_a25r (lp_a25r fu) out_sl_impl_Entry_H 36 [(.rs s_0.z .impl_Entry s_0.n s_0.f)] [] = F_slices_Clone_impl_Entry_impl_Entry_H_raw fu s_0 := by kernel_rfl
noncomputable def body_a25r : Code := Try.f36.body.getD .skip
theorem lpok_a25r (fu : Nat) : LpOk E (pc_a25r fu) 0 msk_a25r (lp_a25r fu) (loops 0 body_a25r) := lp_nil (loop_nil (by kernel_rfl)) (by kernel_rfl)
def S_a25r (fu : Nat) (xs : List (D RT den)) (ins : List (Ob RT den)) : Option (OutX RT den) := match xs, ins with | [.rs za0_0 .impl_Entry na0_0 fa0_0], [] => some ⟨(Sl S_impl_Entry), F_slices_Clone_impl_Entry_impl_Entry_H_raw fu (⟨za0_0, na0_0, fa0_0⟩ : (Sl S_impl_Entry)), enc_sl_impl_Entry_H⟩ | _, _ => none
theorem goodv_a25r (fu : Nat) (s_0 : (Sl S_impl_Entry)) (y : (Sl S_impl_Entry)) (hy : F_slices_Clone_impl_Entry_impl_Entry_H_raw fu s_0 = some y) : GoodX E Try.prog 36 [(.rs s_0.z .impl_Entry s_0.n s_0.f)] [] (enc_sl_impl_Entry_H y).1 (enc_sl_impl_Entry_H y).2 :=
  funX_good (ke := false) E_ok (pc_good (pc := pc_a25r fu) hpc0 hpx0) (fn := Try.f36) (c := body_a25r) (out := out_sl_impl_Entry_H) (y := y) (by kernel_rfl) (by kernel_rfl) (by kernel_rfl) (lpok_a25r fu) (by kernel_rfl) (Nat.zero_le _) (fun d os hd => out_sl_impl_Entry_H_enc d os _ hd) ((ev_a25r fu s_0).trans hy)
def F_slices_Clone_impl_Entry_impl_Entry_H (fu : Nat) (s_0 : (Sl S_impl_Entry)) : Option ((Sl S_impl_Entry)) := bif decide (s_0.n ≤ 9223372036854775807) && decide (s_0.n * 72 ≤ 140737488355328) then some ⟨none, s_0.n, s_0.f⟩ else none
def S_a25 (fu : Nat) (xs : List (D RT den)) (ins : List (Ob RT den)) : Option (OutX RT den) := match xs, ins with | [.rs za0_0 .impl_Entry na0_0 fa0_0], [] => some ⟨(Sl S_impl_Entry), F_slices_Clone_impl_Entry_impl_Entry_H fu (⟨za0_0, na0_0, fa0_0⟩ : (Sl S_impl_Entry)), enc_sl_impl_Entry_H⟩ | _, _ => none
theorem good_a25 (fu : Nat) : ∀ xs ins o, S_a25 fu xs ins = some o → ∀ y, o.x = some y → GoodX E Try.prog 36 xs ins (o.g y).1 (o.g y).2 := by
  intro xs ins o h y hy
  unfold S_a25 at h
  split at h
  · rename_i za0_0 na0_0 fa0_0
    cases h
    have hy : F_slices_Clone_impl_Entry_impl_Entry_H fu ⟨za0_0, na0_0, fa0_0⟩ = some y := hy
    unfold F_slices_Clone_impl_Entry_impl_Entry_H at hy
    dsimp only at hy
    cases hc : (decide (na0_0 ≤ 9223372036854775807) && decide (na0_0 * 72 ≤ 140737488355328)) with
    | false => rw [hc] at hy; cases hy
    | true =>
      rw [hc] at hy
      have hy := Option.some.inj hy; subst hy
      refine GoodX.clone (d0 := fun _ => dflt .impl_Entry) (goodv_a25r fu ⟨some true, na0_0, fa0_0⟩ ⟨some true, 0, fun _ => dflt .impl_Entry⟩ rfl) (goodv_a25r fu ⟨some false, na0_0, fa0_0⟩ ⟨none, na0_0, fa0_0⟩ ?_) _
      unfold F_slices_Clone_impl_Entry_impl_Entry_H_raw
      simp only [Option.bind_some, cond_false, hc, cond_true]
  · cases h

/-! slices.Clone[[]int64,int64] -/
def F_slices_Clone_int64_int64_H_raw (fu : Nat) (s_0 : (Sl Int)) : Option ((Sl Int)) :=
  ((s_0.z).bind fun b220 => (bif b220 then (some (⟨(some true), 0, (fun _ => dflt .i64)⟩ : (Sl Int))) else (bif (decide (s_0.n ≤ 9223372036854775807) && decide (s_0.n * 8 ≤ 140737488355328)) then
    (some (⟨none, s_0.n, s_0.f⟩ : (Sl Int))) else none)))
def pc_a26r (fu : Nat) : Pc RT den := ⟨pcf0, fun _ => false, fun _ => false, pcd0, pcd0, pcx0⟩
def msk_a26r (b : Nat) : List Nat := []
def lp_a26r (fu : Nat) : Lp RT den ((Sl Int)) := ⟨fun b s k => none, inl0⟩
theorem ev_a26r (fu : Nat) (s_0 : (Sl Int)) : evFunX E false (pc_a26r fu) msk_a26r (lp_a26r fu) out_sl_i64_H 76 [(.rs s_0.z .i64 s_0.n s_0.f)] [] = F_slices_Clone_int64_int64_H_raw fu s_0 := by kernel_rfl
noncomputable def body_a26r : Code := Try.f76.body.getD .skip
theorem lpok_a26r (fu : Nat) : LpOk E (pc_a26r fu) 0 msk_a26r (lp_a26r fu) (loops 0 body_a26r) := lp_nil (loop_nil (by kernel_rfl)) (by kernel_rfl)
def S_a26r (fu : Nat) (xs : List (D RT den)) (ins : List (Ob RT den)) : Option (OutX RT den) := match xs, ins with | [.rs za0_0 .i64 na0_0 fa0_0], [] => some ⟨(Sl Int), F_slices_Clone_int64_int64_H_raw fu (⟨za0_0, na0_0, fa0_0⟩ : (Sl Int)), enc_sl_i64_H⟩ | _, _ => none
theorem goodv_a26r (fu : Nat) (s_0 : (Sl Int)) (y : (Sl Int)) (hy : F_slices_Clone_int64_int64_H_raw fu s_0 = some y) : GoodX E Try.prog 76 [(.rs s_0.z .i64 s_0.n s_0.f)] [] (enc_sl_i64_H y).1 (enc_sl_i64_H y).2 :=
  funX_good (ke := false) E_ok (pc_good (pc := pc_a26r fu) hpc0 hpx0) (fn := Try.f76) (c := body_a26r) (out := out_sl_i64_H) (y := y) (by kernel_rfl) (by kernel_rfl) (by kernel_rfl) (lpok_a26r fu) (by kernel_rfl) (Nat.zero_le _) (fun d os hd => out_sl_i64_H_enc d os _ hd) ((ev_a26r fu s_0).trans hy)
def F_slices_Clone_int64_int64_H (fu : Nat) (s_0 : (Sl Int)) : Option ((Sl Int)) := bif decide (s_0.n ≤ 9223372036854775807) && decide (s_0.n * 8 ≤ 140737488355328) then some ⟨none, s_0.n, s_0.f⟩ else none
def S_a26 (fu : Nat) (xs : List (D RT den)) (ins : List (Ob RT den)) : Option (OutX RT den) := match xs, ins with | [.rs za0_0 .i64 na0_0 fa0_0], [] => some ⟨(Sl Int), F_slices_Clone_int64_int64_H fu (⟨za0_0, na0_0, fa0_0⟩ : (Sl Int)), enc_sl_i64_H⟩ | _, _ => none
theorem good_a26 (fu : Nat) : ∀ xs ins o, S_a26 fu xs ins = some o → ∀ y, o.x = some y → GoodX E Try.prog 76 xs ins (o.g y).1 (o.g y).2 := by
  intro xs ins o h y hy
  unfold S_a26 at h
  split at h
  · rename_i za0_0 na0_0 fa0_0
    cases h
    have hy : F_slices_Clone_int64_int64_H fu ⟨za0_0, na0_0, fa0_0⟩ = some y := hy
    unfold F_slices_Clone_int64_int64_H at hy
    dsimp only at hy
    cases hc : (decide (na0_0 ≤ 9223372036854775807) && decide (na0_0 * 8 ≤ 140737488355328)) with
    | false => rw [hc] at hy; cases hy
    | true =>
      rw [hc] at hy
      have hy := Option.some.inj hy; subst hy
      refine GoodX.clone (d0 := fun _ => dflt .i64) (goodv_a26r fu ⟨some true, na0_0, fa0_0⟩ ⟨some true, 0, fun _ => dflt .i64⟩ rfl) (goodv_a26r fu ⟨some false, na0_0, fa0_0⟩ ⟨none, na0_0, fa0_0⟩ ?_) _
      unfold F_slices_Clone_int64_int64_H_raw
      simp only [Option.bind_some, cond_false, hc, cond_true]
  · cases h

/-! (impl.Node).copied -/
def F_impl_Node_copied_H (fu : Nat) (n_0 : S_impl_Node) : Option (S_impl_Node) :=
  ((F_slices_Clone_impl_Entry_impl_Entry_H fu n_0.Log).bind fun y224 => ((F_slices_Clone_int64_int64_H fu n_0.Votes).bind fun y225 => ((F_slices_Clone_int64_int64_H fu n_0.Next).bind fun y226 =>
    ((F_slices_Clone_int64_int64_H fu n_0.Match).bind fun y227 => (some (⟨n_0.Id, n_0.Peers, n_0.Term, n_0.Voted, (⟨none, y224.n, y224.f⟩ : (Sl S_impl_Entry)), n_0.Role, n_0.Commit,
    (⟨none, y225.n, y225.f⟩ : (Sl Int)), (⟨none, y226.n, y226.f⟩ : (Sl Int)), (⟨none, y227.n, y227.f⟩ : (Sl Int))⟩ : S_impl_Node))))))
def pcx_a27 (fu : Nat) (f : Nat) (xs : List (D RT den)) (ins : List (Ob RT den)) : Option (OutX RT den) := match f with | 36 => S_a25 fu xs ins | 76 => S_a26 fu xs ins | _ => none
def pcd_a27 : Nat → Bool := fun _ => false
def pc_a27 (fu : Nat) : Pc RT den := ⟨pcf0, fun f => match f with | 36 => true | 76 => true | _ => false, fun _ => false, pcd_a27, pcd0, pcx_a27 fu⟩
def msk_a27 (b : Nat) : List Nat := []
def lp_a27 (fu : Nat) : Lp RT den (S_impl_Node) := ⟨fun b s k => none, inl0⟩
theorem ev_a27 (fu : Nat) (n_0 : S_impl_Node) : evFunX E false (pc_a27 fu) msk_a27 (lp_a27 fu) out_impl_Node_H 32 [(.agg [(.int .i64 n_0.Id), (.int .i64 n_0.Peers), (.int .i64 n_0.Term), (.int .i64 n_0.Voted), (.rs n_0.Log.z .impl_Entry n_0.Log.n n_0.Log.f), (.int .i64 n_0.Role), (.int .i64 n_0.Commit), (.rs n_0.Votes.z .i64 n_0.Votes.n n_0.Votes.f), (.rs n_0.Next.z .i64 n_0.Next.n n_0.Next.f), (.rs n_0.Match.z .i64 n_0.Match.n n_0.Match.f)])] [] = F_impl_Node_copied_H fu n_0 := by kernel_rfl
noncomputable def body_a27 : Code := Try.f32.body.getD .skip
theorem lpok_a27 (fu : Nat) : LpOk E (pc_a27 fu) 0 msk_a27 (lp_a27 fu) (loops 0 body_a27) := lp_nil (loop_nil (by kernel_rfl)) (by kernel_rfl)
def S_a27 (fu : Nat) (xs : List (D RT den)) (ins : List (Ob RT den)) : Option (OutX RT den) := match xs, ins with | [.agg [.int .i64 a0_1, .int .i64 a0_2, .int .i64 a0_3, .int .i64 a0_4, .rs za0_5 .impl_Entry na0_5 fa0_5, .int .i64 a0_6, .int .i64 a0_7, .rs za0_8 .i64 na0_8 fa0_8, .rs za0_9 .i64 na0_9 fa0_9, .rs za0_10 .i64 na0_10 fa0_10]], [] => some ⟨S_impl_Node, F_impl_Node_copied_H fu (⟨a0_1, a0_2, a0_3, a0_4, (⟨za0_5, na0_5, fa0_5⟩ : (Sl S_impl_Entry)), a0_6, a0_7, (⟨za0_8, na0_8, fa0_8⟩ : (Sl Int)), (⟨za0_9, na0_9, fa0_9⟩ : (Sl Int)), (⟨za0_10, na0_10, fa0_10⟩ : (Sl Int))⟩ : S_impl_Node), enc_impl_Node_H⟩ | _, _ => none
theorem hpx_a27 (fu : Nat) : ∀ f xs ins o, pcx_a27 fu f xs ins = some o → ∀ y, o.x = some y → GoodXD E Try.prog (pcd_a27 f) f xs ins (o.g y).1 (o.g y).2 := by
  intro f xs ins o h
  unfold pcx_a27 at h
  split at h
  · exact good_a25 fu xs ins o h
  · exact good_a26 fu xs ins o h
  · cases h
theorem goodv_a27 (fu : Nat) (n_0 : S_impl_Node) (y : S_impl_Node) (hy : F_impl_Node_copied_H fu n_0 = some y) : GoodX E Try.prog 32 [(.agg [(.int .i64 n_0.Id), (.int .i64 n_0.Peers), (.int .i64 n_0.Term), (.int .i64 n_0.Voted), (.rs n_0.Log.z .impl_Entry n_0.Log.n n_0.Log.f), (.int .i64 n_0.Role), (.int .i64 n_0.Commit), (.rs n_0.Votes.z .i64 n_0.Votes.n n_0.Votes.f), (.rs n_0.Next.z .i64 n_0.Next.n n_0.Next.f), (.rs n_0.Match.z .i64 n_0.Match.n n_0.Match.f)])] [] (enc_impl_Node_H y).1 (enc_impl_Node_H y).2 :=
  funX_good (ke := false) E_ok (pc_good (pc := pc_a27 fu) hpc0 (hpx_a27 fu)) (fn := Try.f32) (c := body_a27) (out := out_impl_Node_H) (y := y) (by kernel_rfl) (by kernel_rfl) (by kernel_rfl) (lpok_a27 fu) (by kernel_rfl) (Nat.zero_le _) (fun d os hd => out_impl_Node_H_enc d os _ hd) ((ev_a27 fu n_0).trans hy)
theorem good_a27 (fu : Nat) : ∀ xs ins o, S_a27 fu xs ins = some o → ∀ y, o.x = some y → GoodX E Try.prog 32 xs ins (o.g y).1 (o.g y).2 := by
  intro xs ins o h y hy
  unfold S_a27 at h
  split at h
  · rename_i a0_1 a0_2 a0_3 a0_4 za0_5 na0_5 fa0_5 a0_6 a0_7 za0_8 na0_8 fa0_8 za0_9 na0_9 fa0_9 za0_10 na0_10 fa0_10
    cases h
    exact goodv_a27 fu (⟨a0_1, a0_2, a0_3, a0_4, (⟨za0_5, na0_5, fa0_5⟩ : (Sl S_impl_Entry)), a0_6, a0_7, (⟨za0_8, na0_8, fa0_8⟩ : (Sl Int)), (⟨za0_9, na0_9, fa0_9⟩ : (Sl Int)), (⟨za0_10, na0_10, fa0_10⟩ : (Sl Int))⟩ : S_impl_Node) y hy
  · cases h

/-! (*impl.Node).isQuorum -/
def F_impl_Node_isQuorum (fu : Nat) (n_0 : S_impl_Node) (many_1 : Int) : Option (Bool) :=
  (some (decide ((IntKind.wrap .i64 (2 * many_1)) > n_0.Peers)))
def pc_a28 (fu : Nat) : Pc RT den := ⟨pcf0, fun _ => false, fun _ => false, pcd0, pcd0, pcx0⟩
def msk_a28 (b : Nat) : List Nat := []
def lp_a28 (fu : Nat) : Lp RT den (Bool) := ⟨fun b s k => none, inl0⟩
theorem ev_a28 (fu : Nat) (n_0 : S_impl_Node) (many_1 : Int) : evFun E (pc_a28 fu) msk_a28 (lp_a28 fu) out_bo 50 [(.rptr [(.int .i64 n_0.Id), (.int .i64 n_0.Peers), (.int .i64 n_0.Term), (.int .i64 n_0.Voted), (.rs n_0.Log.z .impl_Entry n_0.Log.n n_0.Log.f), (.int .i64 n_0.Role), (.int .i64 n_0.Commit), (.rs n_0.Votes.z .i64 n_0.Votes.n n_0.Votes.f), (.rs n_0.Next.z .i64 n_0.Next.n n_0.Next.f), (.rs n_0.Match.z .i64 n_0.Match.n n_0.Match.f)]), (.int .i64 many_1)] = F_impl_Node_isQuorum fu n_0 many_1 := by kernel_rfl
noncomputable def body_a28 : Code := Try.f50.body.getD .skip
theorem lpok_a28 (fu : Nat) : LpOk E (pc_a28 fu) 0 msk_a28 (lp_a28 fu) (loops 0 body_a28) := lp_nil (loop_nil (by kernel_rfl)) (by kernel_rfl)
def S_a28 (fu : Nat) (xs : List (D RT den)) : Option (Out RT den) := match xs with | [.rptr (.int .i64 a0_1 :: .int .i64 a0_2 :: .int .i64 a0_3 :: .int .i64 a0_4 :: .rs za0_5 .impl_Entry na0_5 fa0_5 :: .int .i64 a0_6 :: .int .i64 a0_7 :: .rs za0_8 .i64 na0_8 fa0_8 :: .rs za0_9 .i64 na0_9 fa0_9 :: .rs za0_10 .i64 na0_10 fa0_10 :: ra0), .int .i64 a1_0] => some ⟨Bool, F_impl_Node_isQuorum fu (⟨a0_1, a0_2, a0_3, a0_4, (⟨za0_5, na0_5, fa0_5⟩ : (Sl S_impl_Entry)), a0_6, a0_7, (⟨za0_8, na0_8, fa0_8⟩ : (Sl Int)), (⟨za0_9, na0_9, fa0_9⟩ : (Sl Int)), (⟨za0_10, na0_10, fa0_10⟩ : (Sl Int))⟩ : S_impl_Node) a1_0, enc_bo, fun _ => true⟩ | _ => none
theorem goodv_a28 (fu : Nat) (n_0 : S_impl_Node) (many_1 : Int) (y : Bool) (hy : F_impl_Node_isQuorum fu n_0 many_1 = some y) : Good E Try.prog 50 [(.rptr [(.int .i64 n_0.Id), (.int .i64 n_0.Peers), (.int .i64 n_0.Term), (.int .i64 n_0.Voted), (.rs n_0.Log.z .impl_Entry n_0.Log.n n_0.Log.f), (.int .i64 n_0.Role), (.int .i64 n_0.Commit), (.rs n_0.Votes.z .i64 n_0.Votes.n n_0.Votes.f), (.rs n_0.Next.z .i64 n_0.Next.n n_0.Next.f), (.rs n_0.Match.z .i64 n_0.Match.n n_0.Match.f)]), (.int .i64 many_1)] (enc_bo y) :=
  fun_good E_ok (pc_good (pc := pc_a28 fu) hpc0 hpx0) (fn := Try.f50) (c := body_a28) (out := out_bo) (y := y) (by kernel_rfl) (by kernel_rfl) (by kernel_rfl) (lpok_a28 fu) (fun d hd => out_bo_enc d _ hd) ((ev_a28 fu n_0 many_1).trans hy)
theorem good_a28 (fu : Nat) : ∀ xs o, S_a28 fu xs = some o → ∀ y, o.x = some y → Good E Try.prog 50 xs (o.g y) := by
  intro xs o h y hy
  unfold S_a28 at h
  split at h
  · rename_i a0_1 a0_2 a0_3 a0_4 za0_5 na0_5 fa0_5 a0_6 a0_7 za0_8 na0_8 fa0_8 za0_9 na0_9 fa0_9 za0_10 na0_10 fa0_10 ra0 a1_0
    cases h
    exact (goodv_a28 fu (⟨a0_1, a0_2, a0_3, a0_4, (⟨za0_5, na0_5, fa0_5⟩ : (Sl S_impl_Entry)), a0_6, a0_7, (⟨za0_8, na0_8, fa0_8⟩ : (Sl Int)), (⟨za0_9, na0_9, fa0_9⟩ : (Sl Int)), (⟨za0_10, na0_10, fa0_10⟩ : (Sl Int))⟩ : S_impl_Node) a1_0 y hy).sub ⟨Sub.of_eq ra0 rfl, .refl _, trivial⟩
  · cases h

/-! bits.Mul64 -/
def F_bits_Mul64 (fu : Nat) (x_0 : Int) (y_1 : Int) : Option (Int × Int) :=
  (some ((IntKind.wrap .u64 ((IntKind.wrap .u64 ((IntKind.wrap .u64 ((shrInt .u64 x_0 32) * (shrInt .u64 y_1 32))) + (shrInt .u64 (IntKind.wrap .u64 ((IntKind.wrap .u64 ((shrInt .u64 x_0 32) * (bitsAnd .u64 y_1 4294967295))) + (shrInt .u64 (IntKind.wrap .u64 ((bitsAnd .u64 x_0 4294967295) * (bitsAnd .u64 y_1 4294967295))) 32))) 32))) + (shrInt .u64 (IntKind.wrap .u64 ((bitsAnd .u64 (IntKind.wrap .u64 ((IntKind.wrap .u64 ((shrInt .u64 x_0 32) * (bitsAnd .u64 y_1 4294967295))) + (shrInt .u64 (IntKind.wrap .u64 ((bitsAnd .u64 x_0 4294967295) * (bitsAnd .u64 y_1 4294967295))) 32))) 4294967295) + (IntKind.wrap .u64 ((bitsAnd .u64 x_0 4294967295) * (shrInt .u64 y_1 32))))) 32))),
    (IntKind.wrap .u64 (x_0 * y_1))))
def pc_a29 (fu : Nat) : Pc RT den := ⟨pcf0, fun _ => false, fun _ => false, pcd0, pcd0, pcx0⟩
def msk_a29 (b : Nat) : List Nat := []
def lp_a29 (fu : Nat) : Lp RT den (Int × Int) := ⟨fun b s k => none, inl0⟩
theorem ev_a29 (fu : Nat) (x_0 : Int) (y_1 : Int) : evFun E (pc_a29 fu) msk_a29 (lp_a29 fu) out_u64_u64 107 [(.int .u64 x_0), (.int .u64 y_1)] = F_bits_Mul64 fu x_0 y_1 := by kernel_rfl
noncomputable def body_a29 : Code := Try.f107.body.getD .skip
theorem lpok_a29 (fu : Nat) : LpOk E (pc_a29 fu) 0 msk_a29 (lp_a29 fu) (loops 0 body_a29) := lp_nil (loop_nil (by kernel_rfl)) (by kernel_rfl)
def S_a29 (fu : Nat) (xs : List (D RT den)) : Option (Out RT den) := match xs with | [.int .u64 a0_0, .int .u64 a1_0] => some ⟨Int × Int, F_bits_Mul64 fu a0_0 a1_0, enc_u64_u64, fun _ => true⟩ | _ => none
theorem goodv_a29 (fu : Nat) (x_0 : Int) (y_1 : Int) (y : Int × Int) (hy : F_bits_Mul64 fu x_0 y_1 = some y) : Good E Try.prog 107 [(.int .u64 x_0), (.int .u64 y_1)] (enc_u64_u64 y) :=
  fun_good E_ok (pc_good (pc := pc_a29 fu) hpc0 hpx0) (fn := Try.f107) (c := body_a29) (out := out_u64_u64) (y := y) (by kernel_rfl) (by kernel_rfl) (by kernel_rfl) (lpok_a29 fu) (fun d hd => out_u64_u64_enc d _ hd) ((ev_a29 fu x_0 y_1).trans hy)
theorem good_a29 (fu : Nat) : ∀ xs o, S_a29 fu xs = some o → ∀ y, o.x = some y → Good E Try.prog 107 xs (o.g y) := by
  intro xs o h y hy
  unfold S_a29 at h
  split at h
  · rename_i a0_0 a1_0
    cases h
    exact goodv_a29 fu a0_0 a1_0 y hy
  · cases h

/-! bits.Mul -/
def F_bits_Mul (fu : Nat) (x_0 : Int) (y_1 : Int) : Option (Int × Int) :=
  ((F_bits_Mul64 fu x_0 y_1).bind fun y259 => (some (y259.1, y259.2)))
def pcf_a30 (fu : Nat) (f : Nat) (xs : List (D RT den)) : Option (Out RT den) := match f with | 107 => S_a29 fu xs | _ => none
def pc_a30 (fu : Nat) : Pc RT den := ⟨pcf_a30 fu, fun _ => false, fun _ => false, pcd0, pcd0, pcx0⟩
def msk_a30 (b : Nat) : List Nat := []
def lp_a30 (fu : Nat) : Lp RT den (Int × Int) := ⟨fun b s k => none, inl0⟩
theorem ev_a30 (fu : Nat) (x_0 : Int) (y_1 : Int) : evFun E (pc_a30 fu) msk_a30 (lp_a30 fu) out_u64_u64 93 [(.int .u64 x_0), (.int .u64 y_1)] = F_bits_Mul fu x_0 y_1 := by kernel_rfl
noncomputable def body_a30 : Code := Try.f93.body.getD .skip
theorem lpok_a30 (fu : Nat) : LpOk E (pc_a30 fu) 0 msk_a30 (lp_a30 fu) (loops 0 body_a30) := lp_nil (loop_nil (by kernel_rfl)) (by kernel_rfl)
def S_a30 (fu : Nat) (xs : List (D RT den)) : Option (Out RT den) := match xs with | [.int .u64 a0_0, .int .u64 a1_0] => some ⟨Int × Int, F_bits_Mul fu a0_0 a1_0, enc_u64_u64, fun _ => true⟩ | _ => none
theorem hpc_a30 (fu : Nat) : ∀ f xs o, pcf_a30 fu f xs = some o → ∀ y, o.x = some y → Good E Try.prog f xs (o.g y) := by
  intro f xs o h
  unfold pcf_a30 at h
  split at h
  · exact good_a29 fu xs o h
  · cases h
theorem goodv_a30 (fu : Nat) (x_0 : Int) (y_1 : Int) (y : Int × Int) (hy : F_bits_Mul fu x_0 y_1 = some y) : Good E Try.prog 93 [(.int .u64 x_0), (.int .u64 y_1)] (enc_u64_u64 y) :=
  fun_good E_ok (pc_good (pc := pc_a30 fu) (hpc_a30 fu) hpx0) (fn := Try.f93) (c := body_a30) (out := out_u64_u64) (y := y) (by kernel_rfl) (by kernel_rfl) (by kernel_rfl) (lpok_a30 fu) (fun d hd => out_u64_u64_enc d _ hd) ((ev_a30 fu x_0 y_1).trans hy)
theorem good_a30 (fu : Nat) : ∀ xs o, S_a30 fu xs = some o → ∀ y, o.x = some y → Good E Try.prog 93 xs (o.g y) := by
  intro xs o h y hy
  unfold S_a30 at h
  split at h
  · rename_i a0_0 a1_0
    cases h
    exact goodv_a30 fu a0_0 a1_0 y hy
  · cases h

/-! slices.Repeat[[]int64,int64] -/
def F_slices_Repeat_int64_int64_H_B0 {ρ : Type} (fu : Nat) (newslice7_0 : Nat) (on0_2 : Nat) (k0 : (Nat → Int) → Option ρ) (n8_1 : Int) (of0_3 : (Nat → Int)) (go : Int → (Nat → Int) → Option ρ) : Option ρ :=
  (bif (decide (n8_1 < ((newslice7_0 : Nat) : Int))) then ((bif (decide (0 ≤ n8_1) && (decide (n8_1 ≤ ((newslice7_0 : Nat) : Int)) && decide ((Int.toNat ((newslice7_0 : Nat) : Int)) ≤ newslice7_0))) then
    some () else none : Option Unit).bind fun _ => ((bif (decide (0 ≤ n8_1) && decide ((Int.toNat n8_1) ≤ newslice7_0)) then some () else none : Option Unit).bind fun _ => (go (IntKind.wrap .i64 (n8_1 + (((min (Int.toNat n8_1) ((Int.toNat ((newslice7_0 : Nat) : Int)) - (Int.toNat n8_1))) : Nat) : Int))) (fun i =>
    if (Int.toNat n8_1) ≤ i ∧ i < (Int.toNat n8_1) + (min (Int.toNat n8_1) ((Int.toNat ((newslice7_0 : Nat) : Int)) - (Int.toNat n8_1))) then (of0_3 (i - (Int.toNat n8_1))) else
    (of0_3 i))))) else (k0 of0_3))
def F_slices_Repeat_int64_int64_H (fu : Nat) (x_0 : (Sl Int)) (count_1 : Int) : Option ((Sl Int)) :=
  (bif (decide (count_1 < 0)) then none else ((F_bits_Mul fu (IntKind.wrap .u64 ((x_0.n : Nat) : Int)) (IntKind.wrap .u64 count_1)).bind fun y256 => (((bif (decide (y256.1 > 0)) then
    (some true) else (some (decide (y256.2 > 9223372036854775807)))) : Option Bool).bind fun m257 => (bif m257 then none else (bif (decide (0 ≤ (IntKind.wrap .i64 y256.2)) &&
    (decide ((IntKind.wrap .i64 y256.2) = (IntKind.wrap .i64 y256.2)) && (decide ((8 : Int) * (IntKind.wrap .i64 y256.2) ≤ 281474976710656) && decide ((IntKind.wrap .i64 y256.2) ≤ 9223372036854775807)))) then
    (L (fun w0 go0 => F_slices_Repeat_int64_int64_H_B0 fu (Int.toNat (IntKind.wrap .i64 y256.2)) (Int.toNat (IntKind.wrap .i64 y256.2)) (fun z258 => (some (⟨none, (Int.toNat (IntKind.wrap .i64 y256.2)),
    z258⟩ : (Sl Int)))) w0.1 w0.2 (fun q0 q1 => go0 (q0, q1))) fu (((((min x_0.n (Int.toNat (IntKind.wrap .i64 y256.2))) : Nat) : Int), (fun i => if 0 ≤ i ∧ i < 0 + (min x_0.n (Int.toNat (IntKind.wrap .i64 y256.2))) then
    (x_0.f (i - 0)) else ((fun _ => 0) i))) : Int × (Nat → Int))) else none)))))
def pcf_a31 (fu : Nat) (f : Nat) (xs : List (D RT den)) : Option (Out RT den) := match f with | 93 => S_a30 fu xs | _ => none
def pc_a31 (fu : Nat) : Pc RT den := ⟨pcf_a31 fu, fun _ => false, fun _ => false, pcd0, pcd0, pcx0⟩
def msk_a31 (b : Nat) : List Nat := match b with | 0 => (rg 0 7 (rg 9 39 [])) | 100000 => (0 :: 1 :: 2 :: 3 :: 5 :: 6 :: (rg 8 40 [])) | 200004 => [26] | _ => []
def ps_a31_0 : List (Pat RT) := (fq 7 (.flat (.os 0) :: .flat (.int .i64) :: (fq 39 [])))
def os_a31_0 : List (OP RT) := [.row false .i64]
def conv_a31_0 (r : Raw den ps_a31_0 os_a31_0) : (Nat × Nat) × (Int × (Nat → Int)) := (((e5 r.1).2.2.1, r.2.1.1), ((e5 r.1).2.2.2.1, r.2.1.2))
def back_a31_0 (c : Nat × Nat) (w : Int × (Nat → Int)) : St RT den := ⟨(qs 7 ((.os 0 c.1) :: (.int .i64 w.1) :: (qs 39 []))), [(.row false .i64 c.2 w.2)]⟩
def Bk_a31_0 {ρ : Type} (fu : Nat) (c : Nat × Nat) (k : Ex → St RT den → Option ρ) (w : Int × (Nat → Int)) (go : (Int × (Nat → Int)) → Option ρ) : Option ρ := F_slices_Repeat_int64_int64_H_B0 fu c.1 c.2 (fun a0 => k (.exit 0) ⟨(qs 7 ((.os 0 c.1) :: (qs 40 []))), [(.row false .i64 c.2 a0)]⟩) w.1 w.2 (fun q0 q1 => go (q0, q1))
def lp_a31 (fu : Nat) : Lp RT den ((Sl Int)) := ⟨fun b s k => match b with | 0 => handle ps_a31_0 os_a31_0 conv_a31_0 (Bk_a31_0 fu) fu s k | _ => none, inl0⟩
theorem ev_a31 (fu : Nat) (x_0 : (Sl Int)) (count_1 : Int) : evFunX E false (pc_a31 fu) msk_a31 (lp_a31 fu) out_sl_i64_H 82 [(.rs x_0.z .i64 x_0.n x_0.f), (.int .i64 count_1)] [] = F_slices_Repeat_int64_int64_H fu x_0 count_1 := by kernel_rfl
noncomputable def body_a31 : Code := Try.f82.body.getD .skip
noncomputable def lc_a31_0 : Code := ((loops 0 body_a31).getD 0 (0, .skip)).2
theorem round_a31_0 (fu : Nat) (it : St RT den → Option ((Sl Int))) (k : Ex → St RT den → Option ((Sl Int))) c w : evCode E (pc_a31 fu) msk_a31 (lp_a31 fu) 0 lc_a31_0 (back_a31_0 c w) (after (msk_a31 0) (msk_a31 100000) 1 it k) = Bk_a31_0 fu c k w (fun w => it (back_a31_0 c w)) := by kernel_rfl
theorem lpok_a31_0 (fu : Nat) : ∀ s k r, (lp_a31 fu).lp 0 s k = some r → ∃ fuel, iter (msk_a31 0) (msk_a31 100000) s.objs.length (evCode E (pc_a31 fu) msk_a31 (lp_a31 fu) 0 lc_a31_0) fuel s k = some r :=
  handle_ok (ps := ps_a31_0) (os := os_a31_0) (conv := conv_a31_0) (B := Bk_a31_0 fu) (fu := fu) back_a31_0 (fun raw => by kernel_rfl) 1 (fun c w => by kernel_rfl) (round_a31_0 fu)
theorem lpok_a31 (fu : Nat) : LpOk E (pc_a31 fu) 0 msk_a31 (lp_a31 fu) (loops 0 body_a31) := lp_nil (loop_all 1 (by kernel_rfl) fun i hi => match i, hi with
  | 0, _ => by
    have h : (loops 0 body_a31).getD 0 (0, .skip) = (0, lc_a31_0) := by kernel_rfl
    rw [h]; exact lpok_a31_0 fu
  | i + 1, hi => absurd hi (by omega)) (by kernel_rfl)
def S_a31 (fu : Nat) (xs : List (D RT den)) (ins : List (Ob RT den)) : Option (OutX RT den) := match xs, ins with | [.rs za0_0 .i64 na0_0 fa0_0, .int .i64 a1_0], [] => some ⟨(Sl Int), F_slices_Repeat_int64_int64_H fu (⟨za0_0, na0_0, fa0_0⟩ : (Sl Int)) a1_0, enc_sl_i64_H⟩ | _, _ => none
theorem hpc_a31 (fu : Nat) : ∀ f xs o, pcf_a31 fu f xs = some o → ∀ y, o.x = some y → Good E Try.prog f xs (o.g y) := by
  intro f xs o h
  unfold pcf_a31 at h
  split at h
  · exact good_a30 fu xs o h
  · cases h
theorem goodv_a31 (fu : Nat) (x_0 : (Sl Int)) (count_1 : Int) (y : (Sl Int)) (hy : F_slices_Repeat_int64_int64_H fu x_0 count_1 = some y) : GoodX E Try.prog 82 [(.rs x_0.z .i64 x_0.n x_0.f), (.int .i64 count_1)] [] (enc_sl_i64_H y).1 (enc_sl_i64_H y).2 :=
  funX_good (ke := false) E_ok (pc_good (pc := pc_a31 fu) (hpc_a31 fu) hpx0) (fn := Try.f82) (c := body_a31) (out := out_sl_i64_H) (y := y) (by kernel_rfl) (by kernel_rfl) (by kernel_rfl) (lpok_a31 fu) (by kernel_rfl) (Nat.zero_le _) (fun d os hd => out_sl_i64_H_enc d os _ hd) ((ev_a31 fu x_0 count_1).trans hy)
theorem good_a31 (fu : Nat) : ∀ xs ins o, S_a31 fu xs ins = some o → ∀ y, o.x = some y → GoodX E Try.prog 82 xs ins (o.g y).1 (o.g y).2 := by
  intro xs ins o h y hy
  unfold S_a31 at h
  split at h
  · rename_i za0_0 na0_0 fa0_0 a1_0
    cases h
    exact goodv_a31 fu (⟨za0_0, na0_0, fa0_0⟩ : (Sl Int)) a1_0 y hy
  · cases h

/-! impl.size[impl.Entry] -/
def F_impl_size_impl_Entry (fu : Nat) (list_0 : (Sl S_impl_Entry)) : Option (Int) :=
  (some ((list_0.n : Nat) : Int))
def pc_a32 (fu : Nat) : Pc RT den := ⟨pcf0, fun _ => false, fun _ => false, pcd0, pcd0, pcx0⟩
def msk_a32 (b : Nat) : List Nat := []
def lp_a32 (fu : Nat) : Lp RT den (Int) := ⟨fun b s k => none, inl0⟩
theorem ev_a32 (fu : Nat) (list_0 : (Sl S_impl_Entry)) : evFun E (pc_a32 fu) msk_a32 (lp_a32 fu) out_i64 37 [(.rs list_0.z .impl_Entry list_0.n list_0.f)] = F_impl_size_impl_Entry fu list_0 := by kernel_rfl
noncomputable def body_a32 : Code := Try.f37.body.getD .skip
theorem lpok_a32 (fu : Nat) : LpOk E (pc_a32 fu) 0 msk_a32 (lp_a32 fu) (loops 0 body_a32) := lp_nil (loop_nil (by kernel_rfl)) (by kernel_rfl)
def S_a32 (fu : Nat) (xs : List (D RT den)) : Option (Out RT den) := match xs with | [.rs za0_0 .impl_Entry na0_0 fa0_0] => some ⟨Int, F_impl_size_impl_Entry fu (⟨za0_0, na0_0, fa0_0⟩ : (Sl S_impl_Entry)), enc_i64, fun _ => true⟩ | _ => none
theorem goodv_a32 (fu : Nat) (list_0 : (Sl S_impl_Entry)) (y : Int) (hy : F_impl_size_impl_Entry fu list_0 = some y) : Good E Try.prog 37 [(.rs list_0.z .impl_Entry list_0.n list_0.f)] (enc_i64 y) :=
  fun_good E_ok (pc_good (pc := pc_a32 fu) hpc0 hpx0) (fn := Try.f37) (c := body_a32) (out := out_i64) (y := y) (by kernel_rfl) (by kernel_rfl) (by kernel_rfl) (lpok_a32 fu) (fun d hd => out_i64_enc d _ hd) ((ev_a32 fu list_0).trans hy)
theorem good_a32 (fu : Nat) : ∀ xs o, S_a32 fu xs = some o → ∀ y, o.x = some y → Good E Try.prog 37 xs (o.g y) := by
  intro xs o h y hy
  unfold S_a32 at h
  split at h
  · rename_i za0_0 na0_0 fa0_0
    cases h
    exact goodv_a32 fu (⟨za0_0, na0_0, fa0_0⟩ : (Sl S_impl_Entry)) y hy
  · cases h

/-! (*impl.Node).agree -/
def F_impl_Node_agree_M_B2 {ρ : Type} (fu : Nat) (index2_0 : Int) (t22_2 : Nat) (t23_3 : Int) (o0_5 : Int) (o0_6 : Int) (o0_7 : Int) (o0_8 : Int) (o0_9 : Nat) (o0_10 : Int) (o0_11 : Int) (o0_12 : Nat) (o0_13 : Nat) (on1_14 : Nat) (of1_15 : (Nat → S_impl_Entry)) (on2_16 : Nat) (of2_17 : (Nat → Int)) (on3_18 : Nat) (of3_19 : (Nat → Int)) (k0 : Int → Option ρ) (many3_1 : Int) (t24_4 : Int) (go : Int → Int → Option ρ) : Option ρ :=
  (bif (decide (t24_4 < t23_3)) then ((bif (decide (0 ≤ t24_4) && decide ((Int.toNat t24_4) < t22_2)) then some () else none : Option Unit).bind fun _ => (bif (decide ((of3_19 (Int.toNat t24_4)) ≥ index2_0)) then
    (go (IntKind.wrap .i64 (many3_1 + 1)) (IntKind.wrap .i64 (t24_4 + 1))) else (go many3_1 (IntKind.wrap .i64 (t24_4 + 1))))) else (k0 many3_1))
def F_impl_Node_agree_M_B0 {ρ : Type} (fu : Nat) (o0_1 : Int) (o0_2 : Int) (o0_3 : Int) (o0_4 : Int) (o0_5 : Nat) (o0_6 : Int) (o0_7 : Int) (o0_8 : Nat) (o0_9 : Nat) (on1_10 : Nat) (of1_11 : (Nat → S_impl_Entry)) (on2_12 : Nat) (of2_13 : (Nat → Int)) (on3_14 : Nat) (of3_15 : (Nat → Int)) (k0 : Int → Option ρ) (k1 : Option ρ) (index2_0 : Int) (go : Int → Option ρ) : Option ρ :=
  (bif (decide (index2_0 > o0_7)) then (L (fun w2 go2 => F_impl_Node_agree_M_B2 fu index2_0 o0_9 ((o0_9 : Nat) : Int) o0_1 o0_2 o0_3 o0_4 o0_5 o0_6 o0_7 o0_8 o0_9 on1_10 of1_11 on2_12 of2_13 on3_14 of3_15 (fun z270 =>
    ((((F_impl_Node_isQuorum fu (⟨o0_1, o0_2, o0_3, o0_4, (⟨none, o0_5, of1_11⟩ : (Sl S_impl_Entry)), o0_6, o0_7, (⟨(some true), 0, (fun _ => dflt .i64)⟩ : (Sl Int)), (⟨none, o0_8,
    of2_13⟩ : (Sl Int)), (⟨none, o0_9, of3_15⟩ : (Sl Int))⟩ : S_impl_Node) z270).bind fun y271 => (bif y271 then ((bif (decide (0 ≤ (IntKind.wrap .i64 (index2_0 - 1))) && decide ((Int.toNat (IntKind.wrap .i64 (index2_0 - 1))) < o0_5)) then
    some () else none : Option Unit).bind fun _ => (some ((of1_11 (Int.toNat (IntKind.wrap .i64 (index2_0 - 1)))).Term == o0_3))) else (some false))) : Option Bool).bind fun m272 =>
    (bif m272 then (k0 index2_0) else (go (IntKind.wrap .i64 (index2_0 - 1)))))) w2.1 w2.2 (fun q0 q1 => go2 (q0, q1))) fu ((0, 0) : Int × Int)) else k1)
def F_impl_Node_agree_M (fu : Nat) (b0_0 : Int) (b0_1 : Int) (b0_2 : Int) (b0_3 : Int) (b0_4 : Nat) (b0_5 : Int) (b0_6 : Int) (b0_7 : Nat) (b0_8 : Nat) (rn1 : Nat) (rf1 : (Nat → S_impl_Entry)) (rn2 : Nat) (rf2 : (Nat → Int)) (rn3 : Nat) (rf3 : (Nat → Int)) : Option (Yd0) :=
  ((F_impl_size_impl_Entry fu (⟨none, b0_4, rf1⟩ : (Sl S_impl_Entry))).bind fun y269 => (L (fun w0 go0 => F_impl_Node_agree_M_B0 fu b0_0 b0_1 b0_2 b0_3 b0_4 b0_5 b0_6 b0_7 b0_8 rn1 rf1 rn2 rf2 rn3 rf3 (fun z273 =>
    (some (b0_0, b0_1, b0_2, b0_3, b0_4, b0_5, z273, b0_7, b0_8, rn1, rf1, rn2, rf2, rn3, rf3))) (some (b0_0, b0_1, b0_2, b0_3, b0_4, b0_5, b0_6, b0_7, b0_8, rn1, rf1, rn2, rf2,
    rn3, rf3)) w0 go0) fu (y269 : Int)))
def pcf_a33 (fu : Nat) (f : Nat) (xs : List (D RT den)) : Option (Out RT den) := match f with | 37 => S_a32 fu xs | 50 => S_a28 fu xs | _ => none
def pc_a33 (fu : Nat) : Pc RT den := ⟨pcf_a33 fu, fun _ => false, fun _ => false, pcd0, pcd0, pcx0⟩
def msk_a33 (b : Nat) : List Nat := match b with | 0 => (1 :: (rg 3 54 [])) | 100000 => (rg 0 57 []) | 2 => (1 :: (rg 4 18 (rg 25 32 []))) | 100002 => (1 :: (rg 4 53 [])) | 200010 => [52] | _ => []
def ps_a33_2 : List (Pat RT) := (.flat (.ref 0 0) :: .flat .q :: .flat (.int .i64) :: .flat (.int .i64) :: (fq 18 (.flat (.os 3) :: .flat (.int .i64) :: .flat (.int .i64) :: (fq 32 []))))
def os_a33_2 : List (OP RT) := [.box true [(.int .i64), (.int .i64), (.int .i64), (.int .i64), (.os 1), (.int .i64), (.int .i64), (.emp true .i64), (.os 2), (.os 3)], .row true .impl_Entry, .row true .i64, .row true .i64]
def conv_a33_2 (r : Raw den ps_a33_2 os_a33_2) : (Yd1) × (Int × Int) := ((r.1.2.2.1, (e20 r.1).2.2.1, (e20 r.1).2.2.2.1, r.2.1.1, r.2.1.2.1, r.2.1.2.2.1, r.2.1.2.2.2.1, r.2.1.2.2.2.2.1, (e5 r.2.1).1, (e5 r.2.1).2.1, (e5 r.2.1).2.2.2.1, (e5 r.2.1).2.2.2.2.1, r.2.2.1.1, r.2.2.1.2, r.2.2.2.1.1, r.2.2.2.1.2, r.2.2.2.2.1.1, r.2.2.2.2.1.2), (r.1.2.2.2.1, (e20 r.1).2.2.2.2.1))
def back_a33_2 (c : Yd1) (w : Int × Int) : St RT den := ⟨((.ref 0 0) :: .q :: (.int .i64 c.1) :: (.int .i64 w.1) :: (qs 18 ((.os 3 c.2.1) :: (.int .i64 c.2.2.1) :: (.int .i64 w.2) :: (qs 32 [])))), [(.box true [(.int .i64 c.2.2.2.1), (.int .i64 c.2.2.2.2.1), (.int .i64 (e5 c).1), (.int .i64 (e5 c).2.1), (.os 1 (e5 c).2.2.1), (.int .i64 (e5 c).2.2.2.1), (.int .i64 (e5 c).2.2.2.2.1), (.emp true .i64), (.os 2 (e10 c).1), (.os 3 (e10 c).2.1)]), (.row true .impl_Entry (e10 c).2.2.1 (e10 c).2.2.2.1), (.row true .i64 (e10 c).2.2.2.2.1 (e5 (e10 c)).1), (.row true .i64 (e5 (e10 c)).2.1 (e5 (e10 c)).2.2)]⟩
def Bk_a33_2 {ρ : Type} (fu : Nat) (c : Yd1) (k : Ex → St RT den → Option ρ) (w : Int × Int) (go : (Int × Int) → Option ρ) : Option ρ := F_impl_Node_agree_M_B2 fu c.1 c.2.1 c.2.2.1 c.2.2.2.1 c.2.2.2.2.1 (e5 c).1 (e5 c).2.1 (e5 c).2.2.1 (e5 c).2.2.2.1 (e5 c).2.2.2.2.1 (e10 c).1 (e10 c).2.1 (e10 c).2.2.1 (e10 c).2.2.2.1 (e10 c).2.2.2.2.1 (e5 (e10 c)).1 (e5 (e10 c)).2.1 (e5 (e10 c)).2.2 (fun a0 => k (.exit 2) ⟨((.ref 0 0) :: .q :: (.int .i64 c.1) :: (.int .i64 a0) :: (qs 53 [])), [(.box true [(.int .i64 c.2.2.2.1), (.int .i64 c.2.2.2.2.1), (.int .i64 (e5 c).1), (.int .i64 (e5 c).2.1), (.os 1 (e5 c).2.2.1), (.int .i64 (e5 c).2.2.2.1), (.int .i64 (e5 c).2.2.2.2.1), (.emp true .i64), (.os 2 (e10 c).1), (.os 3 (e10 c).2.1)]), (.row true .impl_Entry (e10 c).2.2.1 (e10 c).2.2.2.1), (.row true .i64 (e10 c).2.2.2.2.1 (e5 (e10 c)).1), (.row true .i64 (e5 (e10 c)).2.1 (e5 (e10 c)).2.2)]⟩) w.1 w.2 (fun q0 q1 => go (q0, q1))
def ps_a33_0 : List (Pat RT) := (.flat (.ref 0 0) :: .flat .q :: .flat (.int .i64) :: (fq 54 []))
def os_a33_0 : List (OP RT) := [.box true [(.int .i64), (.int .i64), (.int .i64), (.int .i64), (.os 1), (.int .i64), (.int .i64), (.emp true .i64), (.os 2), (.os 3)], .row true .impl_Entry, .row true .i64, .row true .i64]
def conv_a33_0 (r : Raw den ps_a33_0 os_a33_0) : (Yd0) × (Int) := ((r.2.1.1, r.2.1.2.1, r.2.1.2.2.1, r.2.1.2.2.2.1, r.2.1.2.2.2.2.1, (e5 r.2.1).1, (e5 r.2.1).2.1, (e5 r.2.1).2.2.2.1, (e5 r.2.1).2.2.2.2.1, r.2.2.1.1, r.2.2.1.2, r.2.2.2.1.1, r.2.2.2.1.2, r.2.2.2.2.1.1, r.2.2.2.2.1.2), r.1.2.2.1)
def back_a33_0 (c : Yd0) (w : Int) : St RT den := ⟨((.ref 0 0) :: .q :: (.int .i64 w) :: (qs 54 [])), [(.box true [(.int .i64 c.1), (.int .i64 c.2.1), (.int .i64 c.2.2.1), (.int .i64 c.2.2.2.1), (.os 1 c.2.2.2.2.1), (.int .i64 (e5 c).1), (.int .i64 (e5 c).2.1), (.emp true .i64), (.os 2 (e5 c).2.2.1), (.os 3 (e5 c).2.2.2.1)]), (.row true .impl_Entry (e5 c).2.2.2.2.1 (e10 c).1), (.row true .i64 (e10 c).2.1 (e10 c).2.2.1), (.row true .i64 (e10 c).2.2.2.1 (e10 c).2.2.2.2)]⟩
def Bk_a33_0 {ρ : Type} (fu : Nat) (c : Yd0) (k : Ex → St RT den → Option ρ) (w : Int) (go : (Int) → Option ρ) : Option ρ := F_impl_Node_agree_M_B0 fu c.1 c.2.1 c.2.2.1 c.2.2.2.1 c.2.2.2.2.1 (e5 c).1 (e5 c).2.1 (e5 c).2.2.1 (e5 c).2.2.2.1 (e5 c).2.2.2.2.1 (e10 c).1 (e10 c).2.1 (e10 c).2.2.1 (e10 c).2.2.2.1 (e10 c).2.2.2.2 (fun a0 => k .ret ⟨(qs 57 []), [(.box true [(.int .i64 c.1), (.int .i64 c.2.1), (.int .i64 c.2.2.1), (.int .i64 c.2.2.2.1), (.os 1 c.2.2.2.2.1), (.int .i64 (e5 c).1), (.int .i64 a0), (.emp true .i64), (.os 2 (e5 c).2.2.1), (.os 3 (e5 c).2.2.2.1)]), (.row true .impl_Entry (e5 c).2.2.2.2.1 (e10 c).1), (.row true .i64 (e10 c).2.1 (e10 c).2.2.1), (.row true .i64 (e10 c).2.2.2.1 (e10 c).2.2.2.2)]⟩) (k (.exit 0) ⟨(qs 57 []), [(.box true [(.int .i64 c.1), (.int .i64 c.2.1), (.int .i64 c.2.2.1), (.int .i64 c.2.2.2.1), (.os 1 c.2.2.2.2.1), (.int .i64 (e5 c).1), (.int .i64 (e5 c).2.1), (.emp true .i64), (.os 2 (e5 c).2.2.1), (.os 3 (e5 c).2.2.2.1)]), (.row true .impl_Entry (e5 c).2.2.2.2.1 (e10 c).1), (.row true .i64 (e10 c).2.1 (e10 c).2.2.1), (.row true .i64 (e10 c).2.2.2.1 (e10 c).2.2.2.2)]⟩) w go
def lp_a33 (fu : Nat) : Lp RT den (Yd0) := ⟨fun b s k => match b with | 0 => handle ps_a33_0 os_a33_0 conv_a33_0 (Bk_a33_0 fu) fu s k | 2 => handle ps_a33_2 os_a33_2 conv_a33_2 (Bk_a33_2 fu) fu s k | _ => none, inl0⟩
def pso_a33 : List (Pat RT) := [.tup []]
def oso_a33 : List (OP RT) := [.box true [(.int .i64), (.int .i64), (.int .i64), (.int .i64), (.os 1), (.int .i64), (.int .i64), (.emp true .i64), (.os 2), (.os 3)], .row true .impl_Entry, .row true .i64, .row true .i64]
def conv_a33 (r : Raw den pso_a33 oso_a33) : Yd0 := (r.2.1.1, r.2.1.2.1, r.2.1.2.2.1, r.2.1.2.2.2.1, r.2.1.2.2.2.2.1, (e5 r.2.1).1, (e5 r.2.1).2.1, (e5 r.2.1).2.2.2.1, (e5 r.2.1).2.2.2.2.1, r.2.2.1.1, r.2.2.1.2, r.2.2.2.1.1, r.2.2.2.1.2, r.2.2.2.2.1.1, r.2.2.2.2.1.2)
def enc_a33 (y : Yd0) : D RT den × List (Ob RT den) := ((.tup []), [(.box true [(.int .i64 y.1), (.int .i64 y.2.1), (.int .i64 y.2.2.1), (.int .i64 y.2.2.2.1), (.os 1 y.2.2.2.2.1), (.int .i64 y.2.2.2.2.2.1), (.int .i64 y.2.2.2.2.2.2.1), (.emp true .i64), (.os 2 y.2.2.2.2.2.2.2.1), (.os 3 y.2.2.2.2.2.2.2.2.1)]), (.row true .impl_Entry y.2.2.2.2.2.2.2.2.2.1 y.2.2.2.2.2.2.2.2.2.2.1), (.row true .i64 y.2.2.2.2.2.2.2.2.2.2.2.1 y.2.2.2.2.2.2.2.2.2.2.2.2.1), (.row true .i64 y.2.2.2.2.2.2.2.2.2.2.2.2.2.1 y.2.2.2.2.2.2.2.2.2.2.2.2.2.2)])
def out_a33 (d : D RT den) (os : List (Ob RT den)) : Option (Yd0) := (unSt pso_a33 oso_a33 ⟨[d], os⟩).bind fun v => some (conv_a33 v.1)
theorem out_a33_enc (d : D RT den) (os : List (Ob RT den)) (y : Yd0) (h : out_a33 d os = some y) : d = (enc_a33 y).1 ∧ os = (enc_a33 y).2 :=
  outM (conv := conv_a33) (enc := enc_a33) (fun raw => by kernel_rfl) h
theorem ev_a33 (fu : Nat) (b0_0 : Int) (b0_1 : Int) (b0_2 : Int) (b0_3 : Int) (b0_4 : Nat) (b0_5 : Int) (b0_6 : Int) (b0_7 : Nat) (b0_8 : Nat) (rn1 : Nat) (rf1 : (Nat → S_impl_Entry)) (rn2 : Nat) (rf2 : (Nat → Int)) (rn3 : Nat) (rf3 : (Nat → Int)) : evFunM E false (pc_a33 fu) msk_a33 (lp_a33 fu) out_a33 66 [(.ref 0 0)] [(.box true [(.int .i64 b0_0), (.int .i64 b0_1), (.int .i64 b0_2), (.int .i64 b0_3), (.os 1 b0_4), (.int .i64 b0_5), (.int .i64 b0_6), (.emp true .i64), (.os 2 b0_7), (.os 3 b0_8)]), (.row true .impl_Entry rn1 rf1), (.row true .i64 rn2 rf2), (.row true .i64 rn3 rf3)] = F_impl_Node_agree_M fu b0_0 b0_1 b0_2 b0_3 b0_4 b0_5 b0_6 b0_7 b0_8 rn1 rf1 rn2 rf2 rn3 rf3 := by kernel_rfl
noncomputable def body_a33 : Code := Try.f66.body.getD .skip
noncomputable def lc_a33_0 : Code := ((loops 0 body_a33).getD 0 (0, .skip)).2
theorem round_a33_0 (fu : Nat) (it : St RT den → Option (Yd0)) (k : Ex → St RT den → Option (Yd0)) c w : evCode E (pc_a33 fu) msk_a33 (lp_a33 fu) 0 lc_a33_0 (back_a33_0 c w) (after (msk_a33 0) (msk_a33 100000) 4 it k) = Bk_a33_0 fu c k w (fun w => it (back_a33_0 c w)) := by kernel_rfl
theorem lpok_a33_0 (fu : Nat) : ∀ s k r, (lp_a33 fu).lp 0 s k = some r → ∃ fuel, iter (msk_a33 0) (msk_a33 100000) s.objs.length (evCode E (pc_a33 fu) msk_a33 (lp_a33 fu) 0 lc_a33_0) fuel s k = some r :=
  handle_ok (ps := ps_a33_0) (os := os_a33_0) (conv := conv_a33_0) (B := Bk_a33_0 fu) (fu := fu) back_a33_0 (fun raw => by kernel_rfl) 4 (fun c w => by kernel_rfl) (round_a33_0 fu)
noncomputable def lc_a33_2 : Code := ((loops 0 body_a33).getD 1 (0, .skip)).2
theorem round_a33_2 (fu : Nat) (it : St RT den → Option (Yd0)) (k : Ex → St RT den → Option (Yd0)) c w : evCode E (pc_a33 fu) msk_a33 (lp_a33 fu) 2 lc_a33_2 (back_a33_2 c w) (after (msk_a33 2) (msk_a33 100002) 4 it k) = Bk_a33_2 fu c k w (fun w => it (back_a33_2 c w)) := by kernel_rfl
theorem lpok_a33_2 (fu : Nat) : ∀ s k r, (lp_a33 fu).lp 2 s k = some r → ∃ fuel, iter (msk_a33 2) (msk_a33 100002) s.objs.length (evCode E (pc_a33 fu) msk_a33 (lp_a33 fu) 2 lc_a33_2) fuel s k = some r :=
  handle_ok (ps := ps_a33_2) (os := os_a33_2) (conv := conv_a33_2) (B := Bk_a33_2 fu) (fu := fu) back_a33_2 (fun raw => by kernel_rfl) 4 (fun c w => by kernel_rfl) (round_a33_2 fu)
theorem lpok_a33 (fu : Nat) : LpOk E (pc_a33 fu) 0 msk_a33 (lp_a33 fu) (loops 0 body_a33) := lp_nil (loop_all 2 (by kernel_rfl) fun i hi => match i, hi with
  | 0, _ => by
    have h : (loops 0 body_a33).getD 0 (0, .skip) = (0, lc_a33_0) := by kernel_rfl
    rw [h]; exact lpok_a33_0 fu
  | 1, _ => by
    have h : (loops 0 body_a33).getD 1 (0, .skip) = (2, lc_a33_2) := by kernel_rfl
    rw [h]; exact lpok_a33_2 fu
  | i + 2, hi => absurd hi (by omega)) (by kernel_rfl)
def S_a33 (fu : Nat) (xs : List (D RT den)) (ins : List (Ob RT den)) : Option (OutX RT den) := match xs, ins with | [.ref 0 0], [.box true [.int .i64 a1000_0, .int .i64 a1001_0, .int .i64 a1002_0, .int .i64 a1003_0, .os 1 a1004_0, .int .i64 a1005_0, .int .i64 a1006_0, .emp true .i64, .os 2 a1008_0, .os 3 a1009_0], .row true .impl_Entry rn1 rf1, .row true .i64 rn2 rf2, .row true .i64 rn3 rf3] => some ⟨Yd0, F_impl_Node_agree_M fu a1000_0 a1001_0 a1002_0 a1003_0 a1004_0 a1005_0 a1006_0 a1008_0 a1009_0 rn1 rf1 rn2 rf2 rn3 rf3, enc_a33⟩ | _, _ => none
theorem hpc_a33 (fu : Nat) : ∀ f xs o, pcf_a33 fu f xs = some o → ∀ y, o.x = some y → Good E Try.prog f xs (o.g y) := by
  intro f xs o h
  unfold pcf_a33 at h
  split at h
  · exact good_a32 fu xs o h
  · exact good_a28 fu xs o h
  · cases h
theorem goodv_a33 (fu : Nat) (b0_0 : Int) (b0_1 : Int) (b0_2 : Int) (b0_3 : Int) (b0_4 : Nat) (b0_5 : Int) (b0_6 : Int) (b0_7 : Nat) (b0_8 : Nat) (rn1 : Nat) (rf1 : (Nat → S_impl_Entry)) (rn2 : Nat) (rf2 : (Nat → Int)) (rn3 : Nat) (rf3 : (Nat → Int)) (y : Yd0) (hy : F_impl_Node_agree_M fu b0_0 b0_1 b0_2 b0_3 b0_4 b0_5 b0_6 b0_7 b0_8 rn1 rf1 rn2 rf2 rn3 rf3 = some y) : GoodX E Try.prog 66 [(.ref 0 0)] [(.box true [(.int .i64 b0_0), (.int .i64 b0_1), (.int .i64 b0_2), (.int .i64 b0_3), (.os 1 b0_4), (.int .i64 b0_5), (.int .i64 b0_6), (.emp true .i64), (.os 2 b0_7), (.os 3 b0_8)]), (.row true .impl_Entry rn1 rf1), (.row true .i64 rn2 rf2), (.row true .i64 rn3 rf3)] (enc_a33 y).1 (enc_a33 y).2 :=
  funM_good (ke := false) E_ok (pc_good (pc := pc_a33 fu) (hpc_a33 fu) hpx0) (fn := Try.f66) (c := body_a33) (out := out_a33) (y := y) (by kernel_rfl) (by kernel_rfl) (by kernel_rfl) (lpok_a33 fu) (by kernel_rfl) (Nat.le_of_ble_eq_true (by kernel_rfl)) (fun d os hd => out_a33_enc d os _ hd) ((ev_a33 fu b0_0 b0_1 b0_2 b0_3 b0_4 b0_5 b0_6 b0_7 b0_8 rn1 rf1 rn2 rf2 rn3 rf3).trans hy)
theorem good_a33 (fu : Nat) : ∀ xs ins o, S_a33 fu xs ins = some o → ∀ y, o.x = some y → GoodX E Try.prog 66 xs ins (o.g y).1 (o.g y).2 := by
  intro xs ins o h y hy
  unfold S_a33 at h
  split at h
  · rename_i a1000_0 a1001_0 a1002_0 a1003_0 a1004_0 a1005_0 a1006_0 a1008_0 a1009_0 rn1 rf1 rn2 rf2 rn3 rf3
    cases h
    exact goodv_a33 fu a1000_0 a1001_0 a1002_0 a1003_0 a1004_0 a1005_0 a1006_0 a1008_0 a1009_0 rn1 rf1 rn2 rf2 rn3 rf3 y hy
  · cases h

/-! (*impl.Node).lead -/
def F_impl_Node_lead_M (fu : Nat) (b0_0 : Int) (b0_1 : Int) (b0_2 : Int) (b0_3 : Int) (b0_4 : Nat) (b0_5 : Int) (b0_6 : Int) (b0_7 : Nat) (b0_8 : Nat) (b0_9 : Nat) (rn1 : Nat) (rf1 : (Nat → S_impl_Entry)) (rn2 : Nat) (rf2 : (Nat → Int)) (rn3 : Nat) (rf3 : (Nat → Int)) (rn4 : Nat) (rf4 : (Nat → Int)) : Option (Yd2) :=
  ((F_impl_size_impl_Entry fu (⟨none, b0_4, rf1⟩ : (Sl S_impl_Entry))).bind fun y261 => ((F_slices_Repeat_int64_int64_H fu (⟨(some false), 1, (fun i => ([(IntKind.wrap .i64 (y261 + 1))] : List (Int)).getD i (dflt .i64))⟩ : (Sl Int)) b0_1).bind fun y262 =>
    (bif (decide (0 ≤ b0_1) && (decide (b0_1 = b0_1) && (decide ((8 : Int) * b0_1 ≤ 281474976710656) && decide (b0_1 ≤ 9223372036854775807)))) then ((F_impl_size_impl_Entry fu (⟨none,
    b0_4, rf1⟩ : (Sl S_impl_Entry))).bind fun y263 => ((bif (decide (0 ≤ b0_0) && decide ((Int.toNat b0_0) < (Int.toNat b0_1))) then some () else none : Option Unit).bind fun _ =>
    ((F_impl_Node_isQuorum fu (⟨b0_0, b0_1, b0_2, b0_3, (⟨none, b0_4, rf1⟩ : (Sl S_impl_Entry)), 2, b0_6, (⟨(some true), 0, (fun _ => dflt .i64)⟩ : (Sl Int)), (⟨none, y262.n,
    y262.f⟩ : (Sl Int)), (⟨none, (Int.toNat b0_1), (fun j => if j = (Int.toNat b0_0) then y263 else (fun _ => 0) j)⟩ : (Sl Int))⟩ : S_impl_Node) 1).bind fun y264 => (bif y264 then
    ((F_impl_Node_agree_M fu b0_0 b0_1 b0_2 b0_3 b0_4 2 b0_6 y262.n (Int.toNat b0_1) rn1 rf1 y262.n y262.f (Int.toNat b0_1) (fun j => if j = (Int.toNat b0_0) then y263 else (fun _ =>
    0) j)).bind fun y274 => (some (y274.1, y274.2.1, y274.2.2.1, y274.2.2.2.1, y274.2.2.2.2.1, y274.2.2.2.2.2.1, y274.2.2.2.2.2.2.1, y274.2.2.2.2.2.2.2.1, y274.2.2.2.2.2.2.2.2.1,
    y274.2.2.2.2.2.2.2.2.2.1, y274.2.2.2.2.2.2.2.2.2.2.1, rn2, rf2, rn3, rf3, rn4, rf4, y274.2.2.2.2.2.2.2.1, y274.2.2.2.2.2.2.2.2.2.2.2.2.1, y274.2.2.2.2.2.2.2.2.1,
    y274.2.2.2.2.2.2.2.2.2.2.2.2.2.2))) else (some (b0_0, b0_1, b0_2, b0_3, b0_4, 2, b0_6, y262.n, (Int.toNat b0_1), rn1, rf1, rn2, rf2, rn3, rf3, rn4, rf4, y262.n, y262.f,
    (Int.toNat b0_1), (fun j => if j = (Int.toNat b0_0) then y263 else (fun _ => 0) j))))))) else none)))
def pcf_a34 (fu : Nat) (f : Nat) (xs : List (D RT den)) : Option (Out RT den) := match f with | 37 => S_a32 fu xs | 50 => S_a28 fu xs | _ => none
def pcx_a34 (fu : Nat) (f : Nat) (xs : List (D RT den)) (ins : List (Ob RT den)) : Option (OutX RT den) := match f with | 66 => S_a33 fu xs ins | 82 => S_a31 fu xs ins | _ => none
def pcd_a34 : Nat → Bool := fun _ => false
def pc_a34 (fu : Nat) : Pc RT den := ⟨pcf_a34 fu, fun f => match f with | 66 => true | 82 => true | _ => false, fun f => match f with | 66 => true | _ => false, pcd_a34, fun f => match f with | 82 => true | _ => false, pcx_a34 fu⟩
def msk_a34 (b : Nat) : List Nat := match b with | 600001 => [18990] | 800001 => (rg 1 48 []) | _ => []
def lp_a34 (fu : Nat) : Lp RT den (Yd2) := ⟨fun b s k => none, inl0⟩
def pso_a34 : List (Pat RT) := [.tup []]
def oso_a34 : List (OP RT) := [.box true [(.int .i64), (.int .i64), (.int .i64), (.int .i64), (.os 1), (.int .i64), (.int .i64), (.emp true .i64), (.os 5), (.os 6)], .row true .impl_Entry, .row true .i64, .row true .i64, .row true .i64, .row false .i64, .row false .i64]
def conv_a34 (r : Raw den pso_a34 oso_a34) : Yd2 := (r.2.1.1, r.2.1.2.1, r.2.1.2.2.1, r.2.1.2.2.2.1, r.2.1.2.2.2.2.1, (e5 r.2.1).1, (e5 r.2.1).2.1, (e5 r.2.1).2.2.2.1, (e5 r.2.1).2.2.2.2.1, r.2.2.1.1, r.2.2.1.2, r.2.2.2.1.1, r.2.2.2.1.2, r.2.2.2.2.1.1, r.2.2.2.2.1.2, (e5 r).1.1, (e5 r).1.2, (e5 r).2.1.1, (e5 r).2.1.2, (e5 r).2.2.1.1, (e5 r).2.2.1.2)
def enc_a34 (y : Yd2) : D RT den × List (Ob RT den) := ((.tup []), [(.box true [(.int .i64 y.1), (.int .i64 y.2.1), (.int .i64 y.2.2.1), (.int .i64 y.2.2.2.1), (.os 1 y.2.2.2.2.1), (.int .i64 y.2.2.2.2.2.1), (.int .i64 y.2.2.2.2.2.2.1), (.emp true .i64), (.os 5 y.2.2.2.2.2.2.2.1), (.os 6 y.2.2.2.2.2.2.2.2.1)]), (.row true .impl_Entry y.2.2.2.2.2.2.2.2.2.1 y.2.2.2.2.2.2.2.2.2.2.1), (.row true .i64 y.2.2.2.2.2.2.2.2.2.2.2.1 y.2.2.2.2.2.2.2.2.2.2.2.2.1), (.row true .i64 y.2.2.2.2.2.2.2.2.2.2.2.2.2.1 y.2.2.2.2.2.2.2.2.2.2.2.2.2.2.1), (.row true .i64 y.2.2.2.2.2.2.2.2.2.2.2.2.2.2.2.1 y.2.2.2.2.2.2.2.2.2.2.2.2.2.2.2.2.1), (.row false .i64 y.2.2.2.2.2.2.2.2.2.2.2.2.2.2.2.2.2.1 y.2.2.2.2.2.2.2.2.2.2.2.2.2.2.2.2.2.2.1), (.row false .i64 y.2.2.2.2.2.2.2.2.2.2.2.2.2.2.2.2.2.2.2.1 y.2.2.2.2.2.2.2.2.2.2.2.2.2.2.2.2.2.2.2.2)])
def out_a34 (d : D RT den) (os : List (Ob RT den)) : Option (Yd2) := (unSt pso_a34 oso_a34 ⟨[d], os⟩).bind fun v => some (conv_a34 v.1)
theorem out_a34_enc (d : D RT den) (os : List (Ob RT den)) (y : Yd2) (h : out_a34 d os = some y) : d = (enc_a34 y).1 ∧ os = (enc_a34 y).2 :=
  outM (conv := conv_a34) (enc := enc_a34) (fun raw => by kernel_rfl) h
theorem ev_a34 (fu : Nat) (b0_0 : Int) (b0_1 : Int) (b0_2 : Int) (b0_3 : Int) (b0_4 : Nat) (b0_5 : Int) (b0_6 : Int) (b0_7 : Nat) (b0_8 : Nat) (b0_9 : Nat) (rn1 : Nat) (rf1 : (Nat → S_impl_Entry)) (rn2 : Nat) (rf2 : (Nat → Int)) (rn3 : Nat) (rf3 : (Nat → Int)) (rn4 : Nat) (rf4 : (Nat → Int)) : evFunM E false (pc_a34 fu) msk_a34 (lp_a34 fu) out_a34 51 [(.ref 0 0)] [(.box true [(.int .i64 b0_0), (.int .i64 b0_1), (.int .i64 b0_2), (.int .i64 b0_3), (.os 1 b0_4), (.int .i64 b0_5), (.int .i64 b0_6), (.os 2 b0_7), (.os 3 b0_8), (.os 4 b0_9)]), (.row true .impl_Entry rn1 rf1), (.row true .i64 rn2 rf2), (.row true .i64 rn3 rf3), (.row true .i64 rn4 rf4)] = F_impl_Node_lead_M fu b0_0 b0_1 b0_2 b0_3 b0_4 b0_5 b0_6 b0_7 b0_8 b0_9 rn1 rf1 rn2 rf2 rn3 rf3 rn4 rf4 := by kernel_rfl
noncomputable def body_a34 : Code := Try.f51.body.getD .skip
theorem lpok_a34 (fu : Nat) : LpOk E (pc_a34 fu) 0 msk_a34 (lp_a34 fu) (loops 0 body_a34) := lp_nil (loop_nil (by kernel_rfl)) (by kernel_rfl)
def S_a34 (fu : Nat) (xs : List (D RT den)) (ins : List (Ob RT den)) : Option (OutX RT den) := match xs, ins with | [.ref 0 0], [.box true [.int .i64 a1000_0, .int .i64 a1001_0, .int .i64 a1002_0, .int .i64 a1003_0, .os 1 a1004_0, .int .i64 a1005_0, .int .i64 a1006_0, .os 2 a1007_0, .os 3 a1008_0, .os 4 a1009_0], .row true .impl_Entry rn1 rf1, .row true .i64 rn2 rf2, .row true .i64 rn3 rf3, .row true .i64 rn4 rf4] => some ⟨Yd2, F_impl_Node_lead_M fu a1000_0 a1001_0 a1002_0 a1003_0 a1004_0 a1005_0 a1006_0 a1007_0 a1008_0 a1009_0 rn1 rf1 rn2 rf2 rn3 rf3 rn4 rf4, enc_a34⟩ | _, _ => none
theorem hpc_a34 (fu : Nat) : ∀ f xs o, pcf_a34 fu f xs = some o → ∀ y, o.x = some y → Good E Try.prog f xs (o.g y) := by
  intro f xs o h
  unfold pcf_a34 at h
  split at h
  · exact good_a32 fu xs o h
  · exact good_a28 fu xs o h
  · cases h
theorem hpx_a34 (fu : Nat) : ∀ f xs ins o, pcx_a34 fu f xs ins = some o → ∀ y, o.x = some y → GoodXD E Try.prog (pcd_a34 f) f xs ins (o.g y).1 (o.g y).2 := by
  intro f xs ins o h
  unfold pcx_a34 at h
  split at h
  · exact good_a33 fu xs ins o h
  · exact good_a31 fu xs ins o h
  · cases h
theorem goodv_a34 (fu : Nat) (b0_0 : Int) (b0_1 : Int) (b0_2 : Int) (b0_3 : Int) (b0_4 : Nat) (b0_5 : Int) (b0_6 : Int) (b0_7 : Nat) (b0_8 : Nat) (b0_9 : Nat) (rn1 : Nat) (rf1 : (Nat → S_impl_Entry)) (rn2 : Nat) (rf2 : (Nat → Int)) (rn3 : Nat) (rf3 : (Nat → Int)) (rn4 : Nat) (rf4 : (Nat → Int)) (y : Yd2) (hy : F_impl_Node_lead_M fu b0_0 b0_1 b0_2 b0_3 b0_4 b0_5 b0_6 b0_7 b0_8 b0_9 rn1 rf1 rn2 rf2 rn3 rf3 rn4 rf4 = some y) : GoodX E Try.prog 51 [(.ref 0 0)] [(.box true [(.int .i64 b0_0), (.int .i64 b0_1), (.int .i64 b0_2), (.int .i64 b0_3), (.os 1 b0_4), (.int .i64 b0_5), (.int .i64 b0_6), (.os 2 b0_7), (.os 3 b0_8), (.os 4 b0_9)]), (.row true .impl_Entry rn1 rf1), (.row true .i64 rn2 rf2), (.row true .i64 rn3 rf3), (.row true .i64 rn4 rf4)] (enc_a34 y).1 (enc_a34 y).2 :=
  funM_good (ke := false) E_ok (pc_good (pc := pc_a34 fu) (hpc_a34 fu) (hpx_a34 fu)) (fn := Try.f51) (c := body_a34) (out := out_a34) (y := y) (by kernel_rfl) (by kernel_rfl) (by kernel_rfl) (lpok_a34 fu) (by kernel_rfl) (Nat.le_of_ble_eq_true (by kernel_rfl)) (fun d os hd => out_a34_enc d os _ hd) ((ev_a34 fu b0_0 b0_1 b0_2 b0_3 b0_4 b0_5 b0_6 b0_7 b0_8 b0_9 rn1 rf1 rn2 rf2 rn3 rf3 rn4 rf4).trans hy)
theorem good_a34 (fu : Nat) : ∀ xs ins o, S_a34 fu xs ins = some o → ∀ y, o.x = some y → GoodX E Try.prog 51 xs ins (o.g y).1 (o.g y).2 := by
  intro xs ins o h y hy
  unfold S_a34 at h
  split at h
  · rename_i a1000_0 a1001_0 a1002_0 a1003_0 a1004_0 a1005_0 a1006_0 a1007_0 a1008_0 a1009_0 rn1 rf1 rn2 rf2 rn3 rf3 rn4 rf4
    cases h
    exact goodv_a34 fu a1000_0 a1001_0 a1002_0 a1003_0 a1004_0 a1005_0 a1006_0 a1007_0 a1008_0 a1009_0 rn1 rf1 rn2 rf2 rn3 rf3 rn4 rf4 y hy
  · cases h

/-! impl.in -/
def F_impl_in (fu : Nat) (n_0 : Int) (low_1 : Int) (high_2 : Int) : Option (Bool) :=
  (((bif (decide (n_0 ≥ low_1)) then (some (decide (n_0 ≤ high_2))) else (some false)) : Option Bool).bind fun m278 => (some m278))
def pc_a35 (fu : Nat) : Pc RT den := ⟨pcf0, fun _ => false, fun _ => false, pcd0, pcd0, pcx0⟩
def msk_a35 (b : Nat) : List Nat := match b with | 200001 => [6] | _ => []
def lp_a35 (fu : Nat) : Lp RT den (Bool) := ⟨fun b s k => none, inl0⟩
theorem ev_a35 (fu : Nat) (n_0 : Int) (low_1 : Int) (high_2 : Int) : evFun E (pc_a35 fu) msk_a35 (lp_a35 fu) out_bo 58 [(.int .i64 n_0), (.int .i64 low_1), (.int .i64 high_2)] = F_impl_in fu n_0 low_1 high_2 := by kernel_rfl
noncomputable def body_a35 : Code := Try.f58.body.getD .skip
theorem lpok_a35 (fu : Nat) : LpOk E (pc_a35 fu) 0 msk_a35 (lp_a35 fu) (loops 0 body_a35) := lp_nil (loop_nil (by kernel_rfl)) (by kernel_rfl)
def S_a35 (fu : Nat) (xs : List (D RT den)) : Option (Out RT den) := match xs with | [.int .i64 a0_0, .int .i64 a1_0, .int .i64 a2_0] => some ⟨Bool, F_impl_in fu a0_0 a1_0 a2_0, enc_bo, fun _ => true⟩ | _ => none
theorem goodv_a35 (fu : Nat) (n_0 : Int) (low_1 : Int) (high_2 : Int) (y : Bool) (hy : F_impl_in fu n_0 low_1 high_2 = some y) : Good E Try.prog 58 [(.int .i64 n_0), (.int .i64 low_1), (.int .i64 high_2)] (enc_bo y) :=
  fun_good E_ok (pc_good (pc := pc_a35 fu) hpc0 hpx0) (fn := Try.f58) (c := body_a35) (out := out_bo) (y := y) (by kernel_rfl) (by kernel_rfl) (by kernel_rfl) (lpok_a35 fu) (fun d hd => out_bo_enc d _ hd) ((ev_a35 fu n_0 low_1 high_2).trans hy)
theorem good_a35 (fu : Nat) : ∀ xs o, S_a35 fu xs = some o → ∀ y, o.x = some y → Good E Try.prog 58 xs (o.g y) := by
  intro xs o h y hy
  unfold S_a35 at h
  split at h
  · rename_i a0_0 a1_0 a2_0
    cases h
    exact goodv_a35 fu a0_0 a1_0 a2_0 y hy
  · cases h

/-! (*impl.Node).isId -/
def F_impl_Node_isId (fu : Nat) (n_0 : S_impl_Node) (id_1 : Int) : Option (Bool) :=
  ((F_impl_in fu id_1 0 (IntKind.wrap .i64 (n_0.Peers - 1))).bind fun y277 => (some y277))
def pcf_a36 (fu : Nat) (f : Nat) (xs : List (D RT den)) : Option (Out RT den) := match f with | 58 => S_a35 fu xs | _ => none
def pc_a36 (fu : Nat) : Pc RT den := ⟨pcf_a36 fu, fun _ => false, fun _ => false, pcd0, pcd0, pcx0⟩
def msk_a36 (b : Nat) : List Nat := []
def lp_a36 (fu : Nat) : Lp RT den (Bool) := ⟨fun b s k => none, inl0⟩
theorem ev_a36 (fu : Nat) (n_0 : S_impl_Node) (id_1 : Int) : evFun E (pc_a36 fu) msk_a36 (lp_a36 fu) out_bo 59 [(.rptr [(.int .i64 n_0.Id), (.int .i64 n_0.Peers), (.int .i64 n_0.Term), (.int .i64 n_0.Voted), (.rs n_0.Log.z .impl_Entry n_0.Log.n n_0.Log.f), (.int .i64 n_0.Role), (.int .i64 n_0.Commit), (.rs n_0.Votes.z .i64 n_0.Votes.n n_0.Votes.f), (.rs n_0.Next.z .i64 n_0.Next.n n_0.Next.f), (.rs n_0.Match.z .i64 n_0.Match.n n_0.Match.f)]), (.int .i64 id_1)] = F_impl_Node_isId fu n_0 id_1 := by kernel_rfl
noncomputable def body_a36 : Code := Try.f59.body.getD .skip
theorem lpok_a36 (fu : Nat) : LpOk E (pc_a36 fu) 0 msk_a36 (lp_a36 fu) (loops 0 body_a36) := lp_nil (loop_nil (by kernel_rfl)) (by kernel_rfl)
def S_a36 (fu : Nat) (xs : List (D RT den)) : Option (Out RT den) := match xs with | [.rptr (.int .i64 a0_1 :: .int .i64 a0_2 :: .int .i64 a0_3 :: .int .i64 a0_4 :: .rs za0_5 .impl_Entry na0_5 fa0_5 :: .int .i64 a0_6 :: .int .i64 a0_7 :: .rs za0_8 .i64 na0_8 fa0_8 :: .rs za0_9 .i64 na0_9 fa0_9 :: .rs za0_10 .i64 na0_10 fa0_10 :: ra0), .int .i64 a1_0] => some ⟨Bool, F_impl_Node_isId fu (⟨a0_1, a0_2, a0_3, a0_4, (⟨za0_5, na0_5, fa0_5⟩ : (Sl S_impl_Entry)), a0_6, a0_7, (⟨za0_8, na0_8, fa0_8⟩ : (Sl Int)), (⟨za0_9, na0_9, fa0_9⟩ : (Sl Int)), (⟨za0_10, na0_10, fa0_10⟩ : (Sl Int))⟩ : S_impl_Node) a1_0, enc_bo, fun _ => true⟩ | _ => none
theorem hpc_a36 (fu : Nat) : ∀ f xs o, pcf_a36 fu f xs = some o → ∀ y, o.x = some y → Good E Try.prog f xs (o.g y) := by
  intro f xs o h
  unfold pcf_a36 at h
  split at h
  · exact good_a35 fu xs o h
  · cases h
theorem goodv_a36 (fu : Nat) (n_0 : S_impl_Node) (id_1 : Int) (y : Bool) (hy : F_impl_Node_isId fu n_0 id_1 = some y) : Good E Try.prog 59 [(.rptr [(.int .i64 n_0.Id), (.int .i64 n_0.Peers), (.int .i64 n_0.Term), (.int .i64 n_0.Voted), (.rs n_0.Log.z .impl_Entry n_0.Log.n n_0.Log.f), (.int .i64 n_0.Role), (.int .i64 n_0.Commit), (.rs n_0.Votes.z .i64 n_0.Votes.n n_0.Votes.f), (.rs n_0.Next.z .i64 n_0.Next.n n_0.Next.f), (.rs n_0.Match.z .i64 n_0.Match.n n_0.Match.f)]), (.int .i64 id_1)] (enc_bo y) :=
  fun_good E_ok (pc_good (pc := pc_a36 fu) (hpc_a36 fu) hpx0) (fn := Try.f59) (c := body_a36) (out := out_bo) (y := y) (by kernel_rfl) (by kernel_rfl) (by kernel_rfl) (lpok_a36 fu) (fun d hd => out_bo_enc d _ hd) ((ev_a36 fu n_0 id_1).trans hy)
theorem good_a36 (fu : Nat) : ∀ xs o, S_a36 fu xs = some o → ∀ y, o.x = some y → Good E Try.prog 59 xs (o.g y) := by
  intro xs o h y hy
  unfold S_a36 at h
  split at h
  · rename_i a0_1 a0_2 a0_3 a0_4 za0_5 na0_5 fa0_5 a0_6 a0_7 za0_8 na0_8 fa0_8 za0_9 na0_9 fa0_9 za0_10 na0_10 fa0_10 ra0 a1_0
    cases h
    exact (goodv_a36 fu (⟨a0_1, a0_2, a0_3, a0_4, (⟨za0_5, na0_5, fa0_5⟩ : (Sl S_impl_Entry)), a0_6, a0_7, (⟨za0_8, na0_8, fa0_8⟩ : (Sl Int)), (⟨za0_9, na0_9, fa0_9⟩ : (Sl Int)), (⟨za0_10, na0_10, fa0_10⟩ : (Sl Int))⟩ : S_impl_Node) a1_0 y hy).sub ⟨Sub.of_eq ra0 rfl, .refl _, trivial⟩
  · cases h

/-! impl.needs -/
def F_impl_needs (fu : Nat) (kind_0 : Int) : Option (Bool × Bool × Bool × Bool) :=
  ((F_impl_in fu kind_0 5 8).bind fun y350 => ((F_impl_in fu kind_0 5 6).bind fun y351 => (bif (kind_0 == 1) then (some ((!y351), true, (kind_0 != 4), y350)) else (some ((!y351),
    y350, (kind_0 != 4), y350)))))
def pcf_a37 (fu : Nat) (f : Nat) (xs : List (D RT den)) : Option (Out RT den) := match f with | 58 => S_a35 fu xs | _ => none
def pc_a37 (fu : Nat) : Pc RT den := ⟨pcf_a37 fu, fun _ => false, fun _ => false, pcd0, pcd0, pcx0⟩
def msk_a37 (b : Nat) : List Nat := []
def lp_a37 (fu : Nat) : Lp RT den (Bool × Bool × Bool × Bool) := ⟨fun b s k => none, inl0⟩
theorem ev_a37 (fu : Nat) (kind_0 : Int) : evFun E (pc_a37 fu) msk_a37 (lp_a37 fu) out_bo_bo_bo_bo 96 [(.int .i64 kind_0)] = F_impl_needs fu kind_0 := by kernel_rfl
noncomputable def body_a37 : Code := Try.f96.body.getD .skip
theorem lpok_a37 (fu : Nat) : LpOk E (pc_a37 fu) 0 msk_a37 (lp_a37 fu) (loops 0 body_a37) := lp_nil (loop_nil (by kernel_rfl)) (by kernel_rfl)
def S_a37 (fu : Nat) (xs : List (D RT den)) : Option (Out RT den) := match xs with | [.int .i64 a0_0] => some ⟨Bool × Bool × Bool × Bool, F_impl_needs fu a0_0, enc_bo_bo_bo_bo, fun _ => true⟩ | _ => none
theorem hpc_a37 (fu : Nat) : ∀ f xs o, pcf_a37 fu f xs = some o → ∀ y, o.x = some y → Good E Try.prog f xs (o.g y) := by
  intro f xs o h
  unfold pcf_a37 at h
  split at h
  · exact good_a35 fu xs o h
  · cases h
theorem goodv_a37 (fu : Nat) (kind_0 : Int) (y : Bool × Bool × Bool × Bool) (hy : F_impl_needs fu kind_0 = some y) : Good E Try.prog 96 [(.int .i64 kind_0)] (enc_bo_bo_bo_bo y) :=
  fun_good E_ok (pc_good (pc := pc_a37 fu) (hpc_a37 fu) hpx0) (fn := Try.f96) (c := body_a37) (out := out_bo_bo_bo_bo) (y := y) (by kernel_rfl) (by kernel_rfl) (by kernel_rfl) (lpok_a37 fu) (fun d hd => out_bo_bo_bo_bo_enc d _ hd) ((ev_a37 fu kind_0).trans hy)
theorem good_a37 (fu : Nat) : ∀ xs o, S_a37 fu xs = some o → ∀ y, o.x = some y → Good E Try.prog 96 xs (o.g y) := by
  intro xs o h y hy
  unfold S_a37 at h
  split at h
  · rename_i a0_0
    cases h
    exact goodv_a37 fu a0_0 y hy
  · cases h

/-! impl.isName -/
def F_impl_isName (fu : Nat) (name_0 : Int) : Option (Bool) :=
  ((F_impl_in fu name_0 1 999).bind fun y352 => (some y352))
def pcf_a38 (fu : Nat) (f : Nat) (xs : List (D RT den)) : Option (Out RT den) := match f with | 58 => S_a35 fu xs | _ => none
def pc_a38 (fu : Nat) : Pc RT den := ⟨pcf_a38 fu, fun _ => false, fun _ => false, pcd0, pcd0, pcx0⟩
def msk_a38 (b : Nat) : List Nat := []
def lp_a38 (fu : Nat) : Lp RT den (Bool) := ⟨fun b s k => none, inl0⟩
theorem ev_a38 (fu : Nat) (name_0 : Int) : evFun E (pc_a38 fu) msk_a38 (lp_a38 fu) out_bo 97 [(.int .i64 name_0)] = F_impl_isName fu name_0 := by kernel_rfl
noncomputable def body_a38 : Code := Try.f97.body.getD .skip
theorem lpok_a38 (fu : Nat) : LpOk E (pc_a38 fu) 0 msk_a38 (lp_a38 fu) (loops 0 body_a38) := lp_nil (loop_nil (by kernel_rfl)) (by kernel_rfl)
def S_a38 (fu : Nat) (xs : List (D RT den)) : Option (Out RT den) := match xs with | [.int .i64 a0_0] => some ⟨Bool, F_impl_isName fu a0_0, enc_bo, fun _ => true⟩ | _ => none
theorem hpc_a38 (fu : Nat) : ∀ f xs o, pcf_a38 fu f xs = some o → ∀ y, o.x = some y → Good E Try.prog f xs (o.g y) := by
  intro f xs o h
  unfold pcf_a38 at h
  split at h
  · exact good_a35 fu xs o h
  · cases h
theorem goodv_a38 (fu : Nat) (name_0 : Int) (y : Bool) (hy : F_impl_isName fu name_0 = some y) : Good E Try.prog 97 [(.int .i64 name_0)] (enc_bo y) :=
  fun_good E_ok (pc_good (pc := pc_a38 fu) (hpc_a38 fu) hpx0) (fn := Try.f97) (c := body_a38) (out := out_bo) (y := y) (by kernel_rfl) (by kernel_rfl) (by kernel_rfl) (lpok_a38 fu) (fun d hd => out_bo_enc d _ hd) ((ev_a38 fu name_0).trans hy)
theorem good_a38 (fu : Nat) : ∀ xs o, S_a38 fu xs = some o → ∀ y, o.x = some y → Good E Try.prog 97 xs (o.g y) := by
  intro xs o h y hy
  unfold S_a38 at h
  split at h
  · rename_i a0_0
    cases h
    exact goodv_a38 fu a0_0 y hy
  · cases h

/-! impl.isAddress -/
def F_impl_isAddress (fu : Nat) (a_0 : Int) : Option (Bool) :=
  ((F_impl_in fu a_0 0 4294967295).bind fun y353 => (some y353))
def pcf_a39 (fu : Nat) (f : Nat) (xs : List (D RT den)) : Option (Out RT den) := match f with | 58 => S_a35 fu xs | _ => none
def pc_a39 (fu : Nat) : Pc RT den := ⟨pcf_a39 fu, fun _ => false, fun _ => false, pcd0, pcd0, pcx0⟩
def msk_a39 (b : Nat) : List Nat := []
def lp_a39 (fu : Nat) : Lp RT den (Bool) := ⟨fun b s k => none, inl0⟩
theorem ev_a39 (fu : Nat) (a_0 : Int) : evFun E (pc_a39 fu) msk_a39 (lp_a39 fu) out_bo 98 [(.int .i64 a_0)] = F_impl_isAddress fu a_0 := by kernel_rfl
noncomputable def body_a39 : Code := Try.f98.body.getD .skip
theorem lpok_a39 (fu : Nat) : LpOk E (pc_a39 fu) 0 msk_a39 (lp_a39 fu) (loops 0 body_a39) := lp_nil (loop_nil (by kernel_rfl)) (by kernel_rfl)
def S_a39 (fu : Nat) (xs : List (D RT den)) : Option (Out RT den) := match xs with | [.int .i64 a0_0] => some ⟨Bool, F_impl_isAddress fu a0_0, enc_bo, fun _ => true⟩ | _ => none
theorem hpc_a39 (fu : Nat) : ∀ f xs o, pcf_a39 fu f xs = some o → ∀ y, o.x = some y → Good E Try.prog f xs (o.g y) := by
  intro f xs o h
  unfold pcf_a39 at h
  split at h
  · exact good_a35 fu xs o h
  · cases h
theorem goodv_a39 (fu : Nat) (a_0 : Int) (y : Bool) (hy : F_impl_isAddress fu a_0 = some y) : Good E Try.prog 98 [(.int .i64 a_0)] (enc_bo y) :=
  fun_good E_ok (pc_good (pc := pc_a39 fu) (hpc_a39 fu) hpx0) (fn := Try.f98) (c := body_a39) (out := out_bo) (y := y) (by kernel_rfl) (by kernel_rfl) (by kernel_rfl) (lpok_a39 fu) (fun d hd => out_bo_enc d _ hd) ((ev_a39 fu a_0).trans hy)
theorem good_a39 (fu : Nat) : ∀ xs o, S_a39 fu xs = some o → ∀ y, o.x = some y → Good E Try.prog 98 xs (o.g y) := by
  intro xs o h y hy
  unfold S_a39 at h
  split at h
  · rename_i a0_0
    cases h
    exact goodv_a39 fu a0_0 y hy
  · cases h

/-! impl.isPort -/
def F_impl_isPort (fu : Nat) (n_0 : Int) : Option (Bool) :=
  ((F_impl_in fu n_0 0 65535).bind fun y359 => (some y359))
def pcf_b0 (fu : Nat) (f : Nat) (xs : List (D RT den)) : Option (Out RT den) := match f with | 58 => S_a35 fu xs | _ => none
def pc_b0 (fu : Nat) : Pc RT den := ⟨pcf_b0 fu, fun _ => false, fun _ => false, pcd0, pcd0, pcx0⟩
def msk_b0 (b : Nat) : List Nat := []
def lp_b0 (fu : Nat) : Lp RT den (Bool) := ⟨fun b s k => none, inl0⟩
theorem ev_b0 (fu : Nat) (n_0 : Int) : evFun E (pc_b0 fu) msk_b0 (lp_b0 fu) out_bo 108 [(.int .i64 n_0)] = F_impl_isPort fu n_0 := by kernel_rfl
noncomputable def body_b0 : Code := Try.f108.body.getD .skip
theorem lpok_b0 (fu : Nat) : LpOk E (pc_b0 fu) 0 msk_b0 (lp_b0 fu) (loops 0 body_b0) := lp_nil (loop_nil (by kernel_rfl)) (by kernel_rfl)
def S_b0 (fu : Nat) (xs : List (D RT den)) : Option (Out RT den) := match xs with | [.int .i64 a0_0] => some ⟨Bool, F_impl_isPort fu a0_0, enc_bo, fun _ => true⟩ | _ => none
theorem hpc_b0 (fu : Nat) : ∀ f xs o, pcf_b0 fu f xs = some o → ∀ y, o.x = some y → Good E Try.prog f xs (o.g y) := by
  intro f xs o h
  unfold pcf_b0 at h
  split at h
  · exact good_a35 fu xs o h
  · cases h
theorem goodv_b0 (fu : Nat) (n_0 : Int) (y : Bool) (hy : F_impl_isPort fu n_0 = some y) : Good E Try.prog 108 [(.int .i64 n_0)] (enc_bo y) :=
  fun_good E_ok (pc_good (pc := pc_b0 fu) (hpc_b0 fu) hpx0) (fn := Try.f108) (c := body_b0) (out := out_bo) (y := y) (by kernel_rfl) (by kernel_rfl) (by kernel_rfl) (lpok_b0 fu) (fun d hd => out_bo_enc d _ hd) ((ev_b0 fu n_0).trans hy)
theorem good_b0 (fu : Nat) : ∀ xs o, S_b0 fu xs = some o → ∀ y, o.x = some y → Good E Try.prog 108 xs (o.g y) := by
  intro xs o h y hy
  unfold S_b0 at h
  split at h
  · rename_i a0_0
    cases h
    exact goodv_b0 fu a0_0 y hy
  · cases h

/-! impl.isNumber -/
def F_impl_isNumber (fu : Nat) (x_0 : S_impl_Cmd) : Option (Bool) :=
  (bif (x_0.Kind == 1) then ((F_impl_in fu x_0.Number 0 9).bind fun y354 => (some y354)) else (bif (x_0.Kind == 2) then ((F_impl_in fu x_0.Number 0 9).bind fun y355 => (some y355)) else
    (bif (x_0.Kind == 3) then ((F_impl_in fu x_0.Number 1 3).bind fun y356 => (some y356)) else (bif (x_0.Kind == 9) then ((F_impl_in fu x_0.Number 0 1).bind fun y357 => (some y357)) else
    ((F_impl_isPort fu x_0.Number).bind fun y358 => (some y358))))))
def pcf_b1 (fu : Nat) (f : Nat) (xs : List (D RT den)) : Option (Out RT den) := match f with | 58 => S_a35 fu xs | 108 => S_b0 fu xs | _ => none
def pc_b1 (fu : Nat) : Pc RT den := ⟨pcf_b1 fu, fun _ => false, fun _ => false, pcd0, pcd0, pcx0⟩
def msk_b1 (b : Nat) : List Nat := []
def lp_b1 (fu : Nat) : Lp RT den (Bool) := ⟨fun b s k => none, inl0⟩
theorem ev_b1 (fu : Nat) (x_0 : S_impl_Cmd) : evFun E (pc_b1 fu) msk_b1 (lp_b1 fu) out_bo 99 [(.agg [(.int .i64 x_0.Kind), (.int .i64 x_0.Expect), (.int .i64 x_0.Name), (.int .i64 x_0.Addr), (.int .i64 x_0.Number), (.int .i64 x_0.Proto)])] = F_impl_isNumber fu x_0 := by kernel_rfl
noncomputable def body_b1 : Code := Try.f99.body.getD .skip
theorem lpok_b1 (fu : Nat) : LpOk E (pc_b1 fu) 0 msk_b1 (lp_b1 fu) (loops 0 body_b1) := lp_nil (loop_nil (by kernel_rfl)) (by kernel_rfl)
def S_b1 (fu : Nat) (xs : List (D RT den)) : Option (Out RT den) := match xs with | [.agg [.int .i64 a0_1, .int .i64 a0_2, .int .i64 a0_3, .int .i64 a0_4, .int .i64 a0_5, .int .i64 a0_6]] => some ⟨Bool, F_impl_isNumber fu (⟨a0_1, a0_2, a0_3, a0_4, a0_5, a0_6⟩ : S_impl_Cmd), enc_bo, fun _ => true⟩ | _ => none
theorem hpc_b1 (fu : Nat) : ∀ f xs o, pcf_b1 fu f xs = some o → ∀ y, o.x = some y → Good E Try.prog f xs (o.g y) := by
  intro f xs o h
  unfold pcf_b1 at h
  split at h
  · exact good_a35 fu xs o h
  · exact good_b0 fu xs o h
  · cases h
theorem goodv_b1 (fu : Nat) (x_0 : S_impl_Cmd) (y : Bool) (hy : F_impl_isNumber fu x_0 = some y) : Good E Try.prog 99 [(.agg [(.int .i64 x_0.Kind), (.int .i64 x_0.Expect), (.int .i64 x_0.Name), (.int .i64 x_0.Addr), (.int .i64 x_0.Number), (.int .i64 x_0.Proto)])] (enc_bo y) :=
  fun_good E_ok (pc_good (pc := pc_b1 fu) (hpc_b1 fu) hpx0) (fn := Try.f99) (c := body_b1) (out := out_bo) (y := y) (by kernel_rfl) (by kernel_rfl) (by kernel_rfl) (lpok_b1 fu) (fun d hd => out_bo_enc d _ hd) ((ev_b1 fu x_0).trans hy)
theorem good_b1 (fu : Nat) : ∀ xs o, S_b1 fu xs = some o → ∀ y, o.x = some y → Good E Try.prog 99 xs (o.g y) := by
  intro xs o h y hy
  unfold S_b1 at h
  split at h
  · rename_i a0_1 a0_2 a0_3 a0_4 a0_5 a0_6
    cases h
    exact goodv_b1 fu (⟨a0_1, a0_2, a0_3, a0_4, a0_5, a0_6⟩ : S_impl_Cmd) y hy
  · cases h

/-! impl.isProto -/
def F_impl_isProto (fu : Nat) (n_0 : Int) : Option (Bool) :=
  (((bif (n_0 == 6) then (some true) else (some (n_0 == 17))) : Option Bool).bind fun m360 => (some m360))
def pc_b2 (fu : Nat) : Pc RT den := ⟨pcf0, fun _ => false, fun _ => false, pcd0, pcd0, pcx0⟩
def msk_b2 (b : Nat) : List Nat := match b with | 200001 => [2] | _ => []
def lp_b2 (fu : Nat) : Lp RT den (Bool) := ⟨fun b s k => none, inl0⟩
theorem ev_b2 (fu : Nat) (n_0 : Int) : evFun E (pc_b2 fu) msk_b2 (lp_b2 fu) out_bo 100 [(.int .i64 n_0)] = F_impl_isProto fu n_0 := by kernel_rfl
noncomputable def body_b2 : Code := Try.f100.body.getD .skip
theorem lpok_b2 (fu : Nat) : LpOk E (pc_b2 fu) 0 msk_b2 (lp_b2 fu) (loops 0 body_b2) := lp_nil (loop_nil (by kernel_rfl)) (by kernel_rfl)
def S_b2 (fu : Nat) (xs : List (D RT den)) : Option (Out RT den) := match xs with | [.int .i64 a0_0] => some ⟨Bool, F_impl_isProto fu a0_0, enc_bo, fun _ => true⟩ | _ => none
theorem goodv_b2 (fu : Nat) (n_0 : Int) (y : Bool) (hy : F_impl_isProto fu n_0 = some y) : Good E Try.prog 100 [(.int .i64 n_0)] (enc_bo y) :=
  fun_good E_ok (pc_good (pc := pc_b2 fu) hpc0 hpx0) (fn := Try.f100) (c := body_b2) (out := out_bo) (y := y) (by kernel_rfl) (by kernel_rfl) (by kernel_rfl) (lpok_b2 fu) (fun d hd => out_bo_enc d _ hd) ((ev_b2 fu n_0).trans hy)
theorem good_b2 (fu : Nat) : ∀ xs o, S_b2 fu xs = some o → ∀ y, o.x = some y → Good E Try.prog 100 xs (o.g y) := by
  intro xs o h y hy
  unfold S_b2 at h
  split at h
  · rename_i a0_0
    cases h
    exact goodv_b2 fu a0_0 y hy
  · cases h

/-! impl.CmdFault -/
def F_impl_CmdFault (fu : Nat) (x_0 : S_impl_Cmd) : Option (Int) :=
  ((F_impl_in fu x_0.Kind 1 9).bind fun y330 => (bif (!y330) then (some 1) else ((F_impl_needs fu x_0.Kind).bind fun y331 => ((((F_impl_in fu x_0.Expect (-1) 1000000).bind fun y332 =>
    (bif (!y332) then (some true) else (bif y331.1 then ((F_impl_isName fu x_0.Name).bind fun y333 => (bif (!y333) then (some true) else (bif y331.2.1 then ((F_impl_isAddress fu x_0.Addr).bind fun y334 =>
    (bif (!y334) then (some true) else (bif y331.2.2.1 then ((F_impl_isNumber fu x_0).bind fun y335 => (bif (!y335) then (some true) else (bif y331.2.2.2 then ((F_impl_isProto fu x_0.Proto).bind fun y336 =>
    (some (!y336))) else (some false)))) else (bif y331.2.2.2 then ((F_impl_isProto fu x_0.Proto).bind fun y337 => (some (!y337))) else (some false))))) else (bif y331.2.2.1 then
    ((F_impl_isNumber fu x_0).bind fun y338 => (bif (!y338) then (some true) else (bif y331.2.2.2 then ((F_impl_isProto fu x_0.Proto).bind fun y339 => (some (!y339))) else (some false)))) else
    (bif y331.2.2.2 then ((F_impl_isProto fu x_0.Proto).bind fun y340 => (some (!y340))) else (some false)))))) else (bif y331.2.1 then ((F_impl_isAddress fu x_0.Addr).bind fun y341 =>
    (bif (!y341) then (some true) else (bif y331.2.2.1 then ((F_impl_isNumber fu x_0).bind fun y342 => (bif (!y342) then (some true) else (bif y331.2.2.2 then ((F_impl_isProto fu x_0.Proto).bind fun y343 =>
    (some (!y343))) else (some false)))) else (bif y331.2.2.2 then ((F_impl_isProto fu x_0.Proto).bind fun y344 => (some (!y344))) else (some false))))) else (bif y331.2.2.1 then
    ((F_impl_isNumber fu x_0).bind fun y345 => (bif (!y345) then (some true) else (bif y331.2.2.2 then ((F_impl_isProto fu x_0.Proto).bind fun y346 => (some (!y346))) else (some false)))) else
    (bif y331.2.2.2 then ((F_impl_isProto fu x_0.Proto).bind fun y347 => (some (!y347))) else (some false))))))) : Option Bool).bind fun m348 => (bif m348 then (some 3) else (((bif (!y331.1) then
    (bif (x_0.Name != 0) then (some true) else (bif (!y331.2.1) then (bif (x_0.Addr != 0) then (some true) else (bif (!y331.2.2.1) then (bif (x_0.Number != 0) then (some true) else
    (bif (!y331.2.2.2) then (some (x_0.Proto != 0)) else (some false))) else (bif (!y331.2.2.2) then (some (x_0.Proto != 0)) else (some false)))) else (bif (!y331.2.2.1) then (bif (x_0.Number != 0) then
    (some true) else (bif (!y331.2.2.2) then (some (x_0.Proto != 0)) else (some false))) else (bif (!y331.2.2.2) then (some (x_0.Proto != 0)) else (some false))))) else (bif (!y331.2.1) then
    (bif (x_0.Addr != 0) then (some true) else (bif (!y331.2.2.1) then (bif (x_0.Number != 0) then (some true) else (bif (!y331.2.2.2) then (some (x_0.Proto != 0)) else (some false))) else
    (bif (!y331.2.2.2) then (some (x_0.Proto != 0)) else (some false)))) else (bif (!y331.2.2.1) then (bif (x_0.Number != 0) then (some true) else (bif (!y331.2.2.2) then (some (x_0.Proto != 0)) else
    (some false))) else (bif (!y331.2.2.2) then (some (x_0.Proto != 0)) else (some false))))) : Option Bool).bind fun m349 => (bif m349 then (some 1) else (some 0))))))))
def pcf_b3 (fu : Nat) (f : Nat) (xs : List (D RT den)) : Option (Out RT den) := match f with | 58 => S_a35 fu xs | 96 => S_a37 fu xs | 97 => S_a38 fu xs | 98 => S_a39 fu xs | 99 => S_b1 fu xs | 100 => S_b2 fu xs | _ => none
def pc_b3 (fu : Nat) : Pc RT den := ⟨pcf_b3 fu, fun _ => false, fun _ => false, pcd0, pcd0, pcx0⟩
def msk_b3 (b : Nat) : List Nat := match b with | 200004 => [19] | 200006 => [59] | _ => []
def lp_b3 (fu : Nat) : Lp RT den (Int) := ⟨fun b s k => none, inl0⟩
theorem ev_b3 (fu : Nat) (x_0 : S_impl_Cmd) : evFun E (pc_b3 fu) msk_b3 (lp_b3 fu) out_i64 88 [(.agg [(.int .i64 x_0.Kind), (.int .i64 x_0.Expect), (.int .i64 x_0.Name), (.int .i64 x_0.Addr), (.int .i64 x_0.Number), (.int .i64 x_0.Proto)])] = F_impl_CmdFault fu x_0 := by kernel_rfl
noncomputable def body_b3 : Code := Try.f88.body.getD .skip
theorem lpok_b3 (fu : Nat) : LpOk E (pc_b3 fu) 0 msk_b3 (lp_b3 fu) (loops 0 body_b3) := lp_nil (loop_nil (by kernel_rfl)) (by kernel_rfl)
def S_b3 (fu : Nat) (xs : List (D RT den)) : Option (Out RT den) := match xs with | [.agg [.int .i64 a0_1, .int .i64 a0_2, .int .i64 a0_3, .int .i64 a0_4, .int .i64 a0_5, .int .i64 a0_6]] => some ⟨Int, F_impl_CmdFault fu (⟨a0_1, a0_2, a0_3, a0_4, a0_5, a0_6⟩ : S_impl_Cmd), enc_i64, fun _ => true⟩ | _ => none
theorem hpc_b3 (fu : Nat) : ∀ f xs o, pcf_b3 fu f xs = some o → ∀ y, o.x = some y → Good E Try.prog f xs (o.g y) := by
  intro f xs o h
  unfold pcf_b3 at h
  split at h
  · exact good_a35 fu xs o h
  · exact good_a37 fu xs o h
  · exact good_a38 fu xs o h
  · exact good_a39 fu xs o h
  · exact good_b1 fu xs o h
  · exact good_b2 fu xs o h
  · cases h
theorem goodv_b3 (fu : Nat) (x_0 : S_impl_Cmd) (y : Int) (hy : F_impl_CmdFault fu x_0 = some y) : Good E Try.prog 88 [(.agg [(.int .i64 x_0.Kind), (.int .i64 x_0.Expect), (.int .i64 x_0.Name), (.int .i64 x_0.Addr), (.int .i64 x_0.Number), (.int .i64 x_0.Proto)])] (enc_i64 y) :=
  fun_good E_ok (pc_good (pc := pc_b3 fu) (hpc_b3 fu) hpx0) (fn := Try.f88) (c := body_b3) (out := out_i64) (y := y) (by kernel_rfl) (by kernel_rfl) (by kernel_rfl) (lpok_b3 fu) (fun d hd => out_i64_enc d _ hd) ((ev_b3 fu x_0).trans hy)
theorem good_b3 (fu : Nat) : ∀ xs o, S_b3 fu xs = some o → ∀ y, o.x = some y → Good E Try.prog 88 xs (o.g y) := by
  intro xs o h y hy
  unfold S_b3 at h
  split at h
  · rename_i a0_1 a0_2 a0_3 a0_4 a0_5 a0_6
    cases h
    exact goodv_b3 fu (⟨a0_1, a0_2, a0_3, a0_4, a0_5, a0_6⟩ : S_impl_Cmd) y hy
  · cases h

/-! impl.EntryFault -/
def F_impl_EntryFault (fu : Nat) (x_0 : S_impl_Entry) : Option (Int) :=
  ((((F_impl_in fu x_0.Term 1 100000).bind fun y325 => (bif (!y325) then (some true) else ((F_impl_in fu x_0.Client 0 999).bind fun y326 => (bif (!y326) then (some true) else
    ((F_impl_in fu x_0.Seq 0 1000000).bind fun y327 => (some (!y327))))))) : Option Bool).bind fun m328 => (bif m328 then (some 3) else (bif (!((x_0.Client == 0) == (x_0.Seq == 0))) then
    (some 1) else (bif (x_0.Client != 0) then ((F_impl_CmdFault fu x_0.Cmd).bind fun y329 => (some y329)) else (bif (!((x_0.Cmd.Kind == 0) && ((x_0.Cmd.Expect == 0) &&
    ((x_0.Cmd.Name == 0) && ((x_0.Cmd.Addr == 0) && ((x_0.Cmd.Number == 0) && ((x_0.Cmd.Proto == 0) && true))))))) then (some 1) else (some 0))))))
def pcf_b4 (fu : Nat) (f : Nat) (xs : List (D RT den)) : Option (Out RT den) := match f with | 58 => S_a35 fu xs | 88 => S_b3 fu xs | _ => none
def pc_b4 (fu : Nat) : Pc RT den := ⟨pcf_b4 fu, fun _ => false, fun _ => false, pcd0, pcd0, pcx0⟩
def msk_b4 (b : Nat) : List Nat := match b with | 200001 => [3] | _ => []
def lp_b4 (fu : Nat) : Lp RT den (Int) := ⟨fun b s k => none, inl0⟩
theorem ev_b4 (fu : Nat) (x_0 : S_impl_Entry) : evFun E (pc_b4 fu) msk_b4 (lp_b4 fu) out_i64 65 [(.agg [(.int .i64 x_0.Term), (.int .i64 x_0.Client), (.int .i64 x_0.Seq), (.int .i64 x_0.Cmd.Kind), (.int .i64 x_0.Cmd.Expect), (.int .i64 x_0.Cmd.Name), (.int .i64 x_0.Cmd.Addr), (.int .i64 x_0.Cmd.Number), (.int .i64 x_0.Cmd.Proto)])] = F_impl_EntryFault fu x_0 := by kernel_rfl
noncomputable def body_b4 : Code := Try.f65.body.getD .skip
theorem lpok_b4 (fu : Nat) : LpOk E (pc_b4 fu) 0 msk_b4 (lp_b4 fu) (loops 0 body_b4) := lp_nil (loop_nil (by kernel_rfl)) (by kernel_rfl)
def S_b4 (fu : Nat) (xs : List (D RT den)) : Option (Out RT den) := match xs with | [.agg [.int .i64 a0_1, .int .i64 a0_2, .int .i64 a0_3, .int .i64 a0_5, .int .i64 a0_6, .int .i64 a0_7, .int .i64 a0_8, .int .i64 a0_9, .int .i64 a0_10]] => some ⟨Int, F_impl_EntryFault fu (⟨a0_1, a0_2, a0_3, (⟨a0_5, a0_6, a0_7, a0_8, a0_9, a0_10⟩ : S_impl_Cmd)⟩ : S_impl_Entry), enc_i64, fun _ => true⟩ | _ => none
theorem hpc_b4 (fu : Nat) : ∀ f xs o, pcf_b4 fu f xs = some o → ∀ y, o.x = some y → Good E Try.prog f xs (o.g y) := by
  intro f xs o h
  unfold pcf_b4 at h
  split at h
  · exact good_a35 fu xs o h
  · exact good_b3 fu xs o h
  · cases h
theorem goodv_b4 (fu : Nat) (x_0 : S_impl_Entry) (y : Int) (hy : F_impl_EntryFault fu x_0 = some y) : Good E Try.prog 65 [(.agg [(.int .i64 x_0.Term), (.int .i64 x_0.Client), (.int .i64 x_0.Seq), (.int .i64 x_0.Cmd.Kind), (.int .i64 x_0.Cmd.Expect), (.int .i64 x_0.Cmd.Name), (.int .i64 x_0.Cmd.Addr), (.int .i64 x_0.Cmd.Number), (.int .i64 x_0.Cmd.Proto)])] (enc_i64 y) :=
  fun_good E_ok (pc_good (pc := pc_b4 fu) (hpc_b4 fu) hpx0) (fn := Try.f65) (c := body_b4) (out := out_i64) (y := y) (by kernel_rfl) (by kernel_rfl) (by kernel_rfl) (lpok_b4 fu) (fun d hd => out_i64_enc d _ hd) ((ev_b4 fu x_0).trans hy)
theorem good_b4 (fu : Nat) : ∀ xs o, S_b4 fu xs = some o → ∀ y, o.x = some y → Good E Try.prog 65 xs (o.g y) := by
  intro xs o h y hy
  unfold S_b4 at h
  split at h
  · rename_i a0_1 a0_2 a0_3 a0_5 a0_6 a0_7 a0_8 a0_9 a0_10
    cases h
    exact goodv_b4 fu (⟨a0_1, a0_2, a0_3, (⟨a0_5, a0_6, a0_7, a0_8, a0_9, a0_10⟩ : S_impl_Cmd)⟩ : S_impl_Entry) y hy
  · cases h
end Go.Proofs.Ytjdgfkmiaikegaa.Pd
