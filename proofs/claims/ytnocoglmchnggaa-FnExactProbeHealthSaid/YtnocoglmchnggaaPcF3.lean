/- The functions' evaluated forms, each a proved summary. Conditions: none. -/
import Derived.Test.YtnocoglmchnggaaPcF2
namespace Go.Proofs.Ytnocoglmchnggaa.Pc
open Go Go.RowKit Go.Proofs Vm
set_option linter.unusedVariables false
set_option linter.unusedSimpArgs false
set_option maxRecDepth 100000
/-! cmp.Compare[int64] -/
def F_cmp_Compare_int64 (fu : Nat) (x_0 : Int) (y_1 : Int) : Option (Int) :=
  ((F_cmp_isNaN_int64 fu x_0).bind fun y163 => ((F_cmp_isNaN_int64 fu y_1).bind fun y164 => (bif y163 then (bif y164 then (some 0) else (some (-1))) else (bif y164 then (some 1) else
    (bif (decide (x_0 < y_1)) then (some (-1)) else (bif (decide (x_0 > y_1)) then (some 1) else (some 0)))))))
def pc_cmp_Compare_int64 (fu : Nat) : Pc RT den := fun f xs => match f with | 112 => S_cmp_isNaN_int64 fu xs | _ => none
def msk_cmp_Compare_int64 (b : Nat) : List Nat := []
def lp_cmp_Compare_int64 (fu : Nat) : Lp RT den (Int) := fun b s k => none
theorem ev_cmp_Compare_int64 (fu : Nat) (x_0 : Int) (y_1 : Int) : evFun E (pc_cmp_Compare_int64 fu) msk_cmp_Compare_int64 (lp_cmp_Compare_int64 fu) out_i64 105 [(.int .i64 x_0), (.int .i64 y_1)] = F_cmp_Compare_int64 fu x_0 y_1 := by kernel_rfl
noncomputable def body_cmp_Compare_int64 : Code := Try.f105.body.getD .skip
theorem lpok_cmp_Compare_int64 (fu : Nat) : LpOk E (pc_cmp_Compare_int64 fu) msk_cmp_Compare_int64 (lp_cmp_Compare_int64 fu) (loops 0 body_cmp_Compare_int64) := by
  have h : loops 0 body_cmp_Compare_int64 = [] := by kernel_rfl
  rw [h]; intro p hp; cases hp
def S_cmp_Compare_int64 (fu : Nat) (xs : List (D RT den)) : Option (Out RT den) := match xs with | [.int .i64 a0_0, .int .i64 a1_0] => some ⟨Int, F_cmp_Compare_int64 fu a0_0 a1_0, enc_i64, fun _ => true⟩ | _ => none
theorem hpc_cmp_Compare_int64 (fu : Nat) : ∀ f xs o, pc_cmp_Compare_int64 fu f xs = some o → ∀ y, o.x = some y → Good E Try.prog f xs (o.g y) := by
  intro f xs o h
  unfold pc_cmp_Compare_int64 at h
  split at h
  · exact good_cmp_isNaN_int64 fu xs o h
  · cases h
theorem goodv_cmp_Compare_int64 (fu : Nat) (x_0 : Int) (y_1 : Int) (y : Int) (hy : F_cmp_Compare_int64 fu x_0 y_1 = some y) : Good E Try.prog 105 [(.int .i64 x_0), (.int .i64 y_1)] (enc_i64 y) :=
  fun_good E_ok (pc_good (hpc_cmp_Compare_int64 fu)) (fn := Try.f105) (c := body_cmp_Compare_int64) (out := out_i64) (y := y) (by kernel_rfl) (by kernel_rfl) (by kernel_rfl) (lpok_cmp_Compare_int64 fu) (fun d hd => out_i64_enc d _ hd) ((ev_cmp_Compare_int64 fu x_0 y_1).trans hy)
theorem good_cmp_Compare_int64 (fu : Nat) : ∀ xs o, S_cmp_Compare_int64 fu xs = some o → ∀ y, o.x = some y → Good E Try.prog 105 xs (o.g y) := by
  intro xs o h y hy
  unfold S_cmp_Compare_int64 at h
  split at h
  · rename_i a0_0 a1_0
    cases h
    exact goodv_cmp_Compare_int64 fu a0_0 a1_0 y hy
  · cases h

/-! cmp.Or[int] -/
def F_cmp_Or_int_B0 {ρ : Type} (fu : Nat) (zero3_0 : Int) (t6_1 : (Sl Int)) (t7_2 : Int) (k0 : Int → Option ρ) (k1 : Option ρ) (t8_3 : Int) (go : Int → Option ρ) : Option ρ :=
  (bif (decide (t8_3 < t7_2)) then ((bif (decide (0 ≤ t8_3) && decide ((Int.toNat t8_3) < t6_1.n)) then some () else none : Option Unit).bind fun _ => (bif ((t6_1.f (Int.toNat t8_3)) != zero3_0) then
    (k0 (t6_1.f (Int.toNat t8_3))) else (go (IntKind.wrap .i64 (t8_3 + 1))))) else k1)
def F_cmp_Or_int (fu : Nat) (vals_0 : (Sl Int)) : Option (Int) :=
  (L (fun w0 go0 => F_cmp_Or_int_B0 fu 0 vals_0 ((vals_0.n : Nat) : Int) (fun z165 => (some z165)) (some 0) w0 go0) fu (0 : Int))
def pc_cmp_Or_int (fu : Nat) : Pc RT den := fun f xs => none
def msk_cmp_Or_int (b : Nat) : List Nat := match b with | 0 => [0, 1, 2, 4, 5, 9, 10, 11, 12, 13, 14, 15, 16, 17] | 100000 => [0, 1, 4, 5, 6, 7, 8, 9, 10, 11, 12, 13, 14, 15, 16, 17] | _ => []
def ps_cmp_Or_int_0 : List (Pat RT) := [.flat .dead, .flat .dead, .flat .dead, .flat (.int .i64), .flat .dead, .flat .dead, .flat (.rs .i64), .flat (.int .i64), .flat (.int .i64), .flat .dead, .flat .dead, .flat .dead, .flat .dead, .flat .dead, .flat .dead, .flat .dead, .flat .dead, .flat .dead]
def os_cmp_Or_int_0 : List (OP RT) := []
def conv_cmp_Or_int_0 (r : Raw den ps_cmp_Or_int_0 os_cmp_Or_int_0) : (Int × (Sl Int) × Int) × (Int) := ((r.1.2.2.2.1, r.1.2.2.2.2.2.2.1, r.1.2.2.2.2.2.2.2.1), r.1.2.2.2.2.2.2.2.2.1)
def back_cmp_Or_int_0 (c : Int × (Sl Int) × Int) (w : Int) : St RT den := ⟨[.dead, .dead, .dead, (.int .i64 c.1), .dead, .dead, (.rs c.2.1.z .i64 c.2.1.n c.2.1.f), (.int .i64 c.2.2), (.int .i64 w), .dead, .dead, .dead, .dead, .dead, .dead, .dead, .dead, .dead], []⟩
def Bk_cmp_Or_int_0 {ρ : Type} (fu : Nat) (c : Int × (Sl Int) × Int) (k : Ex → St RT den → Option ρ) (w : Int) (go : (Int) → Option ρ) : Option ρ := F_cmp_Or_int_B0 fu c.1 c.2.1 c.2.2 (fun a0 => k .ret ⟨[.dead, .dead, (.int .i64 a0), (.int .i64 c.1), .dead, .dead, .dead, .dead, .dead, .dead, .dead, .dead, .dead, .dead, .dead, .dead, .dead, .dead], []⟩) (k (.exit 0) ⟨[.dead, .dead, .dead, (.int .i64 c.1), .dead, .dead, .dead, .dead, .dead, .dead, .dead, .dead, .dead, .dead, .dead, .dead, .dead, .dead], []⟩) w go
def lp_cmp_Or_int (fu : Nat) : Lp RT den (Int) := fun b s k => match b with | 0 => handle ps_cmp_Or_int_0 os_cmp_Or_int_0 conv_cmp_Or_int_0 (Bk_cmp_Or_int_0 fu) fu s k | _ => none
theorem ev_cmp_Or_int (fu : Nat) (vals_0 : (Sl Int)) : evFun E (pc_cmp_Or_int fu) msk_cmp_Or_int (lp_cmp_Or_int fu) out_i64 104 [(.rs vals_0.z .i64 vals_0.n vals_0.f)] = F_cmp_Or_int fu vals_0 := by kernel_rfl
noncomputable def body_cmp_Or_int : Code := Try.f104.body.getD .skip
noncomputable def lc_cmp_Or_int_0 : Code := ((loops 0 body_cmp_Or_int).getD 0 (0, .skip)).2
theorem round_cmp_Or_int_0 (fu : Nat) (it : St RT den → Option (Int)) (k : Ex → St RT den → Option (Int)) c w : evCode E (pc_cmp_Or_int fu) msk_cmp_Or_int (lp_cmp_Or_int fu) 0 lc_cmp_Or_int_0 (back_cmp_Or_int_0 c w) (after (msk_cmp_Or_int 0) (msk_cmp_Or_int 100000) 0 it k) = Bk_cmp_Or_int_0 fu c k w (fun w => it (back_cmp_Or_int_0 c w)) := by kernel_rfl
theorem lpok_cmp_Or_int_0 (fu : Nat) : ∀ s k r, lp_cmp_Or_int fu 0 s k = some r → ∃ fuel, iter (msk_cmp_Or_int 0) (msk_cmp_Or_int 100000) s.objs.length (evCode E (pc_cmp_Or_int fu) msk_cmp_Or_int (lp_cmp_Or_int fu) 0 lc_cmp_Or_int_0) fuel s k = some r :=
  handle_ok (ps := ps_cmp_Or_int_0) (os := os_cmp_Or_int_0) (conv := conv_cmp_Or_int_0) (B := Bk_cmp_Or_int_0 fu) (fu := fu) back_cmp_Or_int_0 (fun raw => by kernel_rfl) 0 (fun c w => by kernel_rfl) (round_cmp_Or_int_0 fu)
theorem lpok_cmp_Or_int (fu : Nat) : LpOk E (pc_cmp_Or_int fu) msk_cmp_Or_int (lp_cmp_Or_int fu) (loops 0 body_cmp_Or_int) := loop_all 1 (by kernel_rfl) fun i hi => match i, hi with
  | 0, _ => by
    have h : (loops 0 body_cmp_Or_int).getD 0 (0, .skip) = (0, lc_cmp_Or_int_0) := by kernel_rfl
    rw [h]; exact lpok_cmp_Or_int_0 fu
  | i + 1, hi => absurd hi (by omega)
def S_cmp_Or_int (fu : Nat) (xs : List (D RT den)) : Option (Out RT den) := match xs with | [.rs za0_0 .i64 na0_0 fa0_0] => some ⟨Int, F_cmp_Or_int fu (⟨za0_0, na0_0, fa0_0⟩ : (Sl Int)), enc_i64, fun _ => true⟩ | _ => none
theorem hpc_cmp_Or_int (fu : Nat) : ∀ f xs o, pc_cmp_Or_int fu f xs = some o → ∀ y, o.x = some y → Good E Try.prog f xs (o.g y) := by
  intro f xs o h
  cases h
theorem goodv_cmp_Or_int (fu : Nat) (vals_0 : (Sl Int)) (y : Int) (hy : F_cmp_Or_int fu vals_0 = some y) : Good E Try.prog 104 [(.rs vals_0.z .i64 vals_0.n vals_0.f)] (enc_i64 y) :=
  fun_good E_ok (pc_good (hpc_cmp_Or_int fu)) (fn := Try.f104) (c := body_cmp_Or_int) (out := out_i64) (y := y) (by kernel_rfl) (by kernel_rfl) (by kernel_rfl) (lpok_cmp_Or_int fu) (fun d hd => out_i64_enc d _ hd) ((ev_cmp_Or_int fu vals_0).trans hy)
theorem good_cmp_Or_int (fu : Nat) : ∀ xs o, S_cmp_Or_int fu xs = some o → ∀ y, o.x = some y → Good E Try.prog 104 xs (o.g y) := by
  intro xs o h y hy
  unfold S_cmp_Or_int at h
  split at h
  · rename_i za0_0 na0_0 fa0_0
    cases h
    exact goodv_cmp_Or_int fu (⟨za0_0, na0_0, fa0_0⟩ : (Sl Int)) y hy
  · cases h

/-! impl.compareVip -/
def F_impl_compareVip (fu : Nat) (a_0 : S_impl_Vip) (b_1 : S_impl_Vip) : Option (Int) :=
  ((F_cmp_Compare_int64 fu a_0.Address b_1.Address).bind fun y159 => ((F_cmp_Compare_int64 fu a_0.Port b_1.Port).bind fun y160 => ((F_cmp_Compare_int64 fu a_0.Proto b_1.Proto).bind fun y161 =>
    ((F_cmp_Or_int fu (⟨(some false), 3, (fun i => [y159, y160, y161].getD i (dflt .i64))⟩ : (Sl Int))).bind fun y162 => (some y162)))))
def pc_impl_compareVip (fu : Nat) : Pc RT den := fun f xs => match f with | 104 => S_cmp_Or_int fu xs | 105 => S_cmp_Compare_int64 fu xs | _ => none
def msk_impl_compareVip (b : Nat) : List Nat := []
def lp_impl_compareVip (fu : Nat) : Lp RT den (Int) := fun b s k => none
theorem ev_impl_compareVip (fu : Nat) (a_0 : S_impl_Vip) (b_1 : S_impl_Vip) : evFun E (pc_impl_compareVip fu) msk_impl_compareVip (lp_impl_compareVip fu) out_i64 89 [(.agg [(.int .i64 a_0.Address), (.int .i64 a_0.Port), (.int .i64 a_0.Proto), (.rs a_0.Names.z .i64 a_0.Names.n a_0.Names.f)]), (.agg [(.int .i64 b_1.Address), (.int .i64 b_1.Port), (.int .i64 b_1.Proto), (.rs b_1.Names.z .i64 b_1.Names.n b_1.Names.f)])] = F_impl_compareVip fu a_0 b_1 := by kernel_rfl
noncomputable def body_impl_compareVip : Code := Try.f89.body.getD .skip
theorem lpok_impl_compareVip (fu : Nat) : LpOk E (pc_impl_compareVip fu) msk_impl_compareVip (lp_impl_compareVip fu) (loops 0 body_impl_compareVip) := by
  have h : loops 0 body_impl_compareVip = [] := by kernel_rfl
  rw [h]; intro p hp; cases hp
def S_impl_compareVip (fu : Nat) (xs : List (D RT den)) : Option (Out RT den) := match xs with | [.agg [.int .i64 a0_1, .int .i64 a0_2, .int .i64 a0_3, .rs za0_4 .i64 na0_4 fa0_4], .agg [.int .i64 a1_1, .int .i64 a1_2, .int .i64 a1_3, .rs za1_4 .i64 na1_4 fa1_4]] => some ⟨Int, F_impl_compareVip fu (⟨a0_1, a0_2, a0_3, (⟨za0_4, na0_4, fa0_4⟩ : (Sl Int))⟩ : S_impl_Vip) (⟨a1_1, a1_2, a1_3, (⟨za1_4, na1_4, fa1_4⟩ : (Sl Int))⟩ : S_impl_Vip), enc_i64, fun _ => true⟩ | _ => none
theorem hpc_impl_compareVip (fu : Nat) : ∀ f xs o, pc_impl_compareVip fu f xs = some o → ∀ y, o.x = some y → Good E Try.prog f xs (o.g y) := by
  intro f xs o h
  unfold pc_impl_compareVip at h
  split at h
  · exact good_cmp_Or_int fu xs o h
  · exact good_cmp_Compare_int64 fu xs o h
  · cases h
theorem goodv_impl_compareVip (fu : Nat) (a_0 : S_impl_Vip) (b_1 : S_impl_Vip) (y : Int) (hy : F_impl_compareVip fu a_0 b_1 = some y) : Good E Try.prog 89 [(.agg [(.int .i64 a_0.Address), (.int .i64 a_0.Port), (.int .i64 a_0.Proto), (.rs a_0.Names.z .i64 a_0.Names.n a_0.Names.f)]), (.agg [(.int .i64 b_1.Address), (.int .i64 b_1.Port), (.int .i64 b_1.Proto), (.rs b_1.Names.z .i64 b_1.Names.n b_1.Names.f)])] (enc_i64 y) :=
  fun_good E_ok (pc_good (hpc_impl_compareVip fu)) (fn := Try.f89) (c := body_impl_compareVip) (out := out_i64) (y := y) (by kernel_rfl) (by kernel_rfl) (by kernel_rfl) (lpok_impl_compareVip fu) (fun d hd => out_i64_enc d _ hd) ((ev_impl_compareVip fu a_0 b_1).trans hy)
theorem good_impl_compareVip (fu : Nat) : ∀ xs o, S_impl_compareVip fu xs = some o → ∀ y, o.x = some y → Good E Try.prog 89 xs (o.g y) := by
  intro xs o h y hy
  unfold S_impl_compareVip at h
  split at h
  · rename_i a0_1 a0_2 a0_3 za0_4 na0_4 fa0_4 a1_1 a1_2 a1_3 za1_4 na1_4 fa1_4
    cases h
    exact goodv_impl_compareVip fu (⟨a0_1, a0_2, a0_3, (⟨za0_4, na0_4, fa0_4⟩ : (Sl Int))⟩ : S_impl_Vip) (⟨a1_1, a1_2, a1_3, (⟨za1_4, na1_4, fa1_4⟩ : (Sl Int))⟩ : S_impl_Vip) y hy
  · cases h

/-! slices.Equal[[]int64,int64] -/
def F_slices_Equal_int64_int64_B0 {ρ : Type} (fu : Nat) (s10_0 : (Sl Int)) (s21_1 : (Sl Int)) (t12_2 : Int) (k0 : Option ρ) (k1 : Option ρ) (t13_3 : Int) (go : Int → Option ρ) : Option ρ :=
  (bif (decide (t13_3 < t12_2)) then ((bif (decide (0 ≤ t13_3) && decide ((Int.toNat t13_3) < s10_0.n)) then some () else none : Option Unit).bind fun _ => ((bif (decide (0 ≤ t13_3) &&
    decide ((Int.toNat t13_3) < s21_1.n)) then some () else none : Option Unit).bind fun _ => (bif ((s10_0.f (Int.toNat t13_3)) != (s21_1.f (Int.toNat t13_3))) then k0 else (go (IntKind.wrap .i64 (t13_3 + 1)))))) else
    k1)
def F_slices_Equal_int64_int64 (fu : Nat) (s1_0 : (Sl Int)) (s2_1 : (Sl Int)) : Option (Bool) :=
  (bif (((s1_0.n : Nat) : Int) != ((s2_1.n : Nat) : Int)) then (some false) else (L (fun w0 go0 => F_slices_Equal_int64_int64_B0 fu s1_0 s2_1 ((s1_0.n : Nat) : Int) (some false) (some true) w0 go0) fu (0 : Int)))
def pc_slices_Equal_int64_int64 (fu : Nat) : Pc RT den := fun f xs => none
def msk_slices_Equal_int64_int64 (b : Nat) : List Nat := match b with | 0 => [2, 3, 4, 5, 6, 7, 8, 9, 10, 11, 14, 15, 16, 17, 18, 19, 20, 21, 22, 23, 24, 25] | 100000 => [0, 1, 2, 3, 5, 6, 7, 8, 9, 10, 11, 12, 13, 14, 15, 16, 17, 18, 19, 20, 21, 22, 23, 24, 25] | _ => []
def ps_slices_Equal_int64_int64_0 : List (Pat RT) := [.flat (.rs .i64), .flat (.rs .i64), .flat .dead, .flat .dead, .flat .dead, .flat .dead, .flat .dead, .flat .dead, .flat .dead, .flat .dead, .flat .dead, .flat .dead, .flat (.int .i64), .flat (.int .i64), .flat .dead, .flat .dead, .flat .dead, .flat .dead, .flat .dead, .flat .dead, .flat .dead, .flat .dead, .flat .dead, .flat .dead, .flat .dead, .flat .dead]
def os_slices_Equal_int64_int64_0 : List (OP RT) := []
def conv_slices_Equal_int64_int64_0 (r : Raw den ps_slices_Equal_int64_int64_0 os_slices_Equal_int64_int64_0) : ((Sl Int) × (Sl Int) × Int) × (Int) := ((r.1.1, r.1.2.1, r.1.2.2.2.2.2.2.2.2.2.2.2.2.1), r.1.2.2.2.2.2.2.2.2.2.2.2.2.2.1)
def back_slices_Equal_int64_int64_0 (c : (Sl Int) × (Sl Int) × Int) (w : Int) : St RT den := ⟨[(.rs c.1.z .i64 c.1.n c.1.f), (.rs c.2.1.z .i64 c.2.1.n c.2.1.f), .dead, .dead, .dead, .dead, .dead, .dead, .dead, .dead, .dead, .dead, (.int .i64 c.2.2), (.int .i64 w), .dead, .dead, .dead, .dead, .dead, .dead, .dead, .dead, .dead, .dead, .dead, .dead], []⟩
def Bk_slices_Equal_int64_int64_0 {ρ : Type} (fu : Nat) (c : (Sl Int) × (Sl Int) × Int) (k : Ex → St RT den → Option ρ) (w : Int) (go : (Int) → Option ρ) : Option ρ := F_slices_Equal_int64_int64_B0 fu c.1 c.2.1 c.2.2 (k .ret ⟨[.dead, .dead, .dead, .dead, (.bool false), .dead, .dead, .dead, .dead, .dead, .dead, .dead, .dead, .dead, .dead, .dead, .dead, .dead, .dead, .dead, .dead, .dead, .dead, .dead, .dead, .dead], []⟩) (k (.exit 0) ⟨[.dead, .dead, .dead, .dead, .dead, .dead, .dead, .dead, .dead, .dead, .dead, .dead, .dead, .dead, .dead, .dead, .dead, .dead, .dead, .dead, .dead, .dead, .dead, .dead, .dead, .dead], []⟩) w go
def lp_slices_Equal_int64_int64 (fu : Nat) : Lp RT den (Bool) := fun b s k => match b with | 0 => handle ps_slices_Equal_int64_int64_0 os_slices_Equal_int64_int64_0 conv_slices_Equal_int64_int64_0 (Bk_slices_Equal_int64_int64_0 fu) fu s k | _ => none
theorem ev_slices_Equal_int64_int64 (fu : Nat) (s1_0 : (Sl Int)) (s2_1 : (Sl Int)) : evFun E (pc_slices_Equal_int64_int64 fu) msk_slices_Equal_int64_int64 (lp_slices_Equal_int64_int64 fu) out_bo 96 [(.rs s1_0.z .i64 s1_0.n s1_0.f), (.rs s2_1.z .i64 s2_1.n s2_1.f)] = F_slices_Equal_int64_int64 fu s1_0 s2_1 := by kernel_rfl
noncomputable def body_slices_Equal_int64_int64 : Code := Try.f96.body.getD .skip
noncomputable def lc_slices_Equal_int64_int64_0 : Code := ((loops 0 body_slices_Equal_int64_int64).getD 0 (0, .skip)).2
theorem round_slices_Equal_int64_int64_0 (fu : Nat) (it : St RT den → Option (Bool)) (k : Ex → St RT den → Option (Bool)) c w : evCode E (pc_slices_Equal_int64_int64 fu) msk_slices_Equal_int64_int64 (lp_slices_Equal_int64_int64 fu) 0 lc_slices_Equal_int64_int64_0 (back_slices_Equal_int64_int64_0 c w) (after (msk_slices_Equal_int64_int64 0) (msk_slices_Equal_int64_int64 100000) 0 it k) = Bk_slices_Equal_int64_int64_0 fu c k w (fun w => it (back_slices_Equal_int64_int64_0 c w)) := by kernel_rfl
theorem lpok_slices_Equal_int64_int64_0 (fu : Nat) : ∀ s k r, lp_slices_Equal_int64_int64 fu 0 s k = some r → ∃ fuel, iter (msk_slices_Equal_int64_int64 0) (msk_slices_Equal_int64_int64 100000) s.objs.length (evCode E (pc_slices_Equal_int64_int64 fu) msk_slices_Equal_int64_int64 (lp_slices_Equal_int64_int64 fu) 0 lc_slices_Equal_int64_int64_0) fuel s k = some r :=
  handle_ok (ps := ps_slices_Equal_int64_int64_0) (os := os_slices_Equal_int64_int64_0) (conv := conv_slices_Equal_int64_int64_0) (B := Bk_slices_Equal_int64_int64_0 fu) (fu := fu) back_slices_Equal_int64_int64_0 (fun raw => by kernel_rfl) 0 (fun c w => by kernel_rfl) (round_slices_Equal_int64_int64_0 fu)
theorem lpok_slices_Equal_int64_int64 (fu : Nat) : LpOk E (pc_slices_Equal_int64_int64 fu) msk_slices_Equal_int64_int64 (lp_slices_Equal_int64_int64 fu) (loops 0 body_slices_Equal_int64_int64) := loop_all 1 (by kernel_rfl) fun i hi => match i, hi with
  | 0, _ => by
    have h : (loops 0 body_slices_Equal_int64_int64).getD 0 (0, .skip) = (0, lc_slices_Equal_int64_int64_0) := by kernel_rfl
    rw [h]; exact lpok_slices_Equal_int64_int64_0 fu
  | i + 1, hi => absurd hi (by omega)
def S_slices_Equal_int64_int64 (fu : Nat) (xs : List (D RT den)) : Option (Out RT den) := match xs with | [.rs za0_0 .i64 na0_0 fa0_0, .rs za1_0 .i64 na1_0 fa1_0] => some ⟨Bool, F_slices_Equal_int64_int64 fu (⟨za0_0, na0_0, fa0_0⟩ : (Sl Int)) (⟨za1_0, na1_0, fa1_0⟩ : (Sl Int)), enc_bo, fun _ => true⟩ | _ => none
theorem hpc_slices_Equal_int64_int64 (fu : Nat) : ∀ f xs o, pc_slices_Equal_int64_int64 fu f xs = some o → ∀ y, o.x = some y → Good E Try.prog f xs (o.g y) := by
  intro f xs o h
  cases h
theorem goodv_slices_Equal_int64_int64 (fu : Nat) (s1_0 : (Sl Int)) (s2_1 : (Sl Int)) (y : Bool) (hy : F_slices_Equal_int64_int64 fu s1_0 s2_1 = some y) : Good E Try.prog 96 [(.rs s1_0.z .i64 s1_0.n s1_0.f), (.rs s2_1.z .i64 s2_1.n s2_1.f)] (enc_bo y) :=
  fun_good E_ok (pc_good (hpc_slices_Equal_int64_int64 fu)) (fn := Try.f96) (c := body_slices_Equal_int64_int64) (out := out_bo) (y := y) (by kernel_rfl) (by kernel_rfl) (by kernel_rfl) (lpok_slices_Equal_int64_int64 fu) (fun d hd => out_bo_enc d _ hd) ((ev_slices_Equal_int64_int64 fu s1_0 s2_1).trans hy)
theorem good_slices_Equal_int64_int64 (fu : Nat) : ∀ xs o, S_slices_Equal_int64_int64 fu xs = some o → ∀ y, o.x = some y → Good E Try.prog 96 xs (o.g y) := by
  intro xs o h y hy
  unfold S_slices_Equal_int64_int64 at h
  split at h
  · rename_i za0_0 na0_0 fa0_0 za1_0 na1_0 fa1_0
    cases h
    exact goodv_slices_Equal_int64_int64 fu (⟨za0_0, na0_0, fa0_0⟩ : (Sl Int)) (⟨za1_0, na1_0, fa1_0⟩ : (Sl Int)) y hy
  · cases h

/-! impl.sameVip -/
def F_impl_sameVip (fu : Nat) (a_0 : S_impl_Vip) (b_1 : S_impl_Vip) : Option (Bool) :=
  ((((F_impl_compareVip fu a_0 b_1).bind fun y156 => (bif (y156 == 0) then ((F_slices_Equal_int64_int64 fu a_0.Names b_1.Names).bind fun y157 => (some y157)) else (some false))) : Option Bool).bind fun m158 =>
    (some m158))
def pc_impl_sameVip (fu : Nat) : Pc RT den := fun f xs => match f with | 89 => S_impl_compareVip fu xs | 96 => S_slices_Equal_int64_int64 fu xs | _ => none
def msk_impl_sameVip (b : Nat) : List Nat := match b with | 200001 => [4] | _ => []
def lp_impl_sameVip (fu : Nat) : Lp RT den (Bool) := fun b s k => none
theorem ev_impl_sameVip (fu : Nat) (a_0 : S_impl_Vip) (b_1 : S_impl_Vip) : evFun E (pc_impl_sameVip fu) msk_impl_sameVip (lp_impl_sameVip fu) out_bo 78 [(.agg [(.int .i64 a_0.Address), (.int .i64 a_0.Port), (.int .i64 a_0.Proto), (.rs a_0.Names.z .i64 a_0.Names.n a_0.Names.f)]), (.agg [(.int .i64 b_1.Address), (.int .i64 b_1.Port), (.int .i64 b_1.Proto), (.rs b_1.Names.z .i64 b_1.Names.n b_1.Names.f)])] = F_impl_sameVip fu a_0 b_1 := by kernel_rfl
noncomputable def body_impl_sameVip : Code := Try.f78.body.getD .skip
theorem lpok_impl_sameVip (fu : Nat) : LpOk E (pc_impl_sameVip fu) msk_impl_sameVip (lp_impl_sameVip fu) (loops 0 body_impl_sameVip) := by
  have h : loops 0 body_impl_sameVip = [] := by kernel_rfl
  rw [h]; intro p hp; cases hp
def S_impl_sameVip (fu : Nat) (xs : List (D RT den)) : Option (Out RT den) := match xs with | [.agg [.int .i64 a0_1, .int .i64 a0_2, .int .i64 a0_3, .rs za0_4 .i64 na0_4 fa0_4], .agg [.int .i64 a1_1, .int .i64 a1_2, .int .i64 a1_3, .rs za1_4 .i64 na1_4 fa1_4]] => some ⟨Bool, F_impl_sameVip fu (⟨a0_1, a0_2, a0_3, (⟨za0_4, na0_4, fa0_4⟩ : (Sl Int))⟩ : S_impl_Vip) (⟨a1_1, a1_2, a1_3, (⟨za1_4, na1_4, fa1_4⟩ : (Sl Int))⟩ : S_impl_Vip), enc_bo, fun _ => true⟩ | _ => none
theorem hpc_impl_sameVip (fu : Nat) : ∀ f xs o, pc_impl_sameVip fu f xs = some o → ∀ y, o.x = some y → Good E Try.prog f xs (o.g y) := by
  intro f xs o h
  unfold pc_impl_sameVip at h
  split at h
  · exact good_impl_compareVip fu xs o h
  · exact good_slices_Equal_int64_int64 fu xs o h
  · cases h
theorem goodv_impl_sameVip (fu : Nat) (a_0 : S_impl_Vip) (b_1 : S_impl_Vip) (y : Bool) (hy : F_impl_sameVip fu a_0 b_1 = some y) : Good E Try.prog 78 [(.agg [(.int .i64 a_0.Address), (.int .i64 a_0.Port), (.int .i64 a_0.Proto), (.rs a_0.Names.z .i64 a_0.Names.n a_0.Names.f)]), (.agg [(.int .i64 b_1.Address), (.int .i64 b_1.Port), (.int .i64 b_1.Proto), (.rs b_1.Names.z .i64 b_1.Names.n b_1.Names.f)])] (enc_bo y) :=
  fun_good E_ok (pc_good (hpc_impl_sameVip fu)) (fn := Try.f78) (c := body_impl_sameVip) (out := out_bo) (y := y) (by kernel_rfl) (by kernel_rfl) (by kernel_rfl) (lpok_impl_sameVip fu) (fun d hd => out_bo_enc d _ hd) ((ev_impl_sameVip fu a_0 b_1).trans hy)
theorem good_impl_sameVip (fu : Nat) : ∀ xs o, S_impl_sameVip fu xs = some o → ∀ y, o.x = some y → Good E Try.prog 78 xs (o.g y) := by
  intro xs o h y hy
  unfold S_impl_sameVip at h
  split at h
  · rename_i a0_1 a0_2 a0_3 za0_4 na0_4 fa0_4 a1_1 a1_2 a1_3 za1_4 na1_4 fa1_4
    cases h
    exact goodv_impl_sameVip fu (⟨a0_1, a0_2, a0_3, (⟨za0_4, na0_4, fa0_4⟩ : (Sl Int))⟩ : S_impl_Vip) (⟨a1_1, a1_2, a1_3, (⟨za1_4, na1_4, fa1_4⟩ : (Sl Int))⟩ : S_impl_Vip) y hy
  · cases h

/-! slices.EqualFunc[[]impl.Vip,[]impl.Vip,impl.Vip,impl.Vip] -/
def F_slices_EqualFunc_impl_Vip_impl_Vip_impl_Vip_impl_Vip_w_impl_sameVip_B0 {ρ : Type} (fu : Nat) (s21_0 : (Sl S_impl_Vip)) (t15_1 : (Sl S_impl_Vip)) (t16_2 : Int) (k0 : Int → Int → Int → (Sl Int) → Int → Int → Int → (Sl Int) → Option ρ) (k1 : Option ρ) (t17_3 : Int) (go : Int → Option ρ) : Option ρ :=
  (bif (decide (t17_3 < t16_2)) then ((bif (decide (0 ≤ t17_3) && decide ((Int.toNat t17_3) < t15_1.n)) then some () else none : Option Unit).bind fun _ => ((bif (decide (0 ≤ t17_3) &&
    decide ((Int.toNat t17_3) < s21_0.n)) then some () else none : Option Unit).bind fun _ => ((F_impl_sameVip fu (t15_1.f (Int.toNat t17_3)) (s21_0.f (Int.toNat t17_3))).bind fun y147 =>
    (bif (!y147) then (k0 (t15_1.f (Int.toNat t17_3)).Address (t15_1.f (Int.toNat t17_3)).Port (t15_1.f (Int.toNat t17_3)).Proto (t15_1.f (Int.toNat t17_3)).Names (s21_0.f (Int.toNat t17_3)).Address (s21_0.f (Int.toNat t17_3)).Port (s21_0.f (Int.toNat t17_3)).Proto (s21_0.f (Int.toNat t17_3)).Names) else
    (go (IntKind.wrap .i64 (t17_3 + 1))))))) else k1)
def F_slices_EqualFunc_impl_Vip_impl_Vip_impl_Vip_impl_Vip_w_impl_sameVip (fu : Nat) (s1_0 : (Sl S_impl_Vip)) (s2_1 : (Sl S_impl_Vip)) : Option (Bool) :=
  (bif (((s1_0.n : Nat) : Int) != ((s2_1.n : Nat) : Int)) then (some false) else (L (fun w0 go0 => F_slices_EqualFunc_impl_Vip_impl_Vip_impl_Vip_impl_Vip_w_impl_sameVip_B0 fu s2_1 s1_0 ((s1_0.n : Nat) : Int) (fun z148 z149 z150 z151 z152 z153 z154 z155 =>
    (some false)) (some true) w0 go0) fu (0 : Int)))
def pc_slices_EqualFunc_impl_Vip_impl_Vip_impl_Vip_impl_Vip_w_impl_sameVip (fu : Nat) : Pc RT den := fun f xs => match f with | 78 => S_impl_sameVip fu xs | _ => none
def msk_slices_EqualFunc_impl_Vip_impl_Vip_impl_Vip_impl_Vip_w_impl_sameVip (b : Nat) : List Nat := match b with | 0 => [0, 3, 4, 5, 6, 7, 8, 9, 10, 11, 12, 13, 14, 18, 19, 20, 21, 22, 23, 24, 25, 26, 27, 28, 29, 30, 31] | 100000 => [0, 1, 2, 3, 4, 5, 7, 8, 9, 10, 11, 12, 13, 14, 15, 16, 17, 18, 19, 20, 21, 22, 23, 24, 25, 26, 27, 28, 29, 30, 31] | _ => []
def ps_slices_EqualFunc_impl_Vip_impl_Vip_impl_Vip_impl_Vip_w_impl_sameVip_0 : List (Pat RT) := [.flat .dead, .flat (.rs .impl_Vip), .fn 78 [], .flat .dead, .flat .dead, .flat .dead, .flat .dead, .flat .dead, .flat .dead, .flat .dead, .flat .dead, .flat .dead, .flat .dead, .flat .dead, .flat .dead, .flat (.rs .impl_Vip), .flat (.int .i64), .flat (.int .i64), .flat .dead, .flat .dead, .flat .dead, .flat .dead, .flat .dead, .flat .dead, .flat .dead, .flat .dead, .flat .dead, .flat .dead, .flat .dead, .flat .dead, .flat .dead, .flat .dead]
def os_slices_EqualFunc_impl_Vip_impl_Vip_impl_Vip_impl_Vip_w_impl_sameVip_0 : List (OP RT) := []
def conv_slices_EqualFunc_impl_Vip_impl_Vip_impl_Vip_impl_Vip_w_impl_sameVip_0 (r : Raw den ps_slices_EqualFunc_impl_Vip_impl_Vip_impl_Vip_impl_Vip_w_impl_sameVip_0 os_slices_EqualFunc_impl_Vip_impl_Vip_impl_Vip_impl_Vip_w_impl_sameVip_0) : ((Sl S_impl_Vip) × (Sl S_impl_Vip) × Int) × (Int) := ((r.1.2.1, r.1.2.2.2.2.2.2.2.2.2.2.2.2.2.2.2.1, r.1.2.2.2.2.2.2.2.2.2.2.2.2.2.2.2.2.1), r.1.2.2.2.2.2.2.2.2.2.2.2.2.2.2.2.2.2.1)
def back_slices_EqualFunc_impl_Vip_impl_Vip_impl_Vip_impl_Vip_w_impl_sameVip_0 (c : (Sl S_impl_Vip) × (Sl S_impl_Vip) × Int) (w : Int) : St RT den := ⟨[.dead, (.rs c.1.z .impl_Vip c.1.n c.1.f), (.fn 78 []), .dead, .dead, .dead, .dead, .dead, .dead, .dead, .dead, .dead, .dead, .dead, .dead, (.rs c.2.1.z .impl_Vip c.2.1.n c.2.1.f), (.int .i64 c.2.2), (.int .i64 w), .dead, .dead, .dead, .dead, .dead, .dead, .dead, .dead, .dead, .dead, .dead, .dead, .dead, .dead], []⟩
def Bk_slices_EqualFunc_impl_Vip_impl_Vip_impl_Vip_impl_Vip_w_impl_sameVip_0 {ρ : Type} (fu : Nat) (c : (Sl S_impl_Vip) × (Sl S_impl_Vip) × Int) (k : Ex → St RT den → Option ρ) (w : Int) (go : (Int) → Option ρ) : Option ρ := F_slices_EqualFunc_impl_Vip_impl_Vip_impl_Vip_impl_Vip_w_impl_sameVip_B0 fu c.1 c.2.1 c.2.2 (fun a0 a1 a2 a3 a4 a5 a6 a7 => k .ret ⟨[.dead, .dead, .dead, .dead, .dead, .dead, (.bool false), .dead, .dead, .dead, .dead, .dead, .dead, .dead, .dead, .dead, .dead, .dead, .dead, .dead, .dead, .dead, .dead, .dead, .dead, .dead, .dead, .dead, .dead, .dead, .dead, .dead], [(.box [(.int .i64 a0), (.int .i64 a1), (.int .i64 a2), (.rs a3.z .i64 a3.n a3.f)]), (.box [(.int .i64 a4), (.int .i64 a5), (.int .i64 a6), (.rs a7.z .i64 a7.n a7.f)])]⟩) (k (.exit 0) ⟨[.dead, .dead, .dead, .dead, .dead, .dead, .dead, .dead, .dead, .dead, .dead, .dead, .dead, .dead, .dead, .dead, .dead, .dead, .dead, .dead, .dead, .dead, .dead, .dead, .dead, .dead, .dead, .dead, .dead, .dead, .dead, .dead], []⟩) w go
def lp_slices_EqualFunc_impl_Vip_impl_Vip_impl_Vip_impl_Vip_w_impl_sameVip (fu : Nat) : Lp RT den (Bool) := fun b s k => match b with | 0 => handle ps_slices_EqualFunc_impl_Vip_impl_Vip_impl_Vip_impl_Vip_w_impl_sameVip_0 os_slices_EqualFunc_impl_Vip_impl_Vip_impl_Vip_impl_Vip_w_impl_sameVip_0 conv_slices_EqualFunc_impl_Vip_impl_Vip_impl_Vip_impl_Vip_w_impl_sameVip_0 (Bk_slices_EqualFunc_impl_Vip_impl_Vip_impl_Vip_impl_Vip_w_impl_sameVip_0 fu) fu s k | _ => none
theorem ev_slices_EqualFunc_impl_Vip_impl_Vip_impl_Vip_impl_Vip_w_impl_sameVip (fu : Nat) (s1_0 : (Sl S_impl_Vip)) (s2_1 : (Sl S_impl_Vip)) : evFun E (pc_slices_EqualFunc_impl_Vip_impl_Vip_impl_Vip_impl_Vip_w_impl_sameVip fu) msk_slices_EqualFunc_impl_Vip_impl_Vip_impl_Vip_impl_Vip_w_impl_sameVip (lp_slices_EqualFunc_impl_Vip_impl_Vip_impl_Vip_impl_Vip_w_impl_sameVip fu) out_bo 77 [(.rs s1_0.z .impl_Vip s1_0.n s1_0.f), (.rs s2_1.z .impl_Vip s2_1.n s2_1.f), (.fn 78 [])] = F_slices_EqualFunc_impl_Vip_impl_Vip_impl_Vip_impl_Vip_w_impl_sameVip fu s1_0 s2_1 := by kernel_rfl
noncomputable def body_slices_EqualFunc_impl_Vip_impl_Vip_impl_Vip_impl_Vip_w_impl_sameVip : Code := Try.f77.body.getD .skip
noncomputable def lc_slices_EqualFunc_impl_Vip_impl_Vip_impl_Vip_impl_Vip_w_impl_sameVip_0 : Code := ((loops 0 body_slices_EqualFunc_impl_Vip_impl_Vip_impl_Vip_impl_Vip_w_impl_sameVip).getD 0 (0, .skip)).2
theorem round_slices_EqualFunc_impl_Vip_impl_Vip_impl_Vip_impl_Vip_w_impl_sameVip_0 (fu : Nat) (it : St RT den → Option (Bool)) (k : Ex → St RT den → Option (Bool)) c w : evCode E (pc_slices_EqualFunc_impl_Vip_impl_Vip_impl_Vip_impl_Vip_w_impl_sameVip fu) msk_slices_EqualFunc_impl_Vip_impl_Vip_impl_Vip_impl_Vip_w_impl_sameVip (lp_slices_EqualFunc_impl_Vip_impl_Vip_impl_Vip_impl_Vip_w_impl_sameVip fu) 0 lc_slices_EqualFunc_impl_Vip_impl_Vip_impl_Vip_impl_Vip_w_impl_sameVip_0 (back_slices_EqualFunc_impl_Vip_impl_Vip_impl_Vip_impl_Vip_w_impl_sameVip_0 c w) (after (msk_slices_EqualFunc_impl_Vip_impl_Vip_impl_Vip_impl_Vip_w_impl_sameVip 0) (msk_slices_EqualFunc_impl_Vip_impl_Vip_impl_Vip_impl_Vip_w_impl_sameVip 100000) 0 it k) = Bk_slices_EqualFunc_impl_Vip_impl_Vip_impl_Vip_impl_Vip_w_impl_sameVip_0 fu c k w (fun w => it (back_slices_EqualFunc_impl_Vip_impl_Vip_impl_Vip_impl_Vip_w_impl_sameVip_0 c w)) := by kernel_rfl
theorem lpok_slices_EqualFunc_impl_Vip_impl_Vip_impl_Vip_impl_Vip_w_impl_sameVip_0 (fu : Nat) : ∀ s k r, lp_slices_EqualFunc_impl_Vip_impl_Vip_impl_Vip_impl_Vip_w_impl_sameVip fu 0 s k = some r → ∃ fuel, iter (msk_slices_EqualFunc_impl_Vip_impl_Vip_impl_Vip_impl_Vip_w_impl_sameVip 0) (msk_slices_EqualFunc_impl_Vip_impl_Vip_impl_Vip_impl_Vip_w_impl_sameVip 100000) s.objs.length (evCode E (pc_slices_EqualFunc_impl_Vip_impl_Vip_impl_Vip_impl_Vip_w_impl_sameVip fu) msk_slices_EqualFunc_impl_Vip_impl_Vip_impl_Vip_impl_Vip_w_impl_sameVip (lp_slices_EqualFunc_impl_Vip_impl_Vip_impl_Vip_impl_Vip_w_impl_sameVip fu) 0 lc_slices_EqualFunc_impl_Vip_impl_Vip_impl_Vip_impl_Vip_w_impl_sameVip_0) fuel s k = some r :=
  handle_ok (ps := ps_slices_EqualFunc_impl_Vip_impl_Vip_impl_Vip_impl_Vip_w_impl_sameVip_0) (os := os_slices_EqualFunc_impl_Vip_impl_Vip_impl_Vip_impl_Vip_w_impl_sameVip_0) (conv := conv_slices_EqualFunc_impl_Vip_impl_Vip_impl_Vip_impl_Vip_w_impl_sameVip_0) (B := Bk_slices_EqualFunc_impl_Vip_impl_Vip_impl_Vip_impl_Vip_w_impl_sameVip_0 fu) (fu := fu) back_slices_EqualFunc_impl_Vip_impl_Vip_impl_Vip_impl_Vip_w_impl_sameVip_0 (fun raw => by kernel_rfl) 0 (fun c w => by kernel_rfl) (round_slices_EqualFunc_impl_Vip_impl_Vip_impl_Vip_impl_Vip_w_impl_sameVip_0 fu)
theorem lpok_slices_EqualFunc_impl_Vip_impl_Vip_impl_Vip_impl_Vip_w_impl_sameVip (fu : Nat) : LpOk E (pc_slices_EqualFunc_impl_Vip_impl_Vip_impl_Vip_impl_Vip_w_impl_sameVip fu) msk_slices_EqualFunc_impl_Vip_impl_Vip_impl_Vip_impl_Vip_w_impl_sameVip (lp_slices_EqualFunc_impl_Vip_impl_Vip_impl_Vip_impl_Vip_w_impl_sameVip fu) (loops 0 body_slices_EqualFunc_impl_Vip_impl_Vip_impl_Vip_impl_Vip_w_impl_sameVip) := loop_all 1 (by kernel_rfl) fun i hi => match i, hi with
  | 0, _ => by
    have h : (loops 0 body_slices_EqualFunc_impl_Vip_impl_Vip_impl_Vip_impl_Vip_w_impl_sameVip).getD 0 (0, .skip) = (0, lc_slices_EqualFunc_impl_Vip_impl_Vip_impl_Vip_impl_Vip_w_impl_sameVip_0) := by kernel_rfl
    rw [h]; exact lpok_slices_EqualFunc_impl_Vip_impl_Vip_impl_Vip_impl_Vip_w_impl_sameVip_0 fu
  | i + 1, hi => absurd hi (by omega)
def S_slices_EqualFunc_impl_Vip_impl_Vip_impl_Vip_impl_Vip_w_impl_sameVip (fu : Nat) (xs : List (D RT den)) : Option (Out RT den) := match xs with | [.rs za0_0 .impl_Vip na0_0 fa0_0, .rs za1_0 .impl_Vip na1_0 fa1_0, .fn 78 []] => some ⟨Bool, F_slices_EqualFunc_impl_Vip_impl_Vip_impl_Vip_impl_Vip_w_impl_sameVip fu (⟨za0_0, na0_0, fa0_0⟩ : (Sl S_impl_Vip)) (⟨za1_0, na1_0, fa1_0⟩ : (Sl S_impl_Vip)), enc_bo, fun _ => true⟩ | _ => none
theorem hpc_slices_EqualFunc_impl_Vip_impl_Vip_impl_Vip_impl_Vip_w_impl_sameVip (fu : Nat) : ∀ f xs o, pc_slices_EqualFunc_impl_Vip_impl_Vip_impl_Vip_impl_Vip_w_impl_sameVip fu f xs = some o → ∀ y, o.x = some y → Good E Try.prog f xs (o.g y) := by
  intro f xs o h
  unfold pc_slices_EqualFunc_impl_Vip_impl_Vip_impl_Vip_impl_Vip_w_impl_sameVip at h
  split at h
  · exact good_impl_sameVip fu xs o h
  · cases h
theorem goodv_slices_EqualFunc_impl_Vip_impl_Vip_impl_Vip_impl_Vip_w_impl_sameVip (fu : Nat) (s1_0 : (Sl S_impl_Vip)) (s2_1 : (Sl S_impl_Vip)) (y : Bool) (hy : F_slices_EqualFunc_impl_Vip_impl_Vip_impl_Vip_impl_Vip_w_impl_sameVip fu s1_0 s2_1 = some y) : Good E Try.prog 77 [(.rs s1_0.z .impl_Vip s1_0.n s1_0.f), (.rs s2_1.z .impl_Vip s2_1.n s2_1.f), (.fn 78 [])] (enc_bo y) :=
  fun_good E_ok (pc_good (hpc_slices_EqualFunc_impl_Vip_impl_Vip_impl_Vip_impl_Vip_w_impl_sameVip fu)) (fn := Try.f77) (c := body_slices_EqualFunc_impl_Vip_impl_Vip_impl_Vip_impl_Vip_w_impl_sameVip) (out := out_bo) (y := y) (by kernel_rfl) (by kernel_rfl) (by kernel_rfl) (lpok_slices_EqualFunc_impl_Vip_impl_Vip_impl_Vip_impl_Vip_w_impl_sameVip fu) (fun d hd => out_bo_enc d _ hd) ((ev_slices_EqualFunc_impl_Vip_impl_Vip_impl_Vip_impl_Vip_w_impl_sameVip fu s1_0 s2_1).trans hy)
theorem good_slices_EqualFunc_impl_Vip_impl_Vip_impl_Vip_impl_Vip_w_impl_sameVip (fu : Nat) : ∀ xs o, S_slices_EqualFunc_impl_Vip_impl_Vip_impl_Vip_impl_Vip_w_impl_sameVip fu xs = some o → ∀ y, o.x = some y → Good E Try.prog 77 xs (o.g y) := by
  intro xs o h y hy
  unfold S_slices_EqualFunc_impl_Vip_impl_Vip_impl_Vip_impl_Vip_w_impl_sameVip at h
  split at h
  · rename_i za0_0 na0_0 fa0_0 za1_0 na1_0 fa1_0
    cases h
    exact goodv_slices_EqualFunc_impl_Vip_impl_Vip_impl_Vip_impl_Vip_w_impl_sameVip fu (⟨za0_0, na0_0, fa0_0⟩ : (Sl S_impl_Vip)) (⟨za1_0, na1_0, fa1_0⟩ : (Sl S_impl_Vip)) y hy
  · cases h

/-! impl.sameConfigs -/
def F_impl_sameConfigs (fu : Nat) (a_0 : S_impl_Config) (b_1 : S_impl_Config) : Option (Bool) :=
  (((bif (a_0.Version == b_1.Version) then ((F_slices_Equal_impl_Backend_impl_Backend fu a_0.Backends b_1.Backends).bind fun y144 => (bif y144 then
    ((F_slices_EqualFunc_impl_Vip_impl_Vip_impl_Vip_impl_Vip_w_impl_sameVip fu a_0.Vips b_1.Vips).bind fun y145 => (some y145)) else (some false))) else (some false)) : Option Bool).bind fun m146 =>
    (some m146))
def pc_impl_sameConfigs (fu : Nat) : Pc RT den := fun f xs => match f with | 76 => S_slices_Equal_impl_Backend_impl_Backend fu xs | 77 => S_slices_EqualFunc_impl_Vip_impl_Vip_impl_Vip_impl_Vip_w_impl_sameVip fu xs | _ => none
def msk_impl_sameConfigs (b : Nat) : List Nat := match b with | 200001 => [4] | _ => []
def lp_impl_sameConfigs (fu : Nat) : Lp RT den (Bool) := fun b s k => none
theorem ev_impl_sameConfigs (fu : Nat) (a_0 : S_impl_Config) (b_1 : S_impl_Config) : evFun E (pc_impl_sameConfigs fu) msk_impl_sameConfigs (lp_impl_sameConfigs fu) out_bo 58 [(.agg [(.int .i64 a_0.Version), (.rs a_0.Backends.z .impl_Backend a_0.Backends.n a_0.Backends.f), (.rs a_0.Vips.z .impl_Vip a_0.Vips.n a_0.Vips.f)]), (.agg [(.int .i64 b_1.Version), (.rs b_1.Backends.z .impl_Backend b_1.Backends.n b_1.Backends.f), (.rs b_1.Vips.z .impl_Vip b_1.Vips.n b_1.Vips.f)])] = F_impl_sameConfigs fu a_0 b_1 := by kernel_rfl
noncomputable def body_impl_sameConfigs : Code := Try.f58.body.getD .skip
theorem lpok_impl_sameConfigs (fu : Nat) : LpOk E (pc_impl_sameConfigs fu) msk_impl_sameConfigs (lp_impl_sameConfigs fu) (loops 0 body_impl_sameConfigs) := by
  have h : loops 0 body_impl_sameConfigs = [] := by kernel_rfl
  rw [h]; intro p hp; cases hp
def S_impl_sameConfigs (fu : Nat) (xs : List (D RT den)) : Option (Out RT den) := match xs with | [.agg [.int .i64 a0_1, .rs za0_2 .impl_Backend na0_2 fa0_2, .rs za0_3 .impl_Vip na0_3 fa0_3], .agg [.int .i64 a1_1, .rs za1_2 .impl_Backend na1_2 fa1_2, .rs za1_3 .impl_Vip na1_3 fa1_3]] => some ⟨Bool, F_impl_sameConfigs fu (⟨a0_1, (⟨za0_2, na0_2, fa0_2⟩ : (Sl S_impl_Backend)), (⟨za0_3, na0_3, fa0_3⟩ : (Sl S_impl_Vip))⟩ : S_impl_Config) (⟨a1_1, (⟨za1_2, na1_2, fa1_2⟩ : (Sl S_impl_Backend)), (⟨za1_3, na1_3, fa1_3⟩ : (Sl S_impl_Vip))⟩ : S_impl_Config), enc_bo, fun _ => true⟩ | _ => none
theorem hpc_impl_sameConfigs (fu : Nat) : ∀ f xs o, pc_impl_sameConfigs fu f xs = some o → ∀ y, o.x = some y → Good E Try.prog f xs (o.g y) := by
  intro f xs o h
  unfold pc_impl_sameConfigs at h
  split at h
  · exact good_slices_Equal_impl_Backend_impl_Backend fu xs o h
  · exact good_slices_EqualFunc_impl_Vip_impl_Vip_impl_Vip_impl_Vip_w_impl_sameVip fu xs o h
  · cases h
theorem goodv_impl_sameConfigs (fu : Nat) (a_0 : S_impl_Config) (b_1 : S_impl_Config) (y : Bool) (hy : F_impl_sameConfigs fu a_0 b_1 = some y) : Good E Try.prog 58 [(.agg [(.int .i64 a_0.Version), (.rs a_0.Backends.z .impl_Backend a_0.Backends.n a_0.Backends.f), (.rs a_0.Vips.z .impl_Vip a_0.Vips.n a_0.Vips.f)]), (.agg [(.int .i64 b_1.Version), (.rs b_1.Backends.z .impl_Backend b_1.Backends.n b_1.Backends.f), (.rs b_1.Vips.z .impl_Vip b_1.Vips.n b_1.Vips.f)])] (enc_bo y) :=
  fun_good E_ok (pc_good (hpc_impl_sameConfigs fu)) (fn := Try.f58) (c := body_impl_sameConfigs) (out := out_bo) (y := y) (by kernel_rfl) (by kernel_rfl) (by kernel_rfl) (lpok_impl_sameConfigs fu) (fun d hd => out_bo_enc d _ hd) ((ev_impl_sameConfigs fu a_0 b_1).trans hy)
theorem good_impl_sameConfigs (fu : Nat) : ∀ xs o, S_impl_sameConfigs fu xs = some o → ∀ y, o.x = some y → Good E Try.prog 58 xs (o.g y) := by
  intro xs o h y hy
  unfold S_impl_sameConfigs at h
  split at h
  · rename_i a0_1 za0_2 na0_2 fa0_2 za0_3 na0_3 fa0_3 a1_1 za1_2 na1_2 fa1_2 za1_3 na1_3 fa1_3
    cases h
    exact goodv_impl_sameConfigs fu (⟨a0_1, (⟨za0_2, na0_2, fa0_2⟩ : (Sl S_impl_Backend)), (⟨za0_3, na0_3, fa0_3⟩ : (Sl S_impl_Vip))⟩ : S_impl_Config) (⟨a1_1, (⟨za1_2, na1_2, fa1_2⟩ : (Sl S_impl_Backend)), (⟨za1_3, na1_3, fa1_3⟩ : (Sl S_impl_Vip))⟩ : S_impl_Config) y hy
  · cases h

/-! slices.Equal[[]impl.Session,impl.Session] -/
def F_slices_Equal_impl_Session_impl_Session_B0 {ρ : Type} (fu : Nat) (s10_0 : (Sl S_impl_Session)) (s21_1 : (Sl S_impl_Session)) (t12_2 : Int) (k0 : Option ρ) (k1 : Option ρ) (t13_3 : Int) (go : Int → Option ρ) : Option ρ :=
  (bif (decide (t13_3 < t12_2)) then ((bif (decide (0 ≤ t13_3) && decide ((Int.toNat t13_3) < s10_0.n)) then some () else none : Option Unit).bind fun _ => ((bif (decide (0 ≤ t13_3) &&
    decide ((Int.toNat t13_3) < s21_1.n)) then some () else none : Option Unit).bind fun _ => (bif (!(((s10_0.f (Int.toNat t13_3)).Client == (s21_1.f (Int.toNat t13_3)).Client) &&
    (((s10_0.f (Int.toNat t13_3)).Seq == (s21_1.f (Int.toNat t13_3)).Seq) && (((s10_0.f (Int.toNat t13_3)).Code == (s21_1.f (Int.toNat t13_3)).Code) && true)))) then k0 else (go (IntKind.wrap .i64 (t13_3 + 1)))))) else
    k1)
def F_slices_Equal_impl_Session_impl_Session (fu : Nat) (s1_0 : (Sl S_impl_Session)) (s2_1 : (Sl S_impl_Session)) : Option (Bool) :=
  (bif (((s1_0.n : Nat) : Int) != ((s2_1.n : Nat) : Int)) then (some false) else (L (fun w0 go0 => F_slices_Equal_impl_Session_impl_Session_B0 fu s1_0 s2_1 ((s1_0.n : Nat) : Int) (some false) (some true) w0 go0) fu (0 : Int)))
def pc_slices_Equal_impl_Session_impl_Session (fu : Nat) : Pc RT den := fun f xs => none
def msk_slices_Equal_impl_Session_impl_Session (b : Nat) : List Nat := match b with | 0 => [2, 3, 4, 5, 6, 7, 8, 9, 10, 11, 14, 15, 16, 17, 18, 19, 20, 21, 22, 23, 24, 25] | 100000 => [0, 1, 2, 3, 5, 6, 7, 8, 9, 10, 11, 12, 13, 14, 15, 16, 17, 18, 19, 20, 21, 22, 23, 24, 25] | _ => []
def ps_slices_Equal_impl_Session_impl_Session_0 : List (Pat RT) := [.flat (.rs .impl_Session), .flat (.rs .impl_Session), .flat .dead, .flat .dead, .flat .dead, .flat .dead, .flat .dead, .flat .dead, .flat .dead, .flat .dead, .flat .dead, .flat .dead, .flat (.int .i64), .flat (.int .i64), .flat .dead, .flat .dead, .flat .dead, .flat .dead, .flat .dead, .flat .dead, .flat .dead, .flat .dead, .flat .dead, .flat .dead, .flat .dead, .flat .dead]
def os_slices_Equal_impl_Session_impl_Session_0 : List (OP RT) := []
def conv_slices_Equal_impl_Session_impl_Session_0 (r : Raw den ps_slices_Equal_impl_Session_impl_Session_0 os_slices_Equal_impl_Session_impl_Session_0) : ((Sl S_impl_Session) × (Sl S_impl_Session) × Int) × (Int) := ((r.1.1, r.1.2.1, r.1.2.2.2.2.2.2.2.2.2.2.2.2.1), r.1.2.2.2.2.2.2.2.2.2.2.2.2.2.1)
def back_slices_Equal_impl_Session_impl_Session_0 (c : (Sl S_impl_Session) × (Sl S_impl_Session) × Int) (w : Int) : St RT den := ⟨[(.rs c.1.z .impl_Session c.1.n c.1.f), (.rs c.2.1.z .impl_Session c.2.1.n c.2.1.f), .dead, .dead, .dead, .dead, .dead, .dead, .dead, .dead, .dead, .dead, (.int .i64 c.2.2), (.int .i64 w), .dead, .dead, .dead, .dead, .dead, .dead, .dead, .dead, .dead, .dead, .dead, .dead], []⟩
def Bk_slices_Equal_impl_Session_impl_Session_0 {ρ : Type} (fu : Nat) (c : (Sl S_impl_Session) × (Sl S_impl_Session) × Int) (k : Ex → St RT den → Option ρ) (w : Int) (go : (Int) → Option ρ) : Option ρ := F_slices_Equal_impl_Session_impl_Session_B0 fu c.1 c.2.1 c.2.2 (k .ret ⟨[.dead, .dead, .dead, .dead, (.bool false), .dead, .dead, .dead, .dead, .dead, .dead, .dead, .dead, .dead, .dead, .dead, .dead, .dead, .dead, .dead, .dead, .dead, .dead, .dead, .dead, .dead], []⟩) (k (.exit 0) ⟨[.dead, .dead, .dead, .dead, .dead, .dead, .dead, .dead, .dead, .dead, .dead, .dead, .dead, .dead, .dead, .dead, .dead, .dead, .dead, .dead, .dead, .dead, .dead, .dead, .dead, .dead], []⟩) w go
def lp_slices_Equal_impl_Session_impl_Session (fu : Nat) : Lp RT den (Bool) := fun b s k => match b with | 0 => handle ps_slices_Equal_impl_Session_impl_Session_0 os_slices_Equal_impl_Session_impl_Session_0 conv_slices_Equal_impl_Session_impl_Session_0 (Bk_slices_Equal_impl_Session_impl_Session_0 fu) fu s k | _ => none
theorem ev_slices_Equal_impl_Session_impl_Session (fu : Nat) (s1_0 : (Sl S_impl_Session)) (s2_1 : (Sl S_impl_Session)) : evFun E (pc_slices_Equal_impl_Session_impl_Session fu) msk_slices_Equal_impl_Session_impl_Session (lp_slices_Equal_impl_Session_impl_Session fu) out_bo 59 [(.rs s1_0.z .impl_Session s1_0.n s1_0.f), (.rs s2_1.z .impl_Session s2_1.n s2_1.f)] = F_slices_Equal_impl_Session_impl_Session fu s1_0 s2_1 := by kernel_rfl
noncomputable def body_slices_Equal_impl_Session_impl_Session : Code := Try.f59.body.getD .skip
noncomputable def lc_slices_Equal_impl_Session_impl_Session_0 : Code := ((loops 0 body_slices_Equal_impl_Session_impl_Session).getD 0 (0, .skip)).2
theorem round_slices_Equal_impl_Session_impl_Session_0 (fu : Nat) (it : St RT den → Option (Bool)) (k : Ex → St RT den → Option (Bool)) c w : evCode E (pc_slices_Equal_impl_Session_impl_Session fu) msk_slices_Equal_impl_Session_impl_Session (lp_slices_Equal_impl_Session_impl_Session fu) 0 lc_slices_Equal_impl_Session_impl_Session_0 (back_slices_Equal_impl_Session_impl_Session_0 c w) (after (msk_slices_Equal_impl_Session_impl_Session 0) (msk_slices_Equal_impl_Session_impl_Session 100000) 0 it k) = Bk_slices_Equal_impl_Session_impl_Session_0 fu c k w (fun w => it (back_slices_Equal_impl_Session_impl_Session_0 c w)) := by kernel_rfl
theorem lpok_slices_Equal_impl_Session_impl_Session_0 (fu : Nat) : ∀ s k r, lp_slices_Equal_impl_Session_impl_Session fu 0 s k = some r → ∃ fuel, iter (msk_slices_Equal_impl_Session_impl_Session 0) (msk_slices_Equal_impl_Session_impl_Session 100000) s.objs.length (evCode E (pc_slices_Equal_impl_Session_impl_Session fu) msk_slices_Equal_impl_Session_impl_Session (lp_slices_Equal_impl_Session_impl_Session fu) 0 lc_slices_Equal_impl_Session_impl_Session_0) fuel s k = some r :=
  handle_ok (ps := ps_slices_Equal_impl_Session_impl_Session_0) (os := os_slices_Equal_impl_Session_impl_Session_0) (conv := conv_slices_Equal_impl_Session_impl_Session_0) (B := Bk_slices_Equal_impl_Session_impl_Session_0 fu) (fu := fu) back_slices_Equal_impl_Session_impl_Session_0 (fun raw => by kernel_rfl) 0 (fun c w => by kernel_rfl) (round_slices_Equal_impl_Session_impl_Session_0 fu)
theorem lpok_slices_Equal_impl_Session_impl_Session (fu : Nat) : LpOk E (pc_slices_Equal_impl_Session_impl_Session fu) msk_slices_Equal_impl_Session_impl_Session (lp_slices_Equal_impl_Session_impl_Session fu) (loops 0 body_slices_Equal_impl_Session_impl_Session) := loop_all 1 (by kernel_rfl) fun i hi => match i, hi with
  | 0, _ => by
    have h : (loops 0 body_slices_Equal_impl_Session_impl_Session).getD 0 (0, .skip) = (0, lc_slices_Equal_impl_Session_impl_Session_0) := by kernel_rfl
    rw [h]; exact lpok_slices_Equal_impl_Session_impl_Session_0 fu
  | i + 1, hi => absurd hi (by omega)
def S_slices_Equal_impl_Session_impl_Session (fu : Nat) (xs : List (D RT den)) : Option (Out RT den) := match xs with | [.rs za0_0 .impl_Session na0_0 fa0_0, .rs za1_0 .impl_Session na1_0 fa1_0] => some ⟨Bool, F_slices_Equal_impl_Session_impl_Session fu (⟨za0_0, na0_0, fa0_0⟩ : (Sl S_impl_Session)) (⟨za1_0, na1_0, fa1_0⟩ : (Sl S_impl_Session)), enc_bo, fun _ => true⟩ | _ => none
theorem hpc_slices_Equal_impl_Session_impl_Session (fu : Nat) : ∀ f xs o, pc_slices_Equal_impl_Session_impl_Session fu f xs = some o → ∀ y, o.x = some y → Good E Try.prog f xs (o.g y) := by
  intro f xs o h
  cases h
theorem goodv_slices_Equal_impl_Session_impl_Session (fu : Nat) (s1_0 : (Sl S_impl_Session)) (s2_1 : (Sl S_impl_Session)) (y : Bool) (hy : F_slices_Equal_impl_Session_impl_Session fu s1_0 s2_1 = some y) : Good E Try.prog 59 [(.rs s1_0.z .impl_Session s1_0.n s1_0.f), (.rs s2_1.z .impl_Session s2_1.n s2_1.f)] (enc_bo y) :=
  fun_good E_ok (pc_good (hpc_slices_Equal_impl_Session_impl_Session fu)) (fn := Try.f59) (c := body_slices_Equal_impl_Session_impl_Session) (out := out_bo) (y := y) (by kernel_rfl) (by kernel_rfl) (by kernel_rfl) (lpok_slices_Equal_impl_Session_impl_Session fu) (fun d hd => out_bo_enc d _ hd) ((ev_slices_Equal_impl_Session_impl_Session fu s1_0 s2_1).trans hy)
theorem good_slices_Equal_impl_Session_impl_Session (fu : Nat) : ∀ xs o, S_slices_Equal_impl_Session_impl_Session fu xs = some o → ∀ y, o.x = some y → Good E Try.prog 59 xs (o.g y) := by
  intro xs o h y hy
  unfold S_slices_Equal_impl_Session_impl_Session at h
  split at h
  · rename_i za0_0 na0_0 fa0_0 za1_0 na1_0 fa1_0
    cases h
    exact goodv_slices_Equal_impl_Session_impl_Session fu (⟨za0_0, na0_0, fa0_0⟩ : (Sl S_impl_Session)) (⟨za1_0, na1_0, fa1_0⟩ : (Sl S_impl_Session)) y hy
  · cases h

/-! impl.SameMachines -/
def F_impl_SameMachines (fu : Nat) (a_0 : S_impl_Machine) (b_1 : S_impl_Machine) : Option (Bool) :=
  ((((F_impl_sameConfigs fu a_0.Config b_1.Config).bind fun y141 => (bif y141 then ((F_slices_Equal_impl_Session_impl_Session fu a_0.Sessions b_1.Sessions).bind fun y142 => (some y142)) else
    (some false))) : Option Bool).bind fun m143 => (some m143))
def pc_impl_SameMachines (fu : Nat) : Pc RT den := fun f xs => match f with | 58 => S_impl_sameConfigs fu xs | 59 => S_slices_Equal_impl_Session_impl_Session fu xs | _ => none
def msk_impl_SameMachines (b : Nat) : List Nat := match b with | 200001 => [4] | _ => []
def lp_impl_SameMachines (fu : Nat) : Lp RT den (Bool) := fun b s k => none
theorem ev_impl_SameMachines (fu : Nat) (a_0 : S_impl_Machine) (b_1 : S_impl_Machine) : evFun E (pc_impl_SameMachines fu) msk_impl_SameMachines (lp_impl_SameMachines fu) out_bo 29 [(.agg [(.int .i64 a_0.Config.Version), (.rs a_0.Config.Backends.z .impl_Backend a_0.Config.Backends.n a_0.Config.Backends.f), (.rs a_0.Config.Vips.z .impl_Vip a_0.Config.Vips.n a_0.Config.Vips.f), (.rs a_0.Sessions.z .impl_Session a_0.Sessions.n a_0.Sessions.f)]), (.agg [(.int .i64 b_1.Config.Version), (.rs b_1.Config.Backends.z .impl_Backend b_1.Config.Backends.n b_1.Config.Backends.f), (.rs b_1.Config.Vips.z .impl_Vip b_1.Config.Vips.n b_1.Config.Vips.f), (.rs b_1.Sessions.z .impl_Session b_1.Sessions.n b_1.Sessions.f)])] = F_impl_SameMachines fu a_0 b_1 := by kernel_rfl
noncomputable def body_impl_SameMachines : Code := Try.f29.body.getD .skip
theorem lpok_impl_SameMachines (fu : Nat) : LpOk E (pc_impl_SameMachines fu) msk_impl_SameMachines (lp_impl_SameMachines fu) (loops 0 body_impl_SameMachines) := by
  have h : loops 0 body_impl_SameMachines = [] := by kernel_rfl
  rw [h]; intro p hp; cases hp
def S_impl_SameMachines (fu : Nat) (xs : List (D RT den)) : Option (Out RT den) := match xs with | [.agg [.int .i64 a0_2, .rs za0_3 .impl_Backend na0_3 fa0_3, .rs za0_4 .impl_Vip na0_4 fa0_4, .rs za0_5 .impl_Session na0_5 fa0_5], .agg [.int .i64 a1_2, .rs za1_3 .impl_Backend na1_3 fa1_3, .rs za1_4 .impl_Vip na1_4 fa1_4, .rs za1_5 .impl_Session na1_5 fa1_5]] => some ⟨Bool, F_impl_SameMachines fu (⟨(⟨a0_2, (⟨za0_3, na0_3, fa0_3⟩ : (Sl S_impl_Backend)), (⟨za0_4, na0_4, fa0_4⟩ : (Sl S_impl_Vip))⟩ : S_impl_Config), (⟨za0_5, na0_5, fa0_5⟩ : (Sl S_impl_Session))⟩ : S_impl_Machine) (⟨(⟨a1_2, (⟨za1_3, na1_3, fa1_3⟩ : (Sl S_impl_Backend)), (⟨za1_4, na1_4, fa1_4⟩ : (Sl S_impl_Vip))⟩ : S_impl_Config), (⟨za1_5, na1_5, fa1_5⟩ : (Sl S_impl_Session))⟩ : S_impl_Machine), enc_bo, fun _ => true⟩ | _ => none
theorem hpc_impl_SameMachines (fu : Nat) : ∀ f xs o, pc_impl_SameMachines fu f xs = some o → ∀ y, o.x = some y → Good E Try.prog f xs (o.g y) := by
  intro f xs o h
  unfold pc_impl_SameMachines at h
  split at h
  · exact good_impl_sameConfigs fu xs o h
  · exact good_slices_Equal_impl_Session_impl_Session fu xs o h
  · cases h
theorem goodv_impl_SameMachines (fu : Nat) (a_0 : S_impl_Machine) (b_1 : S_impl_Machine) (y : Bool) (hy : F_impl_SameMachines fu a_0 b_1 = some y) : Good E Try.prog 29 [(.agg [(.int .i64 a_0.Config.Version), (.rs a_0.Config.Backends.z .impl_Backend a_0.Config.Backends.n a_0.Config.Backends.f), (.rs a_0.Config.Vips.z .impl_Vip a_0.Config.Vips.n a_0.Config.Vips.f), (.rs a_0.Sessions.z .impl_Session a_0.Sessions.n a_0.Sessions.f)]), (.agg [(.int .i64 b_1.Config.Version), (.rs b_1.Config.Backends.z .impl_Backend b_1.Config.Backends.n b_1.Config.Backends.f), (.rs b_1.Config.Vips.z .impl_Vip b_1.Config.Vips.n b_1.Config.Vips.f), (.rs b_1.Sessions.z .impl_Session b_1.Sessions.n b_1.Sessions.f)])] (enc_bo y) :=
  fun_good E_ok (pc_good (hpc_impl_SameMachines fu)) (fn := Try.f29) (c := body_impl_SameMachines) (out := out_bo) (y := y) (by kernel_rfl) (by kernel_rfl) (by kernel_rfl) (lpok_impl_SameMachines fu) (fun d hd => out_bo_enc d _ hd) ((ev_impl_SameMachines fu a_0 b_1).trans hy)
theorem good_impl_SameMachines (fu : Nat) : ∀ xs o, S_impl_SameMachines fu xs = some o → ∀ y, o.x = some y → Good E Try.prog 29 xs (o.g y) := by
  intro xs o h y hy
  unfold S_impl_SameMachines at h
  split at h
  · rename_i a0_2 za0_3 na0_3 fa0_3 za0_4 na0_4 fa0_4 za0_5 na0_5 fa0_5 a1_2 za1_3 na1_3 fa1_3 za1_4 na1_4 fa1_4 za1_5 na1_5 fa1_5
    cases h
    exact goodv_impl_SameMachines fu (⟨(⟨a0_2, (⟨za0_3, na0_3, fa0_3⟩ : (Sl S_impl_Backend)), (⟨za0_4, na0_4, fa0_4⟩ : (Sl S_impl_Vip))⟩ : S_impl_Config), (⟨za0_5, na0_5, fa0_5⟩ : (Sl S_impl_Session))⟩ : S_impl_Machine) (⟨(⟨a1_2, (⟨za1_3, na1_3, fa1_3⟩ : (Sl S_impl_Backend)), (⟨za1_4, na1_4, fa1_4⟩ : (Sl S_impl_Vip))⟩ : S_impl_Config), (⟨za1_5, na1_5, fa1_5⟩ : (Sl S_impl_Session))⟩ : S_impl_Machine) y hy
  · cases h

/-! laws.eqBackend -/
def F_laws_eqBackend (fu : Nat) (a_0 : S_impl_Backend) (b_1 : S_impl_Backend) : Option (Bool) :=
  (bif (a_0.Name != b_1.Name) then (some false) else (bif (a_0.Address != b_1.Address) then (some false) else (bif (a_0.Weight != b_1.Weight) then (some false) else (bif (a_0.Stage != b_1.Stage) then
    (some false) else (bif (!(a_0.Up == b_1.Up)) then (some false) else (some true))))))
def pc_laws_eqBackend (fu : Nat) : Pc RT den := fun f xs => none
def msk_laws_eqBackend (b : Nat) : List Nat := []
def lp_laws_eqBackend (fu : Nat) : Lp RT den (Bool) := fun b s k => none
theorem ev_laws_eqBackend (fu : Nat) (a_0 : S_impl_Backend) (b_1 : S_impl_Backend) : evFun E (pc_laws_eqBackend fu) msk_laws_eqBackend (lp_laws_eqBackend fu) out_bo 97 [(.agg [(.int .i64 a_0.Name), (.int .i64 a_0.Address), (.int .i64 a_0.Weight), (.int .i64 a_0.Stage), (.bool a_0.Up)]), (.agg [(.int .i64 b_1.Name), (.int .i64 b_1.Address), (.int .i64 b_1.Weight), (.int .i64 b_1.Stage), (.bool b_1.Up)])] = F_laws_eqBackend fu a_0 b_1 := by kernel_rfl
noncomputable def body_laws_eqBackend : Code := Try.f97.body.getD .skip
theorem lpok_laws_eqBackend (fu : Nat) : LpOk E (pc_laws_eqBackend fu) msk_laws_eqBackend (lp_laws_eqBackend fu) (loops 0 body_laws_eqBackend) := by
  have h : loops 0 body_laws_eqBackend = [] := by kernel_rfl
  rw [h]; intro p hp; cases hp
def S_laws_eqBackend (fu : Nat) (xs : List (D RT den)) : Option (Out RT den) := match xs with | [.agg [.int .i64 a0_1, .int .i64 a0_2, .int .i64 a0_3, .int .i64 a0_4, .bool a0_5], .agg [.int .i64 a1_1, .int .i64 a1_2, .int .i64 a1_3, .int .i64 a1_4, .bool a1_5]] => some ⟨Bool, F_laws_eqBackend fu (⟨a0_1, a0_2, a0_3, a0_4, a0_5⟩ : S_impl_Backend) (⟨a1_1, a1_2, a1_3, a1_4, a1_5⟩ : S_impl_Backend), enc_bo, fun _ => true⟩ | _ => none
theorem hpc_laws_eqBackend (fu : Nat) : ∀ f xs o, pc_laws_eqBackend fu f xs = some o → ∀ y, o.x = some y → Good E Try.prog f xs (o.g y) := by
  intro f xs o h
  cases h
theorem goodv_laws_eqBackend (fu : Nat) (a_0 : S_impl_Backend) (b_1 : S_impl_Backend) (y : Bool) (hy : F_laws_eqBackend fu a_0 b_1 = some y) : Good E Try.prog 97 [(.agg [(.int .i64 a_0.Name), (.int .i64 a_0.Address), (.int .i64 a_0.Weight), (.int .i64 a_0.Stage), (.bool a_0.Up)]), (.agg [(.int .i64 b_1.Name), (.int .i64 b_1.Address), (.int .i64 b_1.Weight), (.int .i64 b_1.Stage), (.bool b_1.Up)])] (enc_bo y) :=
  fun_good E_ok (pc_good (hpc_laws_eqBackend fu)) (fn := Try.f97) (c := body_laws_eqBackend) (out := out_bo) (y := y) (by kernel_rfl) (by kernel_rfl) (by kernel_rfl) (lpok_laws_eqBackend fu) (fun d hd => out_bo_enc d _ hd) ((ev_laws_eqBackend fu a_0 b_1).trans hy)
theorem good_laws_eqBackend (fu : Nat) : ∀ xs o, S_laws_eqBackend fu xs = some o → ∀ y, o.x = some y → Good E Try.prog 97 xs (o.g y) := by
  intro xs o h y hy
  unfold S_laws_eqBackend at h
  split at h
  · rename_i a0_1 a0_2 a0_3 a0_4 a0_5 a1_1 a1_2 a1_3 a1_4 a1_5
    cases h
    exact goodv_laws_eqBackend fu (⟨a0_1, a0_2, a0_3, a0_4, a0_5⟩ : S_impl_Backend) (⟨a1_1, a1_2, a1_3, a1_4, a1_5⟩ : S_impl_Backend) y hy
  · cases h

/-! laws.eqBackendS -/
def F_laws_eqBackendS_B0 {ρ : Type} (fu : Nat) (a0_0 : (Sl S_impl_Backend)) (b1_1 : (Sl S_impl_Backend)) (k0 : Option ρ) (k1 : Option ρ) (i5_2 : Int) (go : Int → Option ρ) : Option ρ :=
  (bif (decide (i5_2 < ((a0_0.n : Nat) : Int))) then ((bif (decide (0 ≤ i5_2) && decide ((Int.toNat i5_2) < a0_0.n)) then some () else none : Option Unit).bind fun _ => ((bif (decide (0 ≤ i5_2) &&
    decide ((Int.toNat i5_2) < b1_1.n)) then some () else none : Option Unit).bind fun _ => ((F_laws_eqBackend fu (a0_0.f (Int.toNat i5_2)) (b1_1.f (Int.toNat i5_2))).bind fun y170 =>
    (bif (!y170) then k0 else (go (IntKind.wrap .i64 (i5_2 + 1))))))) else k1)
def F_laws_eqBackendS (fu : Nat) (a_0 : (Sl S_impl_Backend)) (b_1 : (Sl S_impl_Backend)) : Option (Bool) :=
  (bif (((a_0.n : Nat) : Int) != ((b_1.n : Nat) : Int)) then (some false) else (L (fun w0 go0 => F_laws_eqBackendS_B0 fu a_0 b_1 (some false) (some true) w0 go0) fu (0 : Int)))
def pc_laws_eqBackendS (fu : Nat) : Pc RT den := fun f xs => match f with | 97 => S_laws_eqBackend fu xs | _ => none
def msk_laws_eqBackendS (b : Nat) : List Nat := match b with | 0 => [2, 3, 4, 6, 7, 8, 9, 10, 11, 12, 13, 14, 15, 16, 17, 18, 19, 20, 21, 22, 23, 24, 25, 26] | 100000 => [0, 1, 2, 3, 5, 6, 7, 8, 9, 10, 11, 12, 13, 14, 15, 16, 17, 18, 19, 20, 21, 22, 23, 24, 25, 26] | _ => []
def ps_laws_eqBackendS_0 : List (Pat RT) := [.flat (.rs .impl_Backend), .flat (.rs .impl_Backend), .flat .dead, .flat .dead, .flat .dead, .flat (.int .i64), .flat .dead, .flat .dead, .flat .dead, .flat .dead, .flat .dead, .flat .dead, .flat .dead, .flat .dead, .flat .dead, .flat .dead, .flat .dead, .flat .dead, .flat .dead, .flat .dead, .flat .dead, .flat .dead, .flat .dead, .flat .dead, .flat .dead, .flat .dead, .flat .dead]
def os_laws_eqBackendS_0 : List (OP RT) := []
def conv_laws_eqBackendS_0 (r : Raw den ps_laws_eqBackendS_0 os_laws_eqBackendS_0) : ((Sl S_impl_Backend) × (Sl S_impl_Backend)) × (Int) := ((r.1.1, r.1.2.1), r.1.2.2.2.2.2.1)
def back_laws_eqBackendS_0 (c : (Sl S_impl_Backend) × (Sl S_impl_Backend)) (w : Int) : St RT den := ⟨[(.rs c.1.z .impl_Backend c.1.n c.1.f), (.rs c.2.z .impl_Backend c.2.n c.2.f), .dead, .dead, .dead, (.int .i64 w), .dead, .dead, .dead, .dead, .dead, .dead, .dead, .dead, .dead, .dead, .dead, .dead, .dead, .dead, .dead, .dead, .dead, .dead, .dead, .dead, .dead], []⟩
def Bk_laws_eqBackendS_0 {ρ : Type} (fu : Nat) (c : (Sl S_impl_Backend) × (Sl S_impl_Backend)) (k : Ex → St RT den → Option ρ) (w : Int) (go : (Int) → Option ρ) : Option ρ := F_laws_eqBackendS_B0 fu c.1 c.2 (k .ret ⟨[.dead, .dead, .dead, .dead, (.bool false), .dead, .dead, .dead, .dead, .dead, .dead, .dead, .dead, .dead, .dead, .dead, .dead, .dead, .dead, .dead, .dead, .dead, .dead, .dead, .dead, .dead, .dead], []⟩) (k (.exit 0) ⟨[.dead, .dead, .dead, .dead, .dead, .dead, .dead, .dead, .dead, .dead, .dead, .dead, .dead, .dead, .dead, .dead, .dead, .dead, .dead, .dead, .dead, .dead, .dead, .dead, .dead, .dead, .dead], []⟩) w go
def lp_laws_eqBackendS (fu : Nat) : Lp RT den (Bool) := fun b s k => match b with | 0 => handle ps_laws_eqBackendS_0 os_laws_eqBackendS_0 conv_laws_eqBackendS_0 (Bk_laws_eqBackendS_0 fu) fu s k | _ => none
theorem ev_laws_eqBackendS (fu : Nat) (a_0 : (Sl S_impl_Backend)) (b_1 : (Sl S_impl_Backend)) : evFun E (pc_laws_eqBackendS fu) msk_laws_eqBackendS (lp_laws_eqBackendS fu) out_bo 79 [(.rs a_0.z .impl_Backend a_0.n a_0.f), (.rs b_1.z .impl_Backend b_1.n b_1.f)] = F_laws_eqBackendS fu a_0 b_1 := by kernel_rfl
noncomputable def body_laws_eqBackendS : Code := Try.f79.body.getD .skip
noncomputable def lc_laws_eqBackendS_0 : Code := ((loops 0 body_laws_eqBackendS).getD 0 (0, .skip)).2
theorem round_laws_eqBackendS_0 (fu : Nat) (it : St RT den → Option (Bool)) (k : Ex → St RT den → Option (Bool)) c w : evCode E (pc_laws_eqBackendS fu) msk_laws_eqBackendS (lp_laws_eqBackendS fu) 0 lc_laws_eqBackendS_0 (back_laws_eqBackendS_0 c w) (after (msk_laws_eqBackendS 0) (msk_laws_eqBackendS 100000) 0 it k) = Bk_laws_eqBackendS_0 fu c k w (fun w => it (back_laws_eqBackendS_0 c w)) := by kernel_rfl
theorem lpok_laws_eqBackendS_0 (fu : Nat) : ∀ s k r, lp_laws_eqBackendS fu 0 s k = some r → ∃ fuel, iter (msk_laws_eqBackendS 0) (msk_laws_eqBackendS 100000) s.objs.length (evCode E (pc_laws_eqBackendS fu) msk_laws_eqBackendS (lp_laws_eqBackendS fu) 0 lc_laws_eqBackendS_0) fuel s k = some r :=
  handle_ok (ps := ps_laws_eqBackendS_0) (os := os_laws_eqBackendS_0) (conv := conv_laws_eqBackendS_0) (B := Bk_laws_eqBackendS_0 fu) (fu := fu) back_laws_eqBackendS_0 (fun raw => by kernel_rfl) 0 (fun c w => by kernel_rfl) (round_laws_eqBackendS_0 fu)
theorem lpok_laws_eqBackendS (fu : Nat) : LpOk E (pc_laws_eqBackendS fu) msk_laws_eqBackendS (lp_laws_eqBackendS fu) (loops 0 body_laws_eqBackendS) := loop_all 1 (by kernel_rfl) fun i hi => match i, hi with
  | 0, _ => by
    have h : (loops 0 body_laws_eqBackendS).getD 0 (0, .skip) = (0, lc_laws_eqBackendS_0) := by kernel_rfl
    rw [h]; exact lpok_laws_eqBackendS_0 fu
  | i + 1, hi => absurd hi (by omega)
def S_laws_eqBackendS (fu : Nat) (xs : List (D RT den)) : Option (Out RT den) := match xs with | [.rs za0_0 .impl_Backend na0_0 fa0_0, .rs za1_0 .impl_Backend na1_0 fa1_0] => some ⟨Bool, F_laws_eqBackendS fu (⟨za0_0, na0_0, fa0_0⟩ : (Sl S_impl_Backend)) (⟨za1_0, na1_0, fa1_0⟩ : (Sl S_impl_Backend)), enc_bo, fun _ => true⟩ | _ => none
theorem hpc_laws_eqBackendS (fu : Nat) : ∀ f xs o, pc_laws_eqBackendS fu f xs = some o → ∀ y, o.x = some y → Good E Try.prog f xs (o.g y) := by
  intro f xs o h
  unfold pc_laws_eqBackendS at h
  split at h
  · exact good_laws_eqBackend fu xs o h
  · cases h
theorem goodv_laws_eqBackendS (fu : Nat) (a_0 : (Sl S_impl_Backend)) (b_1 : (Sl S_impl_Backend)) (y : Bool) (hy : F_laws_eqBackendS fu a_0 b_1 = some y) : Good E Try.prog 79 [(.rs a_0.z .impl_Backend a_0.n a_0.f), (.rs b_1.z .impl_Backend b_1.n b_1.f)] (enc_bo y) :=
  fun_good E_ok (pc_good (hpc_laws_eqBackendS fu)) (fn := Try.f79) (c := body_laws_eqBackendS) (out := out_bo) (y := y) (by kernel_rfl) (by kernel_rfl) (by kernel_rfl) (lpok_laws_eqBackendS fu) (fun d hd => out_bo_enc d _ hd) ((ev_laws_eqBackendS fu a_0 b_1).trans hy)
theorem good_laws_eqBackendS (fu : Nat) : ∀ xs o, S_laws_eqBackendS fu xs = some o → ∀ y, o.x = some y → Good E Try.prog 79 xs (o.g y) := by
  intro xs o h y hy
  unfold S_laws_eqBackendS at h
  split at h
  · rename_i za0_0 na0_0 fa0_0 za1_0 na1_0 fa1_0
    cases h
    exact goodv_laws_eqBackendS fu (⟨za0_0, na0_0, fa0_0⟩ : (Sl S_impl_Backend)) (⟨za1_0, na1_0, fa1_0⟩ : (Sl S_impl_Backend)) y hy
  · cases h

/-! laws.eqInt64S -/
def F_laws_eqInt64S_B0 {ρ : Type} (fu : Nat) (a0_0 : (Sl Int)) (b1_1 : (Sl Int)) (k0 : Option ρ) (k1 : Option ρ) (i5_2 : Int) (go : Int → Option ρ) : Option ρ :=
  (bif (decide (i5_2 < ((a0_0.n : Nat) : Int))) then ((bif (decide (0 ≤ i5_2) && decide ((Int.toNat i5_2) < a0_0.n)) then some () else none : Option Unit).bind fun _ => ((bif (decide (0 ≤ i5_2) &&
    decide ((Int.toNat i5_2) < b1_1.n)) then some () else none : Option Unit).bind fun _ => (bif ((a0_0.f (Int.toNat i5_2)) != (b1_1.f (Int.toNat i5_2))) then k0 else (go (IntKind.wrap .i64 (i5_2 + 1)))))) else
    k1)
def F_laws_eqInt64S (fu : Nat) (a_0 : (Sl Int)) (b_1 : (Sl Int)) : Option (Bool) :=
  (bif (((a_0.n : Nat) : Int) != ((b_1.n : Nat) : Int)) then (some false) else (L (fun w0 go0 => F_laws_eqInt64S_B0 fu a_0 b_1 (some false) (some true) w0 go0) fu (0 : Int)))
def pc_laws_eqInt64S (fu : Nat) : Pc RT den := fun f xs => none
def msk_laws_eqInt64S (b : Nat) : List Nat := match b with | 0 => [2, 3, 4, 6, 7, 8, 9, 10, 11, 12, 13, 14, 15, 16, 17, 18, 19, 20, 21, 22, 23, 24, 25] | 100000 => [0, 1, 2, 3, 5, 6, 7, 8, 9, 10, 11, 12, 13, 14, 15, 16, 17, 18, 19, 20, 21, 22, 23, 24, 25] | _ => []
def ps_laws_eqInt64S_0 : List (Pat RT) := [.flat (.rs .i64), .flat (.rs .i64), .flat .dead, .flat .dead, .flat .dead, .flat (.int .i64), .flat .dead, .flat .dead, .flat .dead, .flat .dead, .flat .dead, .flat .dead, .flat .dead, .flat .dead, .flat .dead, .flat .dead, .flat .dead, .flat .dead, .flat .dead, .flat .dead, .flat .dead, .flat .dead, .flat .dead, .flat .dead, .flat .dead, .flat .dead]
def os_laws_eqInt64S_0 : List (OP RT) := []
def conv_laws_eqInt64S_0 (r : Raw den ps_laws_eqInt64S_0 os_laws_eqInt64S_0) : ((Sl Int) × (Sl Int)) × (Int) := ((r.1.1, r.1.2.1), r.1.2.2.2.2.2.1)
def back_laws_eqInt64S_0 (c : (Sl Int) × (Sl Int)) (w : Int) : St RT den := ⟨[(.rs c.1.z .i64 c.1.n c.1.f), (.rs c.2.z .i64 c.2.n c.2.f), .dead, .dead, .dead, (.int .i64 w), .dead, .dead, .dead, .dead, .dead, .dead, .dead, .dead, .dead, .dead, .dead, .dead, .dead, .dead, .dead, .dead, .dead, .dead, .dead, .dead], []⟩
def Bk_laws_eqInt64S_0 {ρ : Type} (fu : Nat) (c : (Sl Int) × (Sl Int)) (k : Ex → St RT den → Option ρ) (w : Int) (go : (Int) → Option ρ) : Option ρ := F_laws_eqInt64S_B0 fu c.1 c.2 (k .ret ⟨[.dead, .dead, .dead, .dead, (.bool false), .dead, .dead, .dead, .dead, .dead, .dead, .dead, .dead, .dead, .dead, .dead, .dead, .dead, .dead, .dead, .dead, .dead, .dead, .dead, .dead, .dead], []⟩) (k (.exit 0) ⟨[.dead, .dead, .dead, .dead, .dead, .dead, .dead, .dead, .dead, .dead, .dead, .dead, .dead, .dead, .dead, .dead, .dead, .dead, .dead, .dead, .dead, .dead, .dead, .dead, .dead, .dead], []⟩) w go
def lp_laws_eqInt64S (fu : Nat) : Lp RT den (Bool) := fun b s k => match b with | 0 => handle ps_laws_eqInt64S_0 os_laws_eqInt64S_0 conv_laws_eqInt64S_0 (Bk_laws_eqInt64S_0 fu) fu s k | _ => none
theorem ev_laws_eqInt64S (fu : Nat) (a_0 : (Sl Int)) (b_1 : (Sl Int)) : evFun E (pc_laws_eqInt64S fu) msk_laws_eqInt64S (lp_laws_eqInt64S fu) out_bo 111 [(.rs a_0.z .i64 a_0.n a_0.f), (.rs b_1.z .i64 b_1.n b_1.f)] = F_laws_eqInt64S fu a_0 b_1 := by kernel_rfl
noncomputable def body_laws_eqInt64S : Code := Try.f111.body.getD .skip
noncomputable def lc_laws_eqInt64S_0 : Code := ((loops 0 body_laws_eqInt64S).getD 0 (0, .skip)).2
theorem round_laws_eqInt64S_0 (fu : Nat) (it : St RT den → Option (Bool)) (k : Ex → St RT den → Option (Bool)) c w : evCode E (pc_laws_eqInt64S fu) msk_laws_eqInt64S (lp_laws_eqInt64S fu) 0 lc_laws_eqInt64S_0 (back_laws_eqInt64S_0 c w) (after (msk_laws_eqInt64S 0) (msk_laws_eqInt64S 100000) 0 it k) = Bk_laws_eqInt64S_0 fu c k w (fun w => it (back_laws_eqInt64S_0 c w)) := by kernel_rfl
theorem lpok_laws_eqInt64S_0 (fu : Nat) : ∀ s k r, lp_laws_eqInt64S fu 0 s k = some r → ∃ fuel, iter (msk_laws_eqInt64S 0) (msk_laws_eqInt64S 100000) s.objs.length (evCode E (pc_laws_eqInt64S fu) msk_laws_eqInt64S (lp_laws_eqInt64S fu) 0 lc_laws_eqInt64S_0) fuel s k = some r :=
  handle_ok (ps := ps_laws_eqInt64S_0) (os := os_laws_eqInt64S_0) (conv := conv_laws_eqInt64S_0) (B := Bk_laws_eqInt64S_0 fu) (fu := fu) back_laws_eqInt64S_0 (fun raw => by kernel_rfl) 0 (fun c w => by kernel_rfl) (round_laws_eqInt64S_0 fu)
theorem lpok_laws_eqInt64S (fu : Nat) : LpOk E (pc_laws_eqInt64S fu) msk_laws_eqInt64S (lp_laws_eqInt64S fu) (loops 0 body_laws_eqInt64S) := loop_all 1 (by kernel_rfl) fun i hi => match i, hi with
  | 0, _ => by
    have h : (loops 0 body_laws_eqInt64S).getD 0 (0, .skip) = (0, lc_laws_eqInt64S_0) := by kernel_rfl
    rw [h]; exact lpok_laws_eqInt64S_0 fu
  | i + 1, hi => absurd hi (by omega)
def S_laws_eqInt64S (fu : Nat) (xs : List (D RT den)) : Option (Out RT den) := match xs with | [.rs za0_0 .i64 na0_0 fa0_0, .rs za1_0 .i64 na1_0 fa1_0] => some ⟨Bool, F_laws_eqInt64S fu (⟨za0_0, na0_0, fa0_0⟩ : (Sl Int)) (⟨za1_0, na1_0, fa1_0⟩ : (Sl Int)), enc_bo, fun _ => true⟩ | _ => none
theorem hpc_laws_eqInt64S (fu : Nat) : ∀ f xs o, pc_laws_eqInt64S fu f xs = some o → ∀ y, o.x = some y → Good E Try.prog f xs (o.g y) := by
  intro f xs o h
  cases h
theorem goodv_laws_eqInt64S (fu : Nat) (a_0 : (Sl Int)) (b_1 : (Sl Int)) (y : Bool) (hy : F_laws_eqInt64S fu a_0 b_1 = some y) : Good E Try.prog 111 [(.rs a_0.z .i64 a_0.n a_0.f), (.rs b_1.z .i64 b_1.n b_1.f)] (enc_bo y) :=
  fun_good E_ok (pc_good (hpc_laws_eqInt64S fu)) (fn := Try.f111) (c := body_laws_eqInt64S) (out := out_bo) (y := y) (by kernel_rfl) (by kernel_rfl) (by kernel_rfl) (lpok_laws_eqInt64S fu) (fun d hd => out_bo_enc d _ hd) ((ev_laws_eqInt64S fu a_0 b_1).trans hy)
theorem good_laws_eqInt64S (fu : Nat) : ∀ xs o, S_laws_eqInt64S fu xs = some o → ∀ y, o.x = some y → Good E Try.prog 111 xs (o.g y) := by
  intro xs o h y hy
  unfold S_laws_eqInt64S at h
  split at h
  · rename_i za0_0 na0_0 fa0_0 za1_0 na1_0 fa1_0
    cases h
    exact goodv_laws_eqInt64S fu (⟨za0_0, na0_0, fa0_0⟩ : (Sl Int)) (⟨za1_0, na1_0, fa1_0⟩ : (Sl Int)) y hy
  · cases h

/-! laws.eqVip -/
def F_laws_eqVip (fu : Nat) (a_0 : S_impl_Vip) (b_1 : S_impl_Vip) : Option (Bool) :=
  (bif (a_0.Address != b_1.Address) then (some false) else (bif (a_0.Port != b_1.Port) then (some false) else (bif (a_0.Proto != b_1.Proto) then (some false) else ((F_laws_eqInt64S fu a_0.Names b_1.Names).bind fun y172 =>
    (bif (!y172) then (some false) else (some true))))))
def pc_laws_eqVip (fu : Nat) : Pc RT den := fun f xs => match f with | 111 => S_laws_eqInt64S fu xs | _ => none
def msk_laws_eqVip (b : Nat) : List Nat := []
def lp_laws_eqVip (fu : Nat) : Lp RT den (Bool) := fun b s k => none
theorem ev_laws_eqVip (fu : Nat) (a_0 : S_impl_Vip) (b_1 : S_impl_Vip) : evFun E (pc_laws_eqVip fu) msk_laws_eqVip (lp_laws_eqVip fu) out_bo 98 [(.agg [(.int .i64 a_0.Address), (.int .i64 a_0.Port), (.int .i64 a_0.Proto), (.rs a_0.Names.z .i64 a_0.Names.n a_0.Names.f)]), (.agg [(.int .i64 b_1.Address), (.int .i64 b_1.Port), (.int .i64 b_1.Proto), (.rs b_1.Names.z .i64 b_1.Names.n b_1.Names.f)])] = F_laws_eqVip fu a_0 b_1 := by kernel_rfl
noncomputable def body_laws_eqVip : Code := Try.f98.body.getD .skip
theorem lpok_laws_eqVip (fu : Nat) : LpOk E (pc_laws_eqVip fu) msk_laws_eqVip (lp_laws_eqVip fu) (loops 0 body_laws_eqVip) := by
  have h : loops 0 body_laws_eqVip = [] := by kernel_rfl
  rw [h]; intro p hp; cases hp
def S_laws_eqVip (fu : Nat) (xs : List (D RT den)) : Option (Out RT den) := match xs with | [.agg [.int .i64 a0_1, .int .i64 a0_2, .int .i64 a0_3, .rs za0_4 .i64 na0_4 fa0_4], .agg [.int .i64 a1_1, .int .i64 a1_2, .int .i64 a1_3, .rs za1_4 .i64 na1_4 fa1_4]] => some ⟨Bool, F_laws_eqVip fu (⟨a0_1, a0_2, a0_3, (⟨za0_4, na0_4, fa0_4⟩ : (Sl Int))⟩ : S_impl_Vip) (⟨a1_1, a1_2, a1_3, (⟨za1_4, na1_4, fa1_4⟩ : (Sl Int))⟩ : S_impl_Vip), enc_bo, fun _ => true⟩ | _ => none
theorem hpc_laws_eqVip (fu : Nat) : ∀ f xs o, pc_laws_eqVip fu f xs = some o → ∀ y, o.x = some y → Good E Try.prog f xs (o.g y) := by
  intro f xs o h
  unfold pc_laws_eqVip at h
  split at h
  · exact good_laws_eqInt64S fu xs o h
  · cases h
theorem goodv_laws_eqVip (fu : Nat) (a_0 : S_impl_Vip) (b_1 : S_impl_Vip) (y : Bool) (hy : F_laws_eqVip fu a_0 b_1 = some y) : Good E Try.prog 98 [(.agg [(.int .i64 a_0.Address), (.int .i64 a_0.Port), (.int .i64 a_0.Proto), (.rs a_0.Names.z .i64 a_0.Names.n a_0.Names.f)]), (.agg [(.int .i64 b_1.Address), (.int .i64 b_1.Port), (.int .i64 b_1.Proto), (.rs b_1.Names.z .i64 b_1.Names.n b_1.Names.f)])] (enc_bo y) :=
  fun_good E_ok (pc_good (hpc_laws_eqVip fu)) (fn := Try.f98) (c := body_laws_eqVip) (out := out_bo) (y := y) (by kernel_rfl) (by kernel_rfl) (by kernel_rfl) (lpok_laws_eqVip fu) (fun d hd => out_bo_enc d _ hd) ((ev_laws_eqVip fu a_0 b_1).trans hy)
theorem good_laws_eqVip (fu : Nat) : ∀ xs o, S_laws_eqVip fu xs = some o → ∀ y, o.x = some y → Good E Try.prog 98 xs (o.g y) := by
  intro xs o h y hy
  unfold S_laws_eqVip at h
  split at h
  · rename_i a0_1 a0_2 a0_3 za0_4 na0_4 fa0_4 a1_1 a1_2 a1_3 za1_4 na1_4 fa1_4
    cases h
    exact goodv_laws_eqVip fu (⟨a0_1, a0_2, a0_3, (⟨za0_4, na0_4, fa0_4⟩ : (Sl Int))⟩ : S_impl_Vip) (⟨a1_1, a1_2, a1_3, (⟨za1_4, na1_4, fa1_4⟩ : (Sl Int))⟩ : S_impl_Vip) y hy
  · cases h

/-! laws.eqVipS -/
def F_laws_eqVipS_B0 {ρ : Type} (fu : Nat) (a0_0 : (Sl S_impl_Vip)) (b1_1 : (Sl S_impl_Vip)) (k0 : Option ρ) (k1 : Option ρ) (i5_2 : Int) (go : Int → Option ρ) : Option ρ :=
  (bif (decide (i5_2 < ((a0_0.n : Nat) : Int))) then ((bif (decide (0 ≤ i5_2) && decide ((Int.toNat i5_2) < a0_0.n)) then some () else none : Option Unit).bind fun _ => ((bif (decide (0 ≤ i5_2) &&
    decide ((Int.toNat i5_2) < b1_1.n)) then some () else none : Option Unit).bind fun _ => ((F_laws_eqVip fu (a0_0.f (Int.toNat i5_2)) (b1_1.f (Int.toNat i5_2))).bind fun y171 =>
    (bif (!y171) then k0 else (go (IntKind.wrap .i64 (i5_2 + 1))))))) else k1)
def F_laws_eqVipS (fu : Nat) (a_0 : (Sl S_impl_Vip)) (b_1 : (Sl S_impl_Vip)) : Option (Bool) :=
  (bif (((a_0.n : Nat) : Int) != ((b_1.n : Nat) : Int)) then (some false) else (L (fun w0 go0 => F_laws_eqVipS_B0 fu a_0 b_1 (some false) (some true) w0 go0) fu (0 : Int)))
def pc_laws_eqVipS (fu : Nat) : Pc RT den := fun f xs => match f with | 98 => S_laws_eqVip fu xs | _ => none
def msk_laws_eqVipS (b : Nat) : List Nat := match b with | 0 => [2, 3, 4, 6, 7, 8, 9, 10, 11, 12, 13, 14, 15, 16, 17, 18, 19, 20, 21, 22, 23, 24, 25, 26] | 100000 => [0, 1, 2, 3, 5, 6, 7, 8, 9, 10, 11, 12, 13, 14, 15, 16, 17, 18, 19, 20, 21, 22, 23, 24, 25, 26] | _ => []
def ps_laws_eqVipS_0 : List (Pat RT) := [.flat (.rs .impl_Vip), .flat (.rs .impl_Vip), .flat .dead, .flat .dead, .flat .dead, .flat (.int .i64), .flat .dead, .flat .dead, .flat .dead, .flat .dead, .flat .dead, .flat .dead, .flat .dead, .flat .dead, .flat .dead, .flat .dead, .flat .dead, .flat .dead, .flat .dead, .flat .dead, .flat .dead, .flat .dead, .flat .dead, .flat .dead, .flat .dead, .flat .dead, .flat .dead]
def os_laws_eqVipS_0 : List (OP RT) := []
def conv_laws_eqVipS_0 (r : Raw den ps_laws_eqVipS_0 os_laws_eqVipS_0) : ((Sl S_impl_Vip) × (Sl S_impl_Vip)) × (Int) := ((r.1.1, r.1.2.1), r.1.2.2.2.2.2.1)
def back_laws_eqVipS_0 (c : (Sl S_impl_Vip) × (Sl S_impl_Vip)) (w : Int) : St RT den := ⟨[(.rs c.1.z .impl_Vip c.1.n c.1.f), (.rs c.2.z .impl_Vip c.2.n c.2.f), .dead, .dead, .dead, (.int .i64 w), .dead, .dead, .dead, .dead, .dead, .dead, .dead, .dead, .dead, .dead, .dead, .dead, .dead, .dead, .dead, .dead, .dead, .dead, .dead, .dead, .dead], []⟩
def Bk_laws_eqVipS_0 {ρ : Type} (fu : Nat) (c : (Sl S_impl_Vip) × (Sl S_impl_Vip)) (k : Ex → St RT den → Option ρ) (w : Int) (go : (Int) → Option ρ) : Option ρ := F_laws_eqVipS_B0 fu c.1 c.2 (k .ret ⟨[.dead, .dead, .dead, .dead, (.bool false), .dead, .dead, .dead, .dead, .dead, .dead, .dead, .dead, .dead, .dead, .dead, .dead, .dead, .dead, .dead, .dead, .dead, .dead, .dead, .dead, .dead, .dead], []⟩) (k (.exit 0) ⟨[.dead, .dead, .dead, .dead, .dead, .dead, .dead, .dead, .dead, .dead, .dead, .dead, .dead, .dead, .dead, .dead, .dead, .dead, .dead, .dead, .dead, .dead, .dead, .dead, .dead, .dead, .dead], []⟩) w go
def lp_laws_eqVipS (fu : Nat) : Lp RT den (Bool) := fun b s k => match b with | 0 => handle ps_laws_eqVipS_0 os_laws_eqVipS_0 conv_laws_eqVipS_0 (Bk_laws_eqVipS_0 fu) fu s k | _ => none
theorem ev_laws_eqVipS (fu : Nat) (a_0 : (Sl S_impl_Vip)) (b_1 : (Sl S_impl_Vip)) : evFun E (pc_laws_eqVipS fu) msk_laws_eqVipS (lp_laws_eqVipS fu) out_bo 80 [(.rs a_0.z .impl_Vip a_0.n a_0.f), (.rs b_1.z .impl_Vip b_1.n b_1.f)] = F_laws_eqVipS fu a_0 b_1 := by kernel_rfl
noncomputable def body_laws_eqVipS : Code := Try.f80.body.getD .skip
noncomputable def lc_laws_eqVipS_0 : Code := ((loops 0 body_laws_eqVipS).getD 0 (0, .skip)).2
theorem round_laws_eqVipS_0 (fu : Nat) (it : St RT den → Option (Bool)) (k : Ex → St RT den → Option (Bool)) c w : evCode E (pc_laws_eqVipS fu) msk_laws_eqVipS (lp_laws_eqVipS fu) 0 lc_laws_eqVipS_0 (back_laws_eqVipS_0 c w) (after (msk_laws_eqVipS 0) (msk_laws_eqVipS 100000) 0 it k) = Bk_laws_eqVipS_0 fu c k w (fun w => it (back_laws_eqVipS_0 c w)) := by kernel_rfl
theorem lpok_laws_eqVipS_0 (fu : Nat) : ∀ s k r, lp_laws_eqVipS fu 0 s k = some r → ∃ fuel, iter (msk_laws_eqVipS 0) (msk_laws_eqVipS 100000) s.objs.length (evCode E (pc_laws_eqVipS fu) msk_laws_eqVipS (lp_laws_eqVipS fu) 0 lc_laws_eqVipS_0) fuel s k = some r :=
  handle_ok (ps := ps_laws_eqVipS_0) (os := os_laws_eqVipS_0) (conv := conv_laws_eqVipS_0) (B := Bk_laws_eqVipS_0 fu) (fu := fu) back_laws_eqVipS_0 (fun raw => by kernel_rfl) 0 (fun c w => by kernel_rfl) (round_laws_eqVipS_0 fu)
theorem lpok_laws_eqVipS (fu : Nat) : LpOk E (pc_laws_eqVipS fu) msk_laws_eqVipS (lp_laws_eqVipS fu) (loops 0 body_laws_eqVipS) := loop_all 1 (by kernel_rfl) fun i hi => match i, hi with
  | 0, _ => by
    have h : (loops 0 body_laws_eqVipS).getD 0 (0, .skip) = (0, lc_laws_eqVipS_0) := by kernel_rfl
    rw [h]; exact lpok_laws_eqVipS_0 fu
  | i + 1, hi => absurd hi (by omega)
def S_laws_eqVipS (fu : Nat) (xs : List (D RT den)) : Option (Out RT den) := match xs with | [.rs za0_0 .impl_Vip na0_0 fa0_0, .rs za1_0 .impl_Vip na1_0 fa1_0] => some ⟨Bool, F_laws_eqVipS fu (⟨za0_0, na0_0, fa0_0⟩ : (Sl S_impl_Vip)) (⟨za1_0, na1_0, fa1_0⟩ : (Sl S_impl_Vip)), enc_bo, fun _ => true⟩ | _ => none
theorem hpc_laws_eqVipS (fu : Nat) : ∀ f xs o, pc_laws_eqVipS fu f xs = some o → ∀ y, o.x = some y → Good E Try.prog f xs (o.g y) := by
  intro f xs o h
  unfold pc_laws_eqVipS at h
  split at h
  · exact good_laws_eqVip fu xs o h
  · cases h
theorem goodv_laws_eqVipS (fu : Nat) (a_0 : (Sl S_impl_Vip)) (b_1 : (Sl S_impl_Vip)) (y : Bool) (hy : F_laws_eqVipS fu a_0 b_1 = some y) : Good E Try.prog 80 [(.rs a_0.z .impl_Vip a_0.n a_0.f), (.rs b_1.z .impl_Vip b_1.n b_1.f)] (enc_bo y) :=
  fun_good E_ok (pc_good (hpc_laws_eqVipS fu)) (fn := Try.f80) (c := body_laws_eqVipS) (out := out_bo) (y := y) (by kernel_rfl) (by kernel_rfl) (by kernel_rfl) (lpok_laws_eqVipS fu) (fun d hd => out_bo_enc d _ hd) ((ev_laws_eqVipS fu a_0 b_1).trans hy)
theorem good_laws_eqVipS (fu : Nat) : ∀ xs o, S_laws_eqVipS fu xs = some o → ∀ y, o.x = some y → Good E Try.prog 80 xs (o.g y) := by
  intro xs o h y hy
  unfold S_laws_eqVipS at h
  split at h
  · rename_i za0_0 na0_0 fa0_0 za1_0 na1_0 fa1_0
    cases h
    exact goodv_laws_eqVipS fu (⟨za0_0, na0_0, fa0_0⟩ : (Sl S_impl_Vip)) (⟨za1_0, na1_0, fa1_0⟩ : (Sl S_impl_Vip)) y hy
  · cases h

/-! laws.eqConfig -/
def F_laws_eqConfig (fu : Nat) (a_0 : S_impl_Config) (b_1 : S_impl_Config) : Option (Bool) :=
  (bif (a_0.Version != b_1.Version) then (some false) else ((F_laws_eqBackendS fu a_0.Backends b_1.Backends).bind fun y168 => (bif (!y168) then (some false) else ((F_laws_eqVipS fu a_0.Vips b_1.Vips).bind fun y169 =>
    (bif (!y169) then (some false) else (some true))))))
def pc_laws_eqConfig (fu : Nat) : Pc RT den := fun f xs => match f with | 79 => S_laws_eqBackendS fu xs | 80 => S_laws_eqVipS fu xs | _ => none
def msk_laws_eqConfig (b : Nat) : List Nat := []
def lp_laws_eqConfig (fu : Nat) : Lp RT den (Bool) := fun b s k => none
theorem ev_laws_eqConfig (fu : Nat) (a_0 : S_impl_Config) (b_1 : S_impl_Config) : evFun E (pc_laws_eqConfig fu) msk_laws_eqConfig (lp_laws_eqConfig fu) out_bo 60 [(.agg [(.int .i64 a_0.Version), (.rs a_0.Backends.z .impl_Backend a_0.Backends.n a_0.Backends.f), (.rs a_0.Vips.z .impl_Vip a_0.Vips.n a_0.Vips.f)]), (.agg [(.int .i64 b_1.Version), (.rs b_1.Backends.z .impl_Backend b_1.Backends.n b_1.Backends.f), (.rs b_1.Vips.z .impl_Vip b_1.Vips.n b_1.Vips.f)])] = F_laws_eqConfig fu a_0 b_1 := by kernel_rfl
noncomputable def body_laws_eqConfig : Code := Try.f60.body.getD .skip
theorem lpok_laws_eqConfig (fu : Nat) : LpOk E (pc_laws_eqConfig fu) msk_laws_eqConfig (lp_laws_eqConfig fu) (loops 0 body_laws_eqConfig) := by
  have h : loops 0 body_laws_eqConfig = [] := by kernel_rfl
  rw [h]; intro p hp; cases hp
def S_laws_eqConfig (fu : Nat) (xs : List (D RT den)) : Option (Out RT den) := match xs with | [.agg [.int .i64 a0_1, .rs za0_2 .impl_Backend na0_2 fa0_2, .rs za0_3 .impl_Vip na0_3 fa0_3], .agg [.int .i64 a1_1, .rs za1_2 .impl_Backend na1_2 fa1_2, .rs za1_3 .impl_Vip na1_3 fa1_3]] => some ⟨Bool, F_laws_eqConfig fu (⟨a0_1, (⟨za0_2, na0_2, fa0_2⟩ : (Sl S_impl_Backend)), (⟨za0_3, na0_3, fa0_3⟩ : (Sl S_impl_Vip))⟩ : S_impl_Config) (⟨a1_1, (⟨za1_2, na1_2, fa1_2⟩ : (Sl S_impl_Backend)), (⟨za1_3, na1_3, fa1_3⟩ : (Sl S_impl_Vip))⟩ : S_impl_Config), enc_bo, fun _ => true⟩ | _ => none
theorem hpc_laws_eqConfig (fu : Nat) : ∀ f xs o, pc_laws_eqConfig fu f xs = some o → ∀ y, o.x = some y → Good E Try.prog f xs (o.g y) := by
  intro f xs o h
  unfold pc_laws_eqConfig at h
  split at h
  · exact good_laws_eqBackendS fu xs o h
  · exact good_laws_eqVipS fu xs o h
  · cases h
theorem goodv_laws_eqConfig (fu : Nat) (a_0 : S_impl_Config) (b_1 : S_impl_Config) (y : Bool) (hy : F_laws_eqConfig fu a_0 b_1 = some y) : Good E Try.prog 60 [(.agg [(.int .i64 a_0.Version), (.rs a_0.Backends.z .impl_Backend a_0.Backends.n a_0.Backends.f), (.rs a_0.Vips.z .impl_Vip a_0.Vips.n a_0.Vips.f)]), (.agg [(.int .i64 b_1.Version), (.rs b_1.Backends.z .impl_Backend b_1.Backends.n b_1.Backends.f), (.rs b_1.Vips.z .impl_Vip b_1.Vips.n b_1.Vips.f)])] (enc_bo y) :=
  fun_good E_ok (pc_good (hpc_laws_eqConfig fu)) (fn := Try.f60) (c := body_laws_eqConfig) (out := out_bo) (y := y) (by kernel_rfl) (by kernel_rfl) (by kernel_rfl) (lpok_laws_eqConfig fu) (fun d hd => out_bo_enc d _ hd) ((ev_laws_eqConfig fu a_0 b_1).trans hy)
theorem good_laws_eqConfig (fu : Nat) : ∀ xs o, S_laws_eqConfig fu xs = some o → ∀ y, o.x = some y → Good E Try.prog 60 xs (o.g y) := by
  intro xs o h y hy
  unfold S_laws_eqConfig at h
  split at h
  · rename_i a0_1 za0_2 na0_2 fa0_2 za0_3 na0_3 fa0_3 a1_1 za1_2 na1_2 fa1_2 za1_3 na1_3 fa1_3
    cases h
    exact goodv_laws_eqConfig fu (⟨a0_1, (⟨za0_2, na0_2, fa0_2⟩ : (Sl S_impl_Backend)), (⟨za0_3, na0_3, fa0_3⟩ : (Sl S_impl_Vip))⟩ : S_impl_Config) (⟨a1_1, (⟨za1_2, na1_2, fa1_2⟩ : (Sl S_impl_Backend)), (⟨za1_3, na1_3, fa1_3⟩ : (Sl S_impl_Vip))⟩ : S_impl_Config) y hy
  · cases h

/-! laws.eqSession -/
def F_laws_eqSession (fu : Nat) (a_0 : S_impl_Session) (b_1 : S_impl_Session) : Option (Bool) :=
  (bif (a_0.Client != b_1.Client) then (some false) else (bif (a_0.Seq != b_1.Seq) then (some false) else (bif (a_0.Code != b_1.Code) then (some false) else (some true))))
def pc_laws_eqSession (fu : Nat) : Pc RT den := fun f xs => none
def msk_laws_eqSession (b : Nat) : List Nat := []
def lp_laws_eqSession (fu : Nat) : Lp RT den (Bool) := fun b s k => none
theorem ev_laws_eqSession (fu : Nat) (a_0 : S_impl_Session) (b_1 : S_impl_Session) : evFun E (pc_laws_eqSession fu) msk_laws_eqSession (lp_laws_eqSession fu) out_bo 81 [(.agg [(.int .i64 a_0.Client), (.int .i64 a_0.Seq), (.int .i64 a_0.Code)]), (.agg [(.int .i64 b_1.Client), (.int .i64 b_1.Seq), (.int .i64 b_1.Code)])] = F_laws_eqSession fu a_0 b_1 := by kernel_rfl
noncomputable def body_laws_eqSession : Code := Try.f81.body.getD .skip
theorem lpok_laws_eqSession (fu : Nat) : LpOk E (pc_laws_eqSession fu) msk_laws_eqSession (lp_laws_eqSession fu) (loops 0 body_laws_eqSession) := by
  have h : loops 0 body_laws_eqSession = [] := by kernel_rfl
  rw [h]; intro p hp; cases hp
def S_laws_eqSession (fu : Nat) (xs : List (D RT den)) : Option (Out RT den) := match xs with | [.agg [.int .i64 a0_1, .int .i64 a0_2, .int .i64 a0_3], .agg [.int .i64 a1_1, .int .i64 a1_2, .int .i64 a1_3]] => some ⟨Bool, F_laws_eqSession fu (⟨a0_1, a0_2, a0_3⟩ : S_impl_Session) (⟨a1_1, a1_2, a1_3⟩ : S_impl_Session), enc_bo, fun _ => true⟩ | _ => none
theorem hpc_laws_eqSession (fu : Nat) : ∀ f xs o, pc_laws_eqSession fu f xs = some o → ∀ y, o.x = some y → Good E Try.prog f xs (o.g y) := by
  intro f xs o h
  cases h
theorem goodv_laws_eqSession (fu : Nat) (a_0 : S_impl_Session) (b_1 : S_impl_Session) (y : Bool) (hy : F_laws_eqSession fu a_0 b_1 = some y) : Good E Try.prog 81 [(.agg [(.int .i64 a_0.Client), (.int .i64 a_0.Seq), (.int .i64 a_0.Code)]), (.agg [(.int .i64 b_1.Client), (.int .i64 b_1.Seq), (.int .i64 b_1.Code)])] (enc_bo y) :=
  fun_good E_ok (pc_good (hpc_laws_eqSession fu)) (fn := Try.f81) (c := body_laws_eqSession) (out := out_bo) (y := y) (by kernel_rfl) (by kernel_rfl) (by kernel_rfl) (lpok_laws_eqSession fu) (fun d hd => out_bo_enc d _ hd) ((ev_laws_eqSession fu a_0 b_1).trans hy)
theorem good_laws_eqSession (fu : Nat) : ∀ xs o, S_laws_eqSession fu xs = some o → ∀ y, o.x = some y → Good E Try.prog 81 xs (o.g y) := by
  intro xs o h y hy
  unfold S_laws_eqSession at h
  split at h
  · rename_i a0_1 a0_2 a0_3 a1_1 a1_2 a1_3
    cases h
    exact goodv_laws_eqSession fu (⟨a0_1, a0_2, a0_3⟩ : S_impl_Session) (⟨a1_1, a1_2, a1_3⟩ : S_impl_Session) y hy
  · cases h

/-! laws.eqSessionS -/
def F_laws_eqSessionS_B0 {ρ : Type} (fu : Nat) (a0_0 : (Sl S_impl_Session)) (b1_1 : (Sl S_impl_Session)) (k0 : Option ρ) (k1 : Option ρ) (i5_2 : Int) (go : Int → Option ρ) : Option ρ :=
  (bif (decide (i5_2 < ((a0_0.n : Nat) : Int))) then ((bif (decide (0 ≤ i5_2) && decide ((Int.toNat i5_2) < a0_0.n)) then some () else none : Option Unit).bind fun _ => ((bif (decide (0 ≤ i5_2) &&
    decide ((Int.toNat i5_2) < b1_1.n)) then some () else none : Option Unit).bind fun _ => ((F_laws_eqSession fu (a0_0.f (Int.toNat i5_2)) (b1_1.f (Int.toNat i5_2))).bind fun y173 =>
    (bif (!y173) then k0 else (go (IntKind.wrap .i64 (i5_2 + 1))))))) else k1)
def F_laws_eqSessionS (fu : Nat) (a_0 : (Sl S_impl_Session)) (b_1 : (Sl S_impl_Session)) : Option (Bool) :=
  (bif (((a_0.n : Nat) : Int) != ((b_1.n : Nat) : Int)) then (some false) else (L (fun w0 go0 => F_laws_eqSessionS_B0 fu a_0 b_1 (some false) (some true) w0 go0) fu (0 : Int)))
def pc_laws_eqSessionS (fu : Nat) : Pc RT den := fun f xs => match f with | 81 => S_laws_eqSession fu xs | _ => none
def msk_laws_eqSessionS (b : Nat) : List Nat := match b with | 0 => [2, 3, 4, 6, 7, 8, 9, 10, 11, 12, 13, 14, 15, 16, 17, 18, 19, 20, 21, 22, 23, 24, 25, 26] | 100000 => [0, 1, 2, 3, 5, 6, 7, 8, 9, 10, 11, 12, 13, 14, 15, 16, 17, 18, 19, 20, 21, 22, 23, 24, 25, 26] | _ => []
def ps_laws_eqSessionS_0 : List (Pat RT) := [.flat (.rs .impl_Session), .flat (.rs .impl_Session), .flat .dead, .flat .dead, .flat .dead, .flat (.int .i64), .flat .dead, .flat .dead, .flat .dead, .flat .dead, .flat .dead, .flat .dead, .flat .dead, .flat .dead, .flat .dead, .flat .dead, .flat .dead, .flat .dead, .flat .dead, .flat .dead, .flat .dead, .flat .dead, .flat .dead, .flat .dead, .flat .dead, .flat .dead, .flat .dead]
def os_laws_eqSessionS_0 : List (OP RT) := []
def conv_laws_eqSessionS_0 (r : Raw den ps_laws_eqSessionS_0 os_laws_eqSessionS_0) : ((Sl S_impl_Session) × (Sl S_impl_Session)) × (Int) := ((r.1.1, r.1.2.1), r.1.2.2.2.2.2.1)
def back_laws_eqSessionS_0 (c : (Sl S_impl_Session) × (Sl S_impl_Session)) (w : Int) : St RT den := ⟨[(.rs c.1.z .impl_Session c.1.n c.1.f), (.rs c.2.z .impl_Session c.2.n c.2.f), .dead, .dead, .dead, (.int .i64 w), .dead, .dead, .dead, .dead, .dead, .dead, .dead, .dead, .dead, .dead, .dead, .dead, .dead, .dead, .dead, .dead, .dead, .dead, .dead, .dead, .dead], []⟩
def Bk_laws_eqSessionS_0 {ρ : Type} (fu : Nat) (c : (Sl S_impl_Session) × (Sl S_impl_Session)) (k : Ex → St RT den → Option ρ) (w : Int) (go : (Int) → Option ρ) : Option ρ := F_laws_eqSessionS_B0 fu c.1 c.2 (k .ret ⟨[.dead, .dead, .dead, .dead, (.bool false), .dead, .dead, .dead, .dead, .dead, .dead, .dead, .dead, .dead, .dead, .dead, .dead, .dead, .dead, .dead, .dead, .dead, .dead, .dead, .dead, .dead, .dead], []⟩) (k (.exit 0) ⟨[.dead, .dead, .dead, .dead, .dead, .dead, .dead, .dead, .dead, .dead, .dead, .dead, .dead, .dead, .dead, .dead, .dead, .dead, .dead, .dead, .dead, .dead, .dead, .dead, .dead, .dead, .dead], []⟩) w go
def lp_laws_eqSessionS (fu : Nat) : Lp RT den (Bool) := fun b s k => match b with | 0 => handle ps_laws_eqSessionS_0 os_laws_eqSessionS_0 conv_laws_eqSessionS_0 (Bk_laws_eqSessionS_0 fu) fu s k | _ => none
theorem ev_laws_eqSessionS (fu : Nat) (a_0 : (Sl S_impl_Session)) (b_1 : (Sl S_impl_Session)) : evFun E (pc_laws_eqSessionS fu) msk_laws_eqSessionS (lp_laws_eqSessionS fu) out_bo 61 [(.rs a_0.z .impl_Session a_0.n a_0.f), (.rs b_1.z .impl_Session b_1.n b_1.f)] = F_laws_eqSessionS fu a_0 b_1 := by kernel_rfl
noncomputable def body_laws_eqSessionS : Code := Try.f61.body.getD .skip
noncomputable def lc_laws_eqSessionS_0 : Code := ((loops 0 body_laws_eqSessionS).getD 0 (0, .skip)).2
theorem round_laws_eqSessionS_0 (fu : Nat) (it : St RT den → Option (Bool)) (k : Ex → St RT den → Option (Bool)) c w : evCode E (pc_laws_eqSessionS fu) msk_laws_eqSessionS (lp_laws_eqSessionS fu) 0 lc_laws_eqSessionS_0 (back_laws_eqSessionS_0 c w) (after (msk_laws_eqSessionS 0) (msk_laws_eqSessionS 100000) 0 it k) = Bk_laws_eqSessionS_0 fu c k w (fun w => it (back_laws_eqSessionS_0 c w)) := by kernel_rfl
theorem lpok_laws_eqSessionS_0 (fu : Nat) : ∀ s k r, lp_laws_eqSessionS fu 0 s k = some r → ∃ fuel, iter (msk_laws_eqSessionS 0) (msk_laws_eqSessionS 100000) s.objs.length (evCode E (pc_laws_eqSessionS fu) msk_laws_eqSessionS (lp_laws_eqSessionS fu) 0 lc_laws_eqSessionS_0) fuel s k = some r :=
  handle_ok (ps := ps_laws_eqSessionS_0) (os := os_laws_eqSessionS_0) (conv := conv_laws_eqSessionS_0) (B := Bk_laws_eqSessionS_0 fu) (fu := fu) back_laws_eqSessionS_0 (fun raw => by kernel_rfl) 0 (fun c w => by kernel_rfl) (round_laws_eqSessionS_0 fu)
theorem lpok_laws_eqSessionS (fu : Nat) : LpOk E (pc_laws_eqSessionS fu) msk_laws_eqSessionS (lp_laws_eqSessionS fu) (loops 0 body_laws_eqSessionS) := loop_all 1 (by kernel_rfl) fun i hi => match i, hi with
  | 0, _ => by
    have h : (loops 0 body_laws_eqSessionS).getD 0 (0, .skip) = (0, lc_laws_eqSessionS_0) := by kernel_rfl
    rw [h]; exact lpok_laws_eqSessionS_0 fu
  | i + 1, hi => absurd hi (by omega)
def S_laws_eqSessionS (fu : Nat) (xs : List (D RT den)) : Option (Out RT den) := match xs with | [.rs za0_0 .impl_Session na0_0 fa0_0, .rs za1_0 .impl_Session na1_0 fa1_0] => some ⟨Bool, F_laws_eqSessionS fu (⟨za0_0, na0_0, fa0_0⟩ : (Sl S_impl_Session)) (⟨za1_0, na1_0, fa1_0⟩ : (Sl S_impl_Session)), enc_bo, fun _ => true⟩ | _ => none
theorem hpc_laws_eqSessionS (fu : Nat) : ∀ f xs o, pc_laws_eqSessionS fu f xs = some o → ∀ y, o.x = some y → Good E Try.prog f xs (o.g y) := by
  intro f xs o h
  unfold pc_laws_eqSessionS at h
  split at h
  · exact good_laws_eqSession fu xs o h
  · cases h
theorem goodv_laws_eqSessionS (fu : Nat) (a_0 : (Sl S_impl_Session)) (b_1 : (Sl S_impl_Session)) (y : Bool) (hy : F_laws_eqSessionS fu a_0 b_1 = some y) : Good E Try.prog 61 [(.rs a_0.z .impl_Session a_0.n a_0.f), (.rs b_1.z .impl_Session b_1.n b_1.f)] (enc_bo y) :=
  fun_good E_ok (pc_good (hpc_laws_eqSessionS fu)) (fn := Try.f61) (c := body_laws_eqSessionS) (out := out_bo) (y := y) (by kernel_rfl) (by kernel_rfl) (by kernel_rfl) (lpok_laws_eqSessionS fu) (fun d hd => out_bo_enc d _ hd) ((ev_laws_eqSessionS fu a_0 b_1).trans hy)
theorem good_laws_eqSessionS (fu : Nat) : ∀ xs o, S_laws_eqSessionS fu xs = some o → ∀ y, o.x = some y → Good E Try.prog 61 xs (o.g y) := by
  intro xs o h y hy
  unfold S_laws_eqSessionS at h
  split at h
  · rename_i za0_0 na0_0 fa0_0 za1_0 na1_0 fa1_0
    cases h
    exact goodv_laws_eqSessionS fu (⟨za0_0, na0_0, fa0_0⟩ : (Sl S_impl_Session)) (⟨za1_0, na1_0, fa1_0⟩ : (Sl S_impl_Session)) y hy
  · cases h
end Go.Proofs.Ytnocoglmchnggaa.Pc
