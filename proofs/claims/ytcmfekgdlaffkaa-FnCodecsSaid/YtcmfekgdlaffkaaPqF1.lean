/- The functions' evaluated forms, each a proved summary. Conditions: none. -/
import Derived.Test.YtcmfekgdlaffkaaPqF0
namespace Go.Proofs.Ytcmfekgdlaffkaa.Pq
open Go Go.RowKit Go.Proofs Vm
set_option linter.unusedVariables false
set_option linter.unusedSimpArgs false
set_option maxRecDepth 100000
abbrev Yb0 : Type := Nat × (Nat → S_impl_Backend) × Nat × (Nat → S_impl_Vip) × Int × Int × Nat × Nat × Int × Nat × Nat × (Nat → S_impl_Backend)
abbrev Yb1 : Type := Int × Nat × Nat × Nat × (Nat → S_impl_Backend) × Nat × (Nat → S_impl_Vip) × Nat × (Nat → S_impl_Backend) × Nat × (Nat → S_impl_Vip)
def F_spec_l1Rise_B0 {ρ : Type} (fu : Nat) (list0_0 : (Sl Int)) (v1_1 : Int) (k0 : Int → Option ρ) (at5_2 : Int) (go : Int → Option ρ) : Option ρ :=
 (((bif (decide (at5_2 < ((list0_0.n : Nat) : Int))) then ((bif (decide (0 ≤ at5_2) && decide ((Int.toNat at5_2) < list0_0.n)) then some () else none : Option Unit).bind fun _ =>
  (some (decide ((list0_0.f (Int.toNat at5_2)) < v1_1)))) else (some false)) : Option Bool).bind fun a => (bif a then (go (IntKind.wrap .i64 (at5_2 + 1))) else (k0 at5_2)))
def F_spec_l1Rise (fu : Nat) (list_0 : (Sl Int)) (v_1 : Int) : Option ((Sl Int)) :=
 (L (fun w0 go0 => F_spec_l1Rise_B0 fu list_0 v_1 (fun a => (((bif (decide (a < ((list_0.n : Nat) : Int))) then ((bif (decide (0 ≤ a) && decide ((Int.toNat a) < list_0.n)) then
  some () else none : Option Unit).bind fun _ => (some ((list_0.f (Int.toNat a)) == v_1))) else (some false)) : Option Bool).bind fun b => (bif b then (some list_0) else
  ((bif (decide ((0 : Int) ≤ a) && decide ((Int.toNat a) ≤ list_0.n)) then some () else none : Option Unit).bind fun _ => (bif (decide (((Int.toNat a) - 0) ≤ 9223372036854775807) &&
  decide (((Int.toNat a) - 0) * 8 ≤ 140737488355328)) then (bif (decide ((((Int.toNat a) - 0) + 1) ≤ 9223372036854775807) && decide ((((Int.toNat a) - 0) + 1) * 8 ≤ 140737488355328)) then
  ((bif (decide (0 ≤ a) && (decide (a ≤ ((list_0.n : Nat) : Int)) && decide (list_0.n ≤ list_0.n))) then some () else none : Option Unit).bind fun _ => (bif (decide (((((Int.toNat a) - 0) + 1) + (list_0.n - (Int.toNat a))) ≤ 9223372036854775807) &&
  decide (((((Int.toNat a) - 0) + 1) + (list_0.n - (Int.toNat a))) * 8 ≤ 140737488355328)) then (some (⟨none, ((((Int.toNat a) - 0) + 1) + (list_0.n - (Int.toNat a))),
  (fun i => if i < (((Int.toNat a) - 0) + 1) then ((fun i => if i < ((Int.toNat a) - 0) then ((fun i => list_0.f (0 + i)) i) else ((fun i => ([v_1] : List (Int)).getD i (dflt .i64)) (i - ((Int.toNat a) - 0)))) i) else
  ((fun i => list_0.f ((Int.toNat a) + i)) (i - (((Int.toNat a) - 0) + 1))))⟩ : (Sl Int))) else none)) else none) else none))))) w0 go0) fu (0 : Int))
def pc_a12 (fu : Nat) : Pc RT den := ⟨pcf0, fun _ => false, fun _ => false, pcd0, pcd0, pcd0, pcx0⟩
def msk_a12 (b : Nat) : List Nat := match b with | 0 => (2 :: 3 :: 4 :: (rg 6 39 [])) | 100000 => (2 :: 3 :: (rg 6 39 [])) | 200002 => [17] | 200004 => [31] | _ => []
def ps_a12_0 : List (Pat RT) := (.flat (.rs .i64) :: .flat (.int .i64) :: .flat .q :: .flat .q :: .flat .q :: .flat (.int .i64) :: (fq 39 []))
def os_a12_0 : List (OP RT) := []
def conv_a12_0 (r : Raw den ps_a12_0 os_a12_0) : ((Sl Int) × Int) × (Int) := ((r.1.1, r.1.2.1), (e5 r.1).1)
def back_a12_0 (c : (Sl Int) × Int) (w : Int) : St RT den := ⟨((.rs c.1.z .i64 c.1.n c.1.f) :: (ii c.2) :: .q :: .q :: .q :: (ii w) :: (qs 39 [])), []⟩
def Bk_a12_0 {ρ : Type} (fu : Nat) (c : (Sl Int) × Int) (k : Ex → St RT den → Option ρ) (w : Int) (go : (Int) → Option ρ) : Option ρ := F_spec_l1Rise_B0 fu c.1 c.2 (fun a0 => k (.exit 0) ⟨((.rs c.1.z .i64 c.1.n c.1.f) :: (ii c.2) :: .q :: .q :: .q :: (ii a0) :: (qs 39 [])), []⟩) w go
def lp_a12 (fu : Nat) : Lp RT den ((Sl Int)) := ⟨fun b s k => match b with | 0 => handle ps_a12_0 os_a12_0 conv_a12_0 (Bk_a12_0 fu) fu s k | _ => none, inl0⟩
theorem ev_a12 (fu : Nat) (list_0 : (Sl Int)) (v_1 : Int) : evFun E (pc_a12 fu) msk_a12 (lp_a12 fu) out_sl_i64 142 [(.rs list_0.z .i64 list_0.n list_0.f), (ii v_1)] = F_spec_l1Rise fu list_0 v_1 := by kernel_rfl
noncomputable def body_a12 : Code := Try.f142.body.getD .skip
noncomputable def lc_a12_0 : Code := ((loops 0 body_a12).getD 0 (0, .skip)).2
theorem round_a12_0 (fu : Nat) : RoundOk E (pc_a12 fu) msk_a12 (lp_a12 fu) 0 lc_a12_0 back_a12_0 0 100000 0 (Bk_a12_0 fu) := fun it k c w => by kernel_rfl
theorem lpok_a12_0 (fu : Nat) : LpAt E (pc_a12 fu) msk_a12 (lp_a12 fu) 0 0 100000 0 lc_a12_0 :=
 handle_ok (ps := ps_a12_0) (os := os_a12_0) (conv := conv_a12_0) (B := Bk_a12_0 fu) (fu := fu) back_a12_0 (fun raw => by kernel_rfl) 0 (fun c w => by kernel_rfl) (round_a12_0 fu)
theorem lpok_a12 (fu : Nat) : LpOk E (pc_a12 fu) 0 msk_a12 (lp_a12 fu) (loops 0 body_a12) := lp_nil (loop_all 1 (by kernel_rfl) fun i hi => match i, hi with
 | 0, _ => by
  have h : (loops 0 body_a12).getD 0 (0, .skip) = (0, lc_a12_0) := by kernel_rfl
  rw [h]; exact lpok_a12_0 fu
 | i + 1, hi => absurd hi (by omega)) (by kernel_rfl)
def S_a12 (fu : Nat) (xs : List (D RT den)) : Option (Out RT den) := match xs with | [.rs za0_0 .i64 na0_0 fa0_0, .int .i64 a1_0] => some ⟨(Sl Int), F_spec_l1Rise fu (⟨za0_0, na0_0, fa0_0⟩ : (Sl Int)) a1_0, enc_sl_i64, fun _ => true⟩ | _ => none
theorem goodv_a12 (fu : Nat) (list_0 : (Sl Int)) (v_1 : Int) (y : (Sl Int)) (hy : F_spec_l1Rise fu list_0 v_1 = some y) : Good E Try.prog 142 [(.rs list_0.z .i64 list_0.n list_0.f), (ii v_1)] (enc_sl_i64 y) :=
 fun_good E_ok (pc_good (pc := pc_a12 fu) hpc0 hpx0) (fn := Try.f142) (by kernel_rfl) (by kernel_rfl) (by kernel_rfl) (lpok_a12 fu) (fun d hd => out_sl_i64_enc d _ hd) ((ev_a12 fu list_0 v_1).trans hy)
theorem good_a12 (fu : Nat) : GoodS E Try.prog 142 (S_a12 fu) := by
 intro xs o h y hy
 unfold S_a12 at h
 split at h
 ·rename_i za0_0 na0_0 fa0_0 a1_0
  cases h
  exact goodv_a12 fu (⟨za0_0, na0_0, fa0_0⟩ : (Sl Int)) a1_0 y hy
 ·cases h
def F_spec_l1Has_B0 {ρ : Type} (fu : Nat) (list0_0 : (Sl Int)) (v1_1 : Int) (k0 : Option ρ) (k1 : Option ρ) (i5_2 : Int) (go : Int → Option ρ) : Option ρ :=
 (bif (decide (i5_2 < ((list0_0.n : Nat) : Int))) then ((bif (decide (0 ≤ i5_2) && decide ((Int.toNat i5_2) < list0_0.n)) then some () else none : Option Unit).bind fun _ => (bif ((list0_0.f (Int.toNat i5_2)) == v1_1) then
  k0 else (go (IntKind.wrap .i64 (i5_2 + 1))))) else k1)
def F_spec_l1Has (fu : Nat) (list_0 : (Sl Int)) (v_1 : Int) : Option (Bool) :=
 (L (fun w0 go0 => F_spec_l1Has_B0 fu list_0 v_1 (some true) (some false) w0 go0) fu (0 : Int))
def pc_a13 (fu : Nat) : Pc RT den := ⟨pcf0, fun _ => false, fun _ => false, pcd0, pcd0, pcd0, pcx0⟩
def msk_a13 (b : Nat) : List Nat := match b with | 0 => (2 :: 3 :: 4 :: (rg 6 12 [])) | 100000 => (0 :: 1 :: 2 :: 3 :: (rg 5 13 [])) | _ => []
def ps_a13_0 : List (Pat RT) := (.flat (.rs .i64) :: .flat (.int .i64) :: .flat .q :: .flat .q :: .flat .q :: .flat (.int .i64) :: (fq 12 []))
def os_a13_0 : List (OP RT) := []
def conv_a13_0 (r : Raw den ps_a13_0 os_a13_0) : ((Sl Int) × Int) × (Int) := ((r.1.1, r.1.2.1), (e5 r.1).1)
def back_a13_0 (c : (Sl Int) × Int) (w : Int) : St RT den := ⟨((.rs c.1.z .i64 c.1.n c.1.f) :: (ii c.2) :: .q :: .q :: .q :: (ii w) :: (qs 12 [])), []⟩
def Bk_a13_0 {ρ : Type} (fu : Nat) (c : (Sl Int) × Int) (k : Ex → St RT den → Option ρ) (w : Int) (go : (Int) → Option ρ) : Option ρ := F_spec_l1Has_B0 fu c.1 c.2 (k .ret ⟨(qs 4 ((.bool true) :: (qs 13 []))), []⟩) (k (.exit 0) ⟨(qs 18 []), []⟩) w go
def lp_a13 (fu : Nat) : Lp RT den (Bool) := ⟨fun b s k => match b with | 0 => handle ps_a13_0 os_a13_0 conv_a13_0 (Bk_a13_0 fu) fu s k | _ => none, inl0⟩
theorem ev_a13 (fu : Nat) (list_0 : (Sl Int)) (v_1 : Int) : evFun E (pc_a13 fu) msk_a13 (lp_a13 fu) out_bo 141 [(.rs list_0.z .i64 list_0.n list_0.f), (ii v_1)] = F_spec_l1Has fu list_0 v_1 := by kernel_rfl
noncomputable def body_a13 : Code := Try.f141.body.getD .skip
noncomputable def lc_a13_0 : Code := ((loops 0 body_a13).getD 0 (0, .skip)).2
theorem round_a13_0 (fu : Nat) : RoundOk E (pc_a13 fu) msk_a13 (lp_a13 fu) 0 lc_a13_0 back_a13_0 0 100000 0 (Bk_a13_0 fu) := fun it k c w => by kernel_rfl
theorem lpok_a13_0 (fu : Nat) : LpAt E (pc_a13 fu) msk_a13 (lp_a13 fu) 0 0 100000 0 lc_a13_0 :=
 handle_ok (ps := ps_a13_0) (os := os_a13_0) (conv := conv_a13_0) (B := Bk_a13_0 fu) (fu := fu) back_a13_0 (fun raw => by kernel_rfl) 0 (fun c w => by kernel_rfl) (round_a13_0 fu)
theorem lpok_a13 (fu : Nat) : LpOk E (pc_a13 fu) 0 msk_a13 (lp_a13 fu) (loops 0 body_a13) := lp_nil (loop_all 1 (by kernel_rfl) fun i hi => match i, hi with
 | 0, _ => by
  have h : (loops 0 body_a13).getD 0 (0, .skip) = (0, lc_a13_0) := by kernel_rfl
  rw [h]; exact lpok_a13_0 fu
 | i + 1, hi => absurd hi (by omega)) (by kernel_rfl)
def S_a13 (fu : Nat) (xs : List (D RT den)) : Option (Out RT den) := match xs with | [.rs za0_0 .i64 na0_0 fa0_0, .int .i64 a1_0] => some ⟨Bool, F_spec_l1Has fu (⟨za0_0, na0_0, fa0_0⟩ : (Sl Int)) a1_0, enc_bo, fun _ => true⟩ | _ => none
theorem goodv_a13 (fu : Nat) (list_0 : (Sl Int)) (v_1 : Int) (y : Bool) (hy : F_spec_l1Has fu list_0 v_1 = some y) : Good E Try.prog 141 [(.rs list_0.z .i64 list_0.n list_0.f), (ii v_1)] (enc_bo y) :=
 fun_good E_ok (pc_good (pc := pc_a13 fu) hpc0 hpx0) (fn := Try.f141) (by kernel_rfl) (by kernel_rfl) (by kernel_rfl) (lpok_a13 fu) (fun d hd => out_bo_enc d _ hd) ((ev_a13 fu list_0 v_1).trans hy)
theorem good_a13 (fu : Nat) : GoodS E Try.prog 141 (S_a13 fu) := by
 intro xs o h y hy
 unfold S_a13 at h
 split at h
 ·rename_i za0_0 na0_0 fa0_0 a1_0
  cases h
  exact goodv_a13 fu (⟨za0_0, na0_0, fa0_0⟩ : (Sl Int)) a1_0 y hy
 ·cases h
def F_spec_l5Serves_B0 {ρ : Type} (fu : Nat) (c0_0 : Int) (c0_1 : (Sl S_impl_Backend)) (c0_2 : (Sl S_impl_Vip)) (name1_3 : Int) (k0 : Option ρ) (k1 : Option ρ) (i5_4 : Int) (go : Int → Option ρ) : Option ρ :=
 (bif (decide (i5_4 < ((c0_2.n : Nat) : Int))) then ((bif (decide (0 ≤ i5_4) && decide ((Int.toNat i5_4) < c0_2.n)) then some () else none : Option Unit).bind fun _ =>
  ((F_spec_l1Has fu (c0_2.f (Int.toNat i5_4)).Names name1_3).bind fun a => (bif a then k0 else (go (IntKind.wrap .i64 (i5_4 + 1)))))) else k1)
def F_spec_l5Serves (fu : Nat) (c_0 : S_impl_Config) (name_1 : Int) : Option (Bool) :=
 (L (fun w0 go0 => F_spec_l5Serves_B0 fu c_0.Version c_0.Backends c_0.Vips name_1 (some true) (some false) w0 go0) fu (0 : Int))
def pcf_a14 (fu f : Nat) (xs : List (D RT den)) : Option (Out RT den) := match f with | 141 => S_a13 fu xs | _ => none
def pc_a14 (fu : Nat) : Pc RT den := ⟨pcf_a14 fu, fun _ => false, fun _ => false, pcd0, pcd0, pcd0, pcx0⟩
def msk_a14 (b : Nat) : List Nat := match b with | 0 => (2 :: 3 :: 4 :: (rg 6 19 [])) | 100000 => (0 :: 1 :: 2 :: 3 :: (rg 5 20 [])) | _ => []
def ps_a14_0 : List (Pat RT) := (.rptr [(.int .i64), (.rs .impl_Backend), (.rs .impl_Vip)] :: .flat (.int .i64) :: .flat .q :: .flat .q :: .flat .q :: .flat (.int .i64) :: (fq 19 []))
def os_a14_0 : List (OP RT) := []
def conv_a14_0 (r : Raw den ps_a14_0 os_a14_0) : (Int × (Sl S_impl_Backend) × (Sl S_impl_Vip) × Int) × (Int) := ((r.1.1.1, r.1.1.2.1, r.1.1.2.2.1, r.1.2.1), (e5 r.1).1)
def back_a14_0 (c : Int × (Sl S_impl_Backend) × (Sl S_impl_Vip) × Int) (w : Int) : St RT den := ⟨((.rptr [(ii c.1), (.rs c.2.1.z .impl_Backend c.2.1.n c.2.1.f), (.rs c.2.2.1.z .impl_Vip c.2.2.1.n c.2.2.1.f)]) :: (ii c.2.2.2) :: .q :: .q :: .q :: (ii w) :: (qs 19 [])), []⟩
def Bk_a14_0 {ρ : Type} (fu : Nat) (c : Int × (Sl S_impl_Backend) × (Sl S_impl_Vip) × Int) (k : Ex → St RT den → Option ρ) (w : Int) (go : (Int) → Option ρ) : Option ρ := F_spec_l5Serves_B0 fu c.1 c.2.1 c.2.2.1 c.2.2.2 (k .ret ⟨(qs 4 ((.bool true) :: (qs 20 []))), []⟩) (k (.exit 0) ⟨(qs 25 []), []⟩) w go
def lp_a14 (fu : Nat) : Lp RT den (Bool) := ⟨fun b s k => match b with | 0 => handle ps_a14_0 os_a14_0 conv_a14_0 (Bk_a14_0 fu) fu s k | _ => none, inl0⟩
theorem ev_a14 (fu : Nat) (c_0 : S_impl_Config) (name_1 : Int) : evFun E (pc_a14 fu) msk_a14 (lp_a14 fu) out_bo 143 [(.rptr [(ii c_0.Version), (.rs c_0.Backends.z .impl_Backend c_0.Backends.n c_0.Backends.f), (.rs c_0.Vips.z .impl_Vip c_0.Vips.n c_0.Vips.f)]), (ii name_1)] = F_spec_l5Serves fu c_0 name_1 := by kernel_rfl
noncomputable def body_a14 : Code := Try.f143.body.getD .skip
noncomputable def lc_a14_0 : Code := ((loops 0 body_a14).getD 0 (0, .skip)).2
theorem round_a14_0 (fu : Nat) : RoundOk E (pc_a14 fu) msk_a14 (lp_a14 fu) 0 lc_a14_0 back_a14_0 0 100000 0 (Bk_a14_0 fu) := fun it k c w => by kernel_rfl
theorem lpok_a14_0 (fu : Nat) : LpAt E (pc_a14 fu) msk_a14 (lp_a14 fu) 0 0 100000 0 lc_a14_0 :=
 handle_ok (ps := ps_a14_0) (os := os_a14_0) (conv := conv_a14_0) (B := Bk_a14_0 fu) (fu := fu) back_a14_0 (fun raw => by kernel_rfl) 0 (fun c w => by kernel_rfl) (round_a14_0 fu)
theorem lpok_a14 (fu : Nat) : LpOk E (pc_a14 fu) 0 msk_a14 (lp_a14 fu) (loops 0 body_a14) := lp_nil (loop_all 1 (by kernel_rfl) fun i hi => match i, hi with
 | 0, _ => by
  have h : (loops 0 body_a14).getD 0 (0, .skip) = (0, lc_a14_0) := by kernel_rfl
  rw [h]; exact lpok_a14_0 fu
 | i + 1, hi => absurd hi (by omega)) (by kernel_rfl)
def S_a14 (fu : Nat) (xs : List (D RT den)) : Option (Out RT den) := match xs with | [.rptr (.int .i64 a0_1 :: .rs za0_2 .impl_Backend na0_2 fa0_2 :: .rs za0_3 .impl_Vip na0_3 fa0_3 :: ra0), .int .i64 a1_0] => some ⟨Bool, F_spec_l5Serves fu (⟨a0_1, (⟨za0_2, na0_2, fa0_2⟩ : (Sl S_impl_Backend)), (⟨za0_3, na0_3, fa0_3⟩ : (Sl S_impl_Vip))⟩ : S_impl_Config) a1_0, enc_bo, fun _ => true⟩ | _ => none
theorem hpc_a14 (fu : Nat) : HpcOk E Try.prog (pcf_a14 fu) := by
 intro f xs o h
 unfold pcf_a14 at h
 split at h
 ·exact good_a13 fu xs o h
 ·cases h
theorem goodv_a14 (fu : Nat) (c_0 : S_impl_Config) (name_1 : Int) (y : Bool) (hy : F_spec_l5Serves fu c_0 name_1 = some y) : Good E Try.prog 143 [(.rptr [(ii c_0.Version), (.rs c_0.Backends.z .impl_Backend c_0.Backends.n c_0.Backends.f), (.rs c_0.Vips.z .impl_Vip c_0.Vips.n c_0.Vips.f)]), (ii name_1)] (enc_bo y) :=
 fun_good E_ok (pc_good (pc := pc_a14 fu) (hpc_a14 fu) hpx0) (fn := Try.f143) (by kernel_rfl) (by kernel_rfl) (by kernel_rfl) (lpok_a14 fu) (fun d hd => out_bo_enc d _ hd) ((ev_a14 fu c_0 name_1).trans hy)
theorem good_a14 (fu : Nat) : GoodS E Try.prog 143 (S_a14 fu) := by
 intro xs o h y hy
 unfold S_a14 at h
 split at h
 ·rename_i a0_1 za0_2 na0_2 fa0_2 za0_3 na0_3 fa0_3 ra0 a1_0
  cases h
  exact (goodv_a14 fu (⟨a0_1, (⟨za0_2, na0_2, fa0_2⟩ : (Sl S_impl_Backend)), (⟨za0_3, na0_3, fa0_3⟩ : (Sl S_impl_Vip))⟩ : S_impl_Config) a1_0 y hy).sub ⟨Sub.of_eq ra0 rfl, .refl _, trivial⟩
 ·cases h
def F_spec_l5Behind (fu : Nat) (a_0 b_1 : S_impl_Vip) : Option (Bool) :=
 (bif (a_0.Address != b_1.Address) then (some (decide (a_0.Address < b_1.Address))) else (bif (a_0.Port != b_1.Port) then (some (decide (a_0.Port < b_1.Port))) else (some (decide (a_0.Proto < b_1.Proto)))))
def pc_a15 (fu : Nat) : Pc RT den := ⟨pcf0, fun _ => false, fun _ => false, pcd0, pcd0, pcd0, pcx0⟩
def msk_a15 (b : Nat) : List Nat := []
def lp_a15 (fu : Nat) : Lp RT den (Bool) := ⟨fun b s k => none, inl0⟩
theorem ev_a15 (fu : Nat) (a_0 b_1 : S_impl_Vip) : evFun E (pc_a15 fu) msk_a15 (lp_a15 fu) out_bo 121 [(.agg [(ii a_0.Address), (ii a_0.Port), (ii a_0.Proto), (.rs a_0.Names.z .i64 a_0.Names.n a_0.Names.f)]), (.agg [(ii b_1.Address), (ii b_1.Port), (ii b_1.Proto), (.rs b_1.Names.z .i64 b_1.Names.n b_1.Names.f)])] = F_spec_l5Behind fu a_0 b_1 := by kernel_rfl
noncomputable def body_a15 : Code := Try.f121.body.getD .skip
theorem lpok_a15 (fu : Nat) : LpOk E (pc_a15 fu) 0 msk_a15 (lp_a15 fu) (loops 0 body_a15) := lp_nil (loop_nil (by kernel_rfl)) (by kernel_rfl)
def S_a15 (fu : Nat) (xs : List (D RT den)) : Option (Out RT den) := match xs with | [.agg [.int .i64 a0_1, .int .i64 a0_2, .int .i64 a0_3, .rs za0_4 .i64 na0_4 fa0_4], .agg [.int .i64 a1_1, .int .i64 a1_2, .int .i64 a1_3, .rs za1_4 .i64 na1_4 fa1_4]] => some ⟨Bool, F_spec_l5Behind fu (⟨a0_1, a0_2, a0_3, (⟨za0_4, na0_4, fa0_4⟩ : (Sl Int))⟩ : S_impl_Vip) (⟨a1_1, a1_2, a1_3, (⟨za1_4, na1_4, fa1_4⟩ : (Sl Int))⟩ : S_impl_Vip), enc_bo, fun _ => true⟩ | _ => none
theorem goodv_a15 (fu : Nat) (a_0 b_1 : S_impl_Vip) (y : Bool) (hy : F_spec_l5Behind fu a_0 b_1 = some y) : Good E Try.prog 121 [(.agg [(ii a_0.Address), (ii a_0.Port), (ii a_0.Proto), (.rs a_0.Names.z .i64 a_0.Names.n a_0.Names.f)]), (.agg [(ii b_1.Address), (ii b_1.Port), (ii b_1.Proto), (.rs b_1.Names.z .i64 b_1.Names.n b_1.Names.f)])] (enc_bo y) :=
 fun_good E_ok (pc_good (pc := pc_a15 fu) hpc0 hpx0) (fn := Try.f121) (by kernel_rfl) (by kernel_rfl) (by kernel_rfl) (lpok_a15 fu) (fun d hd => out_bo_enc d _ hd) ((ev_a15 fu a_0 b_1).trans hy)
theorem good_a15 (fu : Nat) : GoodS E Try.prog 121 (S_a15 fu) := by
 intro xs o h y hy
 unfold S_a15 at h
 split at h
 ·rename_i a0_1 a0_2 a0_3 za0_4 na0_4 fa0_4 a1_1 a1_2 a1_3 za1_4 na1_4 fa1_4
  cases h
  exact goodv_a15 fu (⟨a0_1, a0_2, a0_3, (⟨za0_4, na0_4, fa0_4⟩ : (Sl Int))⟩ : S_impl_Vip) (⟨a1_1, a1_2, a1_3, (⟨za1_4, na1_4, fa1_4⟩ : (Sl Int))⟩ : S_impl_Vip) y hy
 ·cases h
def F_spec_l5Copy_M_3_B0 {ρ : Type} (fu on0_1 : Nat) (of0_2 : (Nat → S_impl_Backend)) (on1_3 : Nat) (of1_4 : (Nat → S_impl_Vip)) (o2_5 o3_6 : Int) (o3_7 o3_8 : Nat) (o4_9 : Int) (o4_10 on5_12 : Nat) (of5_13 : (Nat → S_impl_Backend)) (k0 : Nat → Nat → (Nat → S_impl_Vip) → Option ρ) (i4_0 : Int) (o4_11 on6_14 : Nat) (of6_15 : (Nat → S_impl_Vip)) (go : Int → Nat → Nat → (Nat → S_impl_Vip) → Option ρ) : Option ρ :=
 (bif (decide (i4_0 < ((o3_8 : Nat) : Int))) then ((bif (decide (0 ≤ i4_0) && decide ((Int.toNat i4_0) < o3_8)) then some () else none : Option Unit).bind fun _ => (bif (decide ((of1_4 (Int.toNat i4_0)).Names.n ≤ 9223372036854775807) &&
  decide ((of1_4 (Int.toNat i4_0)).Names.n * 8 ≤ 140737488355328)) then (bif (decide ((o4_11 + 1) ≤ 9223372036854775807) && decide ((o4_11 + 1) * 48 ≤ 140737488355328)) then (go (IntKind.wrap .i64 (i4_0 + 1)) (o4_11 + 1) (o4_11 + 1) (fun i =>
  if i < o4_11 then (of6_15 i) else ((fun i => ([(⟨(of1_4 (Int.toNat i4_0)).Address, (of1_4 (Int.toNat i4_0)).Port, (of1_4 (Int.toNat i4_0)).Proto, (⟨none, (of1_4 (Int.toNat i4_0)).Names.n,
  (of1_4 (Int.toNat i4_0)).Names.f⟩ : (Sl Int))⟩ : S_impl_Vip)] : List (S_impl_Vip)).getD i (dflt .impl_Vip)) (i - o4_11)))) else none) else none)) else (k0 o4_11 on6_14 of6_15))
def F_spec_l5Copy_M_3 (fu : Nat) (c_0_0 : Int) (c_0_1 c_0_2 rn0 : Nat) (rf0 : (Nat → S_impl_Backend)) (rn1 : Nat) (rf1 : (Nat → S_impl_Vip)) : Option (Yb1) :=
 (bif (decide (c_0_1 ≤ 9223372036854775807) && decide (c_0_1 * 40 ≤ 140737488355328)) then (L (fun w0 go0 => F_spec_l5Copy_M_3_B0 fu rn0 rf0 rn1 rf1 0 c_0_0 c_0_1 c_0_2 c_0_0 c_0_1 c_0_1 rf0 (fun a b d =>
  (some (c_0_0, c_0_1, a, rn0, rf0, rn1, rf1, c_0_1, rf0, a, d))) w0.1 w0.2.1 w0.2.2.1 w0.2.2.2 (fun q0 q1 q2 q3 => go0 (q0, q1, q2, q3))) fu ((0, 0, 0, (fun _ => dflt .impl_Vip)) : Int × Nat × Nat × (Nat → S_impl_Vip))) else
  none)
def pc_a16 (fu : Nat) : Pc RT den := ⟨pcf0, fun _ => false, fun _ => false, pcd0, pcd0, pcd0, pcx0⟩
def msk_a16 (b : Nat) : List Nat := match b with | 0 => (0 :: (rg 5 32 [])) | 100000 => (0 :: 1 :: (rg 4 33 [])) | 300000 => [1004002] | 500001 => [3] | 500007 => [7, 8] | _ => []
def ps_a16_0 : List (Pat RT) := (.flat .q :: .flat (.ref 3 0) :: .flat (.ref 2 0) :: .flat (.ref 4 0) :: .flat (.int .i64) :: (fq 32 []))
def os_a16_0 : List (OP RT) := [.row true .impl_Backend, .row true .impl_Vip, .box false [(.int .i64), (.emp true .impl_Backend), (.emp true .impl_Vip)], .box false [(.int .i64), (.os 0), (.os 1)], .box false [(.int .i64), (.os 5), (.os 6)], .row false .impl_Backend, .row false .impl_Vip]
def conv_a16_0 (r : Raw den ps_a16_0 os_a16_0) : (Yb0) × (Int × Nat × Nat × (Nat → S_impl_Vip)) := ((r.2.1.1, r.2.1.2, r.2.2.1.1, r.2.2.1.2, r.2.2.2.1.1, r.2.2.2.2.1.1, r.2.2.2.2.1.2.1, r.2.2.2.2.1.2.2.1, (e5 r).1.1, (e5 r).1.2.1, (e5 r).2.1.1, (e5 r).2.1.2), (r.1.2.2.2.2.1, (e5 r).1.2.2.1, (e5 r).2.2.1.1, (e5 r).2.2.1.2))
def back_a16_0 (c : Yb0) (w : Int × Nat × Nat × (Nat → S_impl_Vip)) : St RT den := ⟨(.q :: (.ref 3 0) :: (.ref 2 0) :: (.ref 4 0) :: (ii w.1) :: (qs 32 [])), [(.row true .impl_Backend c.1 c.2.1), (.row true .impl_Vip c.2.2.1 c.2.2.2.1), (.box false [(ii c.2.2.2.2.1), (.emp true .impl_Backend), (.emp true .impl_Vip)]), (.box false [(ii (e5 c).1), (.os 0 (e5 c).2.1), (.os 1 (e5 c).2.2.1)]), (.box false [(ii (e5 c).2.2.2.1), (.os 5 (e5 c).2.2.2.2.1), (.os 6 w.2.1)]), (.row false .impl_Backend (e10 c).1 (e10 c).2), (.row false .impl_Vip w.2.2.1 w.2.2.2)]⟩
def Bk_a16_0 {ρ : Type} (fu : Nat) (c : Yb0) (k : Ex → St RT den → Option ρ) (w : Int × Nat × Nat × (Nat → S_impl_Vip)) (go : (Int × Nat × Nat × (Nat → S_impl_Vip)) → Option ρ) : Option ρ := F_spec_l5Copy_M_3_B0 fu c.1 c.2.1 c.2.2.1 c.2.2.2.1 c.2.2.2.2.1 (e5 c).1 (e5 c).2.1 (e5 c).2.2.1 (e5 c).2.2.2.1 (e5 c).2.2.2.2.1 (e10 c).1 (e10 c).2 (fun a0 a1 a2 => k (.exit 0) ⟨(.q :: .q :: (.ref 2 0) :: (.ref 4 0) :: (qs 33 [])), [(.row true .impl_Backend c.1 c.2.1), (.row true .impl_Vip c.2.2.1 c.2.2.2.1), (.box false [(ii c.2.2.2.2.1), (.emp true .impl_Backend), (.emp true .impl_Vip)]), (.box false [(ii (e5 c).1), (.os 0 (e5 c).2.1), (.os 1 (e5 c).2.2.1)]), (.box false [(ii (e5 c).2.2.2.1), (.os 5 (e5 c).2.2.2.2.1), (.os 6 a0)]), (.row false .impl_Backend (e10 c).1 (e10 c).2), (.row false .impl_Vip a1 a2)]⟩) w.1 w.2.1 w.2.2.1 w.2.2.2 (fun q0 q1 q2 q3 => go (q0, q1, q2, q3))
def lp_a16 (fu : Nat) : Lp RT den (Yb1) := ⟨fun b s k => match b with | 0 => handle ps_a16_0 os_a16_0 conv_a16_0 (Bk_a16_0 fu) fu s k | _ => none, inl0⟩
def pso_a16 : List (Pat RT) := [.agg [(.int .i64), (.os 2), (.os 3)]]
def oso_a16 : List (OP RT) := [.row true .impl_Backend, .row true .impl_Vip, .row false .impl_Backend, .row false .impl_Vip]
def conv_a16 (r : Raw den pso_a16 oso_a16) : Yb1 := (r.1.1.1, r.1.1.2.1, r.1.1.2.2.1, r.2.1.1, r.2.1.2, r.2.2.1.1, r.2.2.1.2, r.2.2.2.1.1, r.2.2.2.1.2, r.2.2.2.2.1.1, r.2.2.2.2.1.2)
def enc_a16 (y : Yb1) : D RT den × List (Ob RT den) := ((.agg [(.int .i64 y.1), (.os 2 y.2.1), (.os 3 y.2.2.1)]), [(.row true .impl_Backend y.2.2.2.1 y.2.2.2.2.1), (.row true .impl_Vip y.2.2.2.2.2.1 y.2.2.2.2.2.2.1), (.row false .impl_Backend y.2.2.2.2.2.2.2.1 y.2.2.2.2.2.2.2.2.1), (.row false .impl_Vip y.2.2.2.2.2.2.2.2.2.1 y.2.2.2.2.2.2.2.2.2.2)])
def out_a16 (d : D RT den) (os : List (Ob RT den)) : Option (Yb1) := (unSt pso_a16 oso_a16 ⟨[d], os⟩).bind fun v => some (conv_a16 v.1)
theorem out_a16_enc (d : D RT den) (os : List (Ob RT den)) (y : Yb1) (h : out_a16 d os = some y) : d = (enc_a16 y).1 ∧ os = (enc_a16 y).2 :=
 outM (conv := conv_a16) (enc := enc_a16) (fun raw => by kernel_rfl) h
theorem ev_a16 (fu : Nat) (c_0_0 : Int) (c_0_1 c_0_2 rn0 : Nat) (rf0 : (Nat → S_impl_Backend)) (rn1 : Nat) (rf1 : (Nat → S_impl_Vip)) : evFunM E false (pc_a16 fu) msk_a16 (lp_a16 fu) out_a16 126 [(.agg [(ii c_0_0), (.os 0 c_0_1), (.os 1 c_0_2)])] [(.row true .impl_Backend rn0 rf0), (.row true .impl_Vip rn1 rf1)] = F_spec_l5Copy_M_3 fu c_0_0 c_0_1 c_0_2 rn0 rf0 rn1 rf1 := by kernel_rfl
noncomputable def body_a16 : Code := Try.f126.body.getD .skip
noncomputable def lc_a16_0 : Code := ((loops 0 body_a16).getD 0 (0, .skip)).2
theorem round_a16_0 (fu : Nat) : RoundOk E (pc_a16 fu) msk_a16 (lp_a16 fu) 0 lc_a16_0 back_a16_0 0 100000 7 (Bk_a16_0 fu) := fun it k c w => by kernel_rfl
theorem lpok_a16_0 (fu : Nat) : LpAt E (pc_a16 fu) msk_a16 (lp_a16 fu) 0 0 100000 0 lc_a16_0 :=
 handle_ok (ps := ps_a16_0) (os := os_a16_0) (conv := conv_a16_0) (B := Bk_a16_0 fu) (fu := fu) back_a16_0 (fun raw => by kernel_rfl) 7 (fun c w => by kernel_rfl) (round_a16_0 fu)
theorem lpok_a16 (fu : Nat) : LpOk E (pc_a16 fu) 0 msk_a16 (lp_a16 fu) (loops 0 body_a16) := lp_nil (loop_all 1 (by kernel_rfl) fun i hi => match i, hi with
 | 0, _ => by
  have h : (loops 0 body_a16).getD 0 (0, .skip) = (0, lc_a16_0) := by kernel_rfl
  rw [h]; exact lpok_a16_0 fu
 | i + 1, hi => absurd hi (by omega)) (by kernel_rfl)
def S_a16 (fu : Nat) (xs : List (D RT den)) (ins : List (Ob RT den)) : Option (OutX RT den) := match xs, ins with | [.agg [.int .i64 a0_0, .os 0 a0_1, .os 1 a0_2]], [.row true .impl_Backend rn0 rf0, .row true .impl_Vip rn1 rf1] => some ⟨Yb1, F_spec_l5Copy_M_3 fu a0_0 a0_1 a0_2 rn0 rf0 rn1 rf1, enc_a16⟩ | _, _ => none
theorem goodv_a16 (fu : Nat) (c_0_0 : Int) (c_0_1 c_0_2 rn0 : Nat) (rf0 : (Nat → S_impl_Backend)) (rn1 : Nat) (rf1 : (Nat → S_impl_Vip)) (y : Yb1) (hy : F_spec_l5Copy_M_3 fu c_0_0 c_0_1 c_0_2 rn0 rf0 rn1 rf1 = some y) : GoodX E Try.prog 126 [(.agg [(ii c_0_0), (.os 0 c_0_1), (.os 1 c_0_2)])] [(.row true .impl_Backend rn0 rf0), (.row true .impl_Vip rn1 rf1)] (enc_a16 y).1 (enc_a16 y).2 :=
 funM_good (ke := false) E_ok (pc_good (pc := pc_a16 fu) hpc0 hpx0) (fn := Try.f126) (by kernel_rfl) (by kernel_rfl) (by kernel_rfl) (lpok_a16 fu) (by kernel_rfl) (Nat.le_of_ble_eq_true (by kernel_rfl)) (fun d os hd => out_a16_enc d os _ hd) ((ev_a16 fu c_0_0 c_0_1 c_0_2 rn0 rf0 rn1 rf1).trans hy)
theorem good_a16 (fu : Nat) : GoodSX E Try.prog 126 (S_a16 fu) := by
 intro xs ins o h y hy
 unfold S_a16 at h
 split at h
 ·rename_i a0_0 a0_1 a0_2 rn0 rf0 rn1 rf1
  cases h
  exact goodv_a16 fu a0_0 a0_1 a0_2 rn0 rf0 rn1 rf1 y hy
 ·cases h
end Go.Proofs.Ytcmfekgdlaffkaa.Pq
