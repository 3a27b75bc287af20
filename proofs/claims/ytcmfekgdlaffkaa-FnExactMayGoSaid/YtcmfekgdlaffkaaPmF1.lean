/- The functions' evaluated forms, each a proved summary. Conditions: none. -/
import Derived.Test.YtcmfekgdlaffkaaPmF0
namespace Go.Proofs.Ytcmfekgdlaffkaa.Pm
open Go Go.RowKit Go.Proofs Vm
set_option linter.unusedVariables false
set_option linter.unusedSimpArgs false
set_option maxRecDepth 100000
abbrev Yb0 : Type := Int × (Sl S_impl_Backend) × (Sl S_impl_Vip) × Int × Int × Int × Int × Int
abbrev Yb1 : Type := Int × (Sl Int) × (Sl Int) × (Sl Int) × Int × (Sl S_impl_Backend) × (Sl S_impl_Vip) × Int × Int × Int × Int × Int × Int × (Sl Int)
def F_spec_l5Fault_B0 {ρ : Type} (fu : Nat) (c0_0 : Int) (c0_1 : (Sl S_impl_Backend)) (c0_2 : (Sl S_impl_Vip)) (k0 : Option ρ) (k1 : Option ρ) (k2 : Option ρ) (i3_3 : Int) (go : Int → Option ρ) : Option ρ :=
 (bif (decide (i3_3 < ((c0_1.n : Nat) : Int))) then ((bif (decide (0 ≤ i3_3) && decide ((Int.toNat i3_3) < c0_1.n)) then some () else none : Option Unit).bind fun _ =>
  ((F_spec_l5Backend fu (c0_1.f (Int.toNat i3_3))).bind fun y40 => (bif (!y40) then k0 else (((bif (decide (i3_3 > 0)) then ((bif (decide (0 ≤ i3_3) && decide ((Int.toNat i3_3) < c0_1.n)) then
  some () else none : Option Unit).bind fun _ => ((bif (decide (0 ≤ (IntKind.wrap .i64 (i3_3 - 1))) && decide ((Int.toNat (IntKind.wrap .i64 (i3_3 - 1))) < c0_1.n)) then some () else
  none : Option Unit).bind fun _ => (some (decide ((c0_1.f (Int.toNat i3_3)).Name ≤ (c0_1.f (Int.toNat (IntKind.wrap .i64 (i3_3 - 1)))).Name))))) else (some false)) : Option Bool).bind fun m41 =>
  (bif m41 then k1 else (go (IntKind.wrap .i64 (i3_3 + 1)))))))) else k2)
def F_spec_l5Fault_B2 {ρ : Type} (fu : Nat) (c0_0 : Int) (c0_1 : (Sl S_impl_Backend)) (c0_2 : (Sl S_impl_Vip)) (k0 : Int → Option ρ) (k1 : Option ρ) (i4_3 : Int) (go : Int → Option ρ) : Option ρ :=
 (bif (decide (i4_3 < ((c0_2.n : Nat) : Int))) then ((F_spec_l5Vip fu (⟨c0_0, c0_1, c0_2⟩ : S_impl_Config) i4_3).bind fun y42 => (bif (y42 != 0) then (k0 y42) else (go (IntKind.wrap .i64 (i4_3 + 1))))) else
  k1)
def F_spec_l5Fault (fu : Nat) (c_0 : S_impl_Config) : Option (Int) :=
 ((F_spec_l5Version fu c_0.Version).bind fun y38 => (bif (!y38) then (some 3) else (((bif (decide (((c_0.Backends.n : Nat) : Int) > 8)) then (some true) else (some (decide (((c_0.Vips.n : Nat) : Int) > 4)))) : Option Bool).bind fun m39 =>
  (bif m39 then (some 2) else (L (fun w0 go0 => F_spec_l5Fault_B0 fu c_0.Version c_0.Backends c_0.Vips (some 3) (some 1) (L (fun w2 go2 => F_spec_l5Fault_B2 fu c_0.Version c_0.Backends c_0.Vips (fun z43 =>
  (some z43)) (some 0) w2 go2) fu (0 : Int)) w0 go0) fu (0 : Int))))))
def pcf_a22 (fu f : Nat) (xs : List (D RT den)) : Option (Out RT den) := match f with | 73 => S_a13 fu xs | 74 => S_a16 fu xs | 75 => S_a21 fu xs | _ => none
def pc_a22 (fu : Nat) : Pc RT den := ⟨pcf_a22 fu, fun _ => false, fun _ => false, pcd0, pcd0, pcd0, pcx0⟩
def msk_a22 (b : Nat) : List Nat := match b with | 0 => (1 :: 2 :: (rg 4 77 [])) | 100000 => (1 :: (rg 3 78 [])) | 2 => (1 :: 2 :: 3 :: (rg 5 76 [])) | 100002 => (0 :: 1 :: (rg 3 78 [])) | 200003 => [25] | 200010 => [65] | _ => []
def ps_a22_0 : List (Pat RT) := (.rptr [(.int .i64), (.rs .impl_Backend), (.rs .impl_Vip)] :: .flat .q :: .flat .q :: .flat (.int .i64) :: (fq 77 []))
def os_a22_0 : List (OP RT) := []
def conv_a22_0 (r : Raw den ps_a22_0 os_a22_0) : (Int × (Sl S_impl_Backend) × (Sl S_impl_Vip)) × (Int) := ((r.1.1.1, r.1.1.2.1, r.1.1.2.2.1), r.1.2.2.2.1)
def back_a22_0 (c : Int × (Sl S_impl_Backend) × (Sl S_impl_Vip)) (w : Int) : St RT den := ⟨((.rptr [(ii c.1), (.rs c.2.1.z .impl_Backend c.2.1.n c.2.1.f), (.rs c.2.2.z .impl_Vip c.2.2.n c.2.2.f)]) :: .q :: .q :: (ii w) :: (qs 77 [])), []⟩
def Bk_a22_0 {ρ : Type} (fu : Nat) (c : Int × (Sl S_impl_Backend) × (Sl S_impl_Vip)) (k : Ex → St RT den → Option ρ) (w : Int) (go : (Int) → Option ρ) : Option ρ := F_spec_l5Fault_B0 fu c.1 c.2.1 c.2.2 (k .ret ⟨((.rptr [(ii c.1), (.rs c.2.1.z .impl_Backend c.2.1.n c.2.1.f), (.rs c.2.2.z .impl_Vip c.2.2.n c.2.2.f)]) :: .q :: (ii 3) :: (qs 78 [])), []⟩) (k .ret ⟨((.rptr [(ii c.1), (.rs c.2.1.z .impl_Backend c.2.1.n c.2.1.f), (.rs c.2.2.z .impl_Vip c.2.2.n c.2.2.f)]) :: .q :: (ii 1) :: (qs 78 [])), []⟩) (k (.exit 0) ⟨((.rptr [(ii c.1), (.rs c.2.1.z .impl_Backend c.2.1.n c.2.1.f), (.rs c.2.2.z .impl_Vip c.2.2.n c.2.2.f)]) :: (qs 80 [])), []⟩) w go
def ps_a22_2 : List (Pat RT) := (.rptr [(.int .i64), (.rs .impl_Backend), (.rs .impl_Vip)] :: .flat .q :: .flat .q :: .flat .q :: .flat (.int .i64) :: (fq 76 []))
def os_a22_2 : List (OP RT) := []
def conv_a22_2 (r : Raw den ps_a22_2 os_a22_2) : (Int × (Sl S_impl_Backend) × (Sl S_impl_Vip)) × (Int) := ((r.1.1.1, r.1.1.2.1, r.1.1.2.2.1), r.1.2.2.2.2.1)
def back_a22_2 (c : Int × (Sl S_impl_Backend) × (Sl S_impl_Vip)) (w : Int) : St RT den := ⟨((.rptr [(ii c.1), (.rs c.2.1.z .impl_Backend c.2.1.n c.2.1.f), (.rs c.2.2.z .impl_Vip c.2.2.n c.2.2.f)]) :: .q :: .q :: .q :: (ii w) :: (qs 76 [])), []⟩
def Bk_a22_2 {ρ : Type} (fu : Nat) (c : Int × (Sl S_impl_Backend) × (Sl S_impl_Vip)) (k : Ex → St RT den → Option ρ) (w : Int) (go : (Int) → Option ρ) : Option ρ := F_spec_l5Fault_B2 fu c.1 c.2.1 c.2.2 (fun a0 => k .ret ⟨(.q :: .q :: (ii a0) :: (qs 78 [])), []⟩) (k (.exit 2) ⟨(qs 81 []), []⟩) w go
def lp_a22 (fu : Nat) : Lp RT den (Int) := ⟨fun b s k => match b with | 0 => handle ps_a22_0 os_a22_0 conv_a22_0 (Bk_a22_0 fu) fu s k | 2 => handle ps_a22_2 os_a22_2 conv_a22_2 (Bk_a22_2 fu) fu s k | _ => none, inl0⟩
theorem ev_a22 (fu : Nat) (c_0 : S_impl_Config) : evFun E (pc_a22 fu) msk_a22 (lp_a22 fu) out_i64 32 [(.rptr [(ii c_0.Version), (.rs c_0.Backends.z .impl_Backend c_0.Backends.n c_0.Backends.f), (.rs c_0.Vips.z .impl_Vip c_0.Vips.n c_0.Vips.f)])] = F_spec_l5Fault fu c_0 := by kernel_rfl
noncomputable def body_a22 : Code := Try.f32.body.getD .skip
noncomputable def lc_a22_0 : Code := ((loops 0 body_a22).getD 0 (0, .skip)).2
theorem round_a22_0 (fu : Nat) : RoundOk E (pc_a22 fu) msk_a22 (lp_a22 fu) 0 lc_a22_0 back_a22_0 0 100000 0 (Bk_a22_0 fu) := fun it k c w => by kernel_rfl
theorem lpok_a22_0 (fu : Nat) : LpAt E (pc_a22 fu) msk_a22 (lp_a22 fu) 0 0 100000 0 lc_a22_0 :=
 handle_ok (ps := ps_a22_0) (os := os_a22_0) (conv := conv_a22_0) (B := Bk_a22_0 fu) (fu := fu) back_a22_0 (fun raw => by kernel_rfl) 0 (fun c w => by kernel_rfl) (round_a22_0 fu)
noncomputable def lc_a22_2 : Code := ((loops 0 body_a22).getD 1 (0, .skip)).2
theorem round_a22_2 (fu : Nat) : RoundOk E (pc_a22 fu) msk_a22 (lp_a22 fu) 2 lc_a22_2 back_a22_2 2 100002 0 (Bk_a22_2 fu) := fun it k c w => by kernel_rfl
theorem lpok_a22_2 (fu : Nat) : LpAt E (pc_a22 fu) msk_a22 (lp_a22 fu) 2 2 100002 2 lc_a22_2 :=
 handle_ok (ps := ps_a22_2) (os := os_a22_2) (conv := conv_a22_2) (B := Bk_a22_2 fu) (fu := fu) back_a22_2 (fun raw => by kernel_rfl) 0 (fun c w => by kernel_rfl) (round_a22_2 fu)
theorem lpok_a22 (fu : Nat) : LpOk E (pc_a22 fu) 0 msk_a22 (lp_a22 fu) (loops 0 body_a22) := lp_nil (loop_all 2 (by kernel_rfl) fun i hi => match i, hi with
 | 0, _ => by
  have h : (loops 0 body_a22).getD 0 (0, .skip) = (0, lc_a22_0) := by kernel_rfl
  rw [h]; exact lpok_a22_0 fu
 | 1, _ => by
  have h : (loops 0 body_a22).getD 1 (0, .skip) = (2, lc_a22_2) := by kernel_rfl
  rw [h]; exact lpok_a22_2 fu
 | i + 2, hi => absurd hi (by omega)) (by kernel_rfl)
def S_a22 (fu : Nat) (xs : List (D RT den)) : Option (Out RT den) := match xs with | [.rptr (.int .i64 a0_1 :: .rs za0_2 .impl_Backend na0_2 fa0_2 :: .rs za0_3 .impl_Vip na0_3 fa0_3 :: ra0)] => some ⟨Int, F_spec_l5Fault fu (⟨a0_1, (⟨za0_2, na0_2, fa0_2⟩ : (Sl S_impl_Backend)), (⟨za0_3, na0_3, fa0_3⟩ : (Sl S_impl_Vip))⟩ : S_impl_Config), enc_i64, fun _ => true⟩ | _ => none
theorem hpc_a22 (fu : Nat) : HpcOk E Try.prog (pcf_a22 fu) := by
 intro f xs o h
 unfold pcf_a22 at h
 split at h
 ·exact good_a13 fu xs o h
 ·exact good_a16 fu xs o h
 ·exact good_a21 fu xs o h
 ·cases h
theorem goodv_a22 (fu : Nat) (c_0 : S_impl_Config) (y : Int) (hy : F_spec_l5Fault fu c_0 = some y) : Vm.Good E Try.prog 32 [(.rptr [(ii c_0.Version), (.rs c_0.Backends.z .impl_Backend c_0.Backends.n c_0.Backends.f), (.rs c_0.Vips.z .impl_Vip c_0.Vips.n c_0.Vips.f)])] (enc_i64 y) :=
 fun_good E_ok (pc_good (pc := pc_a22 fu) (hpc_a22 fu) hpx0) (fn := Try.f32) (by kernel_rfl) (by kernel_rfl) (by kernel_rfl) (lpok_a22 fu) (fun d hd => out_i64_enc d _ hd) ((ev_a22 fu c_0).trans hy)
theorem good_a22 (fu : Nat) : GoodS E Try.prog 32 (S_a22 fu) := by
 intro xs o h y hy
 unfold S_a22 at h
 split at h
 ·rename_i a0_1 za0_2 na0_2 fa0_2 za0_3 na0_3 fa0_3 ra0
  cases h
  exact (goodv_a22 fu (⟨a0_1, (⟨za0_2, na0_2, fa0_2⟩ : (Sl S_impl_Backend)), (⟨za0_3, na0_3, fa0_3⟩ : (Sl S_impl_Vip))⟩ : S_impl_Config) y hy).sub ⟨Sub.of_eq ra0 rfl, trivial⟩
 ·cases h
def F_spec_l1Take_B0 {ρ : Type} (fu : Nat) (data0_0 : (Sl Int)) (at1_1 size2_2 : Int) (k0 : Int → Option ρ) (n7_3 k8_4 : Int) (go : Int → Int → Option ρ) : Option ρ :=
 (bif (decide (k8_4 < size2_2)) then ((bif (decide (0 ≤ (IntKind.wrap .i64 (at1_1 + k8_4))) && decide ((Int.toNat (IntKind.wrap .i64 (at1_1 + k8_4))) < data0_0.n)) then some () else
  none : Option Unit).bind fun _ => (go (IntKind.wrap .i64 ((IntKind.wrap .i64 (n7_3 * 256)) + (IntKind.wrap .i64 (data0_0.f (Int.toNat (IntKind.wrap .i64 (at1_1 + k8_4))))))) (IntKind.wrap .i64 (k8_4 + 1)))) else
  (k0 n7_3))
def F_spec_l1Take (fu : Nat) (data_0 : (Sl Int)) (at_1 size_2 : Int) : Option (Int) :=
 (L (fun w0 go0 => F_spec_l1Take_B0 fu data_0 at_1 size_2 (fun z74 => (some z74)) w0.1 w0.2 (fun q0 q1 => go0 (q0, q1))) fu ((0, 0) : Int × Int))
def pc_a23 (fu : Nat) : Pc RT den := ⟨pcf0, fun _ => false, fun _ => false, pcd0, pcd0, pcd0, pcx0⟩
def msk_a23 (b : Nat) : List Nat := match b with | 0 => (3 :: 4 :: 5 :: 6 :: (rg 9 16 [])) | 100000 => (rg 0 6 (rg 8 17 [])) | _ => []
def ps_a23_0 : List (Pat RT) := (.flat (.rs .u8) :: .flat (.int .i64) :: .flat (.int .i64) :: (fq 4 (.flat (.int .i64) :: .flat (.int .i64) :: (fq 16 []))))
def os_a23_0 : List (OP RT) := []
def conv_a23_0 (r : Raw den ps_a23_0 os_a23_0) : ((Sl Int) × Int × Int) × (Int × Int) := ((r.1.1, r.1.2.1, r.1.2.2.1), ((e5 r.1).2.2.1, (e5 r.1).2.2.2.1))
def back_a23_0 (c : (Sl Int) × Int × Int) (w : Int × Int) : St RT den := ⟨((.rs c.1.z .u8 c.1.n c.1.f) :: (ii c.2.1) :: (ii c.2.2) :: (qs 4 ((ii w.1) :: (ii w.2) :: (qs 16 [])))), []⟩
def Bk_a23_0 {ρ : Type} (fu : Nat) (c : (Sl Int) × Int × Int) (k : Ex → St RT den → Option ρ) (w : Int × Int) (go : (Int × Int) → Option ρ) : Option ρ := F_spec_l1Take_B0 fu c.1 c.2.1 c.2.2 (fun a0 => k (.exit 0) ⟨(qs 7 ((ii a0) :: (qs 17 []))), []⟩) w.1 w.2 (fun q0 q1 => go (q0, q1))
def lp_a23 (fu : Nat) : Lp RT den (Int) := ⟨fun b s k => match b with | 0 => handle ps_a23_0 os_a23_0 conv_a23_0 (Bk_a23_0 fu) fu s k | _ => none, inl0⟩
theorem ev_a23 (fu : Nat) (data_0 : (Sl Int)) (at_1 size_2 : Int) : evFun E (pc_a23 fu) msk_a23 (lp_a23 fu) out_i64 48 [(.rs data_0.z .u8 data_0.n data_0.f), (ii at_1), (ii size_2)] = F_spec_l1Take fu data_0 at_1 size_2 := by kernel_rfl
noncomputable def body_a23 : Code := Try.f48.body.getD .skip
noncomputable def lc_a23_0 : Code := ((loops 0 body_a23).getD 0 (0, .skip)).2
theorem round_a23_0 (fu : Nat) : RoundOk E (pc_a23 fu) msk_a23 (lp_a23 fu) 0 lc_a23_0 back_a23_0 0 100000 0 (Bk_a23_0 fu) := fun it k c w => by kernel_rfl
theorem lpok_a23_0 (fu : Nat) : LpAt E (pc_a23 fu) msk_a23 (lp_a23 fu) 0 0 100000 0 lc_a23_0 :=
 handle_ok (ps := ps_a23_0) (os := os_a23_0) (conv := conv_a23_0) (B := Bk_a23_0 fu) (fu := fu) back_a23_0 (fun raw => by kernel_rfl) 0 (fun c w => by kernel_rfl) (round_a23_0 fu)
theorem lpok_a23 (fu : Nat) : LpOk E (pc_a23 fu) 0 msk_a23 (lp_a23 fu) (loops 0 body_a23) := lp_nil (loop_all 1 (by kernel_rfl) fun i hi => match i, hi with
 | 0, _ => by
  have h : (loops 0 body_a23).getD 0 (0, .skip) = (0, lc_a23_0) := by kernel_rfl
  rw [h]; exact lpok_a23_0 fu
 | i + 1, hi => absurd hi (by omega)) (by kernel_rfl)
def S_a23 (fu : Nat) (xs : List (D RT den)) : Option (Out RT den) := match xs with | [.rs za0_0 .u8 na0_0 fa0_0, .int .i64 a1_0, .int .i64 a2_0] => some ⟨Int, F_spec_l1Take fu (⟨za0_0, na0_0, fa0_0⟩ : (Sl Int)) a1_0 a2_0, enc_i64, fun _ => true⟩ | _ => none
theorem goodv_a23 (fu : Nat) (data_0 : (Sl Int)) (at_1 size_2 y : Int) (hy : F_spec_l1Take fu data_0 at_1 size_2 = some y) : Vm.Good E Try.prog 48 [(.rs data_0.z .u8 data_0.n data_0.f), (ii at_1), (ii size_2)] (enc_i64 y) :=
 fun_good E_ok (pc_good (pc := pc_a23 fu) hpc0 hpx0) (fn := Try.f48) (by kernel_rfl) (by kernel_rfl) (by kernel_rfl) (lpok_a23 fu) (fun d hd => out_i64_enc d _ hd) ((ev_a23 fu data_0 at_1 size_2).trans hy)
theorem good_a23 (fu : Nat) : GoodS E Try.prog 48 (S_a23 fu) := by
 intro xs o h y hy
 unfold S_a23 at h
 split at h
 ·rename_i za0_0 na0_0 fa0_0 a1_0 a2_0
  cases h
  exact goodv_a23 fu (⟨za0_0, na0_0, fa0_0⟩ : (Sl Int)) a1_0 a2_0 y hy
 ·cases h
def F_spec_SumWords_B2 {ρ : Type} (fu : Nat) (data0_0 : (Sl Int)) (i4_2 : Int) (k0 : Int → Option ρ) (h3_1 : Int) (go : Int → Option ρ) : Option ρ :=
 (bif (decide (h3_1 > 65535)) then (go (IntKind.wrap .i64 (h3_1 - 65535))) else (k0 h3_1))
def F_spec_SumWords_B0 {ρ : Type} (fu : Nat) (data0_0 : (Sl Int)) (k0 : Int → Option ρ) (h3_1 i4_2 : Int) (go : Int → Int → Option ρ) : Option ρ :=
 (bif (decide (i4_2 < ((data0_0.n : Nat) : Int))) then ((bif (decide (0 ≤ i4_2) && decide ((Int.toNat i4_2) < data0_0.n)) then some () else none : Option Unit).bind fun _ => (bif (decide ((IntKind.wrap .i64 (i4_2 + 1)) < ((data0_0.n : Nat) : Int))) then
  ((bif (decide (0 ≤ (IntKind.wrap .i64 (i4_2 + 1))) && decide ((Int.toNat (IntKind.wrap .i64 (i4_2 + 1))) < data0_0.n)) then some () else none : Option Unit).bind fun _ => (L (fun w2 go2 =>
  F_spec_SumWords_B2 fu data0_0 i4_2 (fun z76 => (go z76 (IntKind.wrap .i64 (i4_2 + 2)))) w2 go2) fu ((IntKind.wrap .i64 ((IntKind.wrap .i64 (h3_1 + (IntKind.wrap .i64 (256 * (IntKind.wrap .i64 (data0_0.f (Int.toNat i4_2))))))) + (IntKind.wrap .i64 (data0_0.f (Int.toNat (IntKind.wrap .i64 (i4_2 + 1))))))) : Int))) else
  (L (fun w2 go2 => F_spec_SumWords_B2 fu data0_0 i4_2 (fun z77 => (go z77 (IntKind.wrap .i64 (i4_2 + 2)))) w2 go2) fu ((IntKind.wrap .i64 (h3_1 + (IntKind.wrap .i64 (256 * (IntKind.wrap .i64 (data0_0.f (Int.toNat i4_2))))))) : Int)))) else
  (k0 h3_1))
def F_spec_SumWords (fu : Nat) (data_0 : (Sl Int)) : Option (Int) :=
 (L (fun w0 go0 => F_spec_SumWords_B0 fu data_0 (fun z78 => (some (IntKind.wrap .i64 (65535 - z78)))) w0.1 w0.2 (fun q0 q1 => go0 (q0, q1))) fu ((0, 0) : Int × Int))
def pc_a24 (fu : Nat) : Pc RT den := ⟨pcf0, fun _ => false, fun _ => false, pcd0, pcd0, pcd0, pcx0⟩
def msk_a24 (b : Nat) : List Nat := match b with | 0 => (1 :: 2 :: (rg 5 33 [])) | 100000 => (0 :: 1 :: (rg 4 34 [])) | 2 => (1 :: 2 :: (rg 5 33 [])) | 100002 => (1 :: (rg 5 33 [])) | _ => []
def ps_a24_2 : List (Pat RT) := (.flat (.rs .u8) :: .flat .q :: .flat .q :: .flat (.int .i64) :: .flat (.int .i64) :: (fq 33 []))
def os_a24_2 : List (OP RT) := []
def conv_a24_2 (r : Raw den ps_a24_2 os_a24_2) : ((Sl Int) × Int) × (Int) := ((r.1.1, r.1.2.2.2.2.1), r.1.2.2.2.1)
def back_a24_2 (c : (Sl Int) × Int) (w : Int) : St RT den := ⟨((.rs c.1.z .u8 c.1.n c.1.f) :: .q :: .q :: (ii w) :: (ii c.2) :: (qs 33 [])), []⟩
def Bk_a24_2 {ρ : Type} (fu : Nat) (c : (Sl Int) × Int) (k : Ex → St RT den → Option ρ) (w : Int) (go : (Int) → Option ρ) : Option ρ := F_spec_SumWords_B2 fu c.1 c.2 (fun a0 => k (.exit 2) ⟨((.rs c.1.z .u8 c.1.n c.1.f) :: .q :: .q :: (ii a0) :: (ii c.2) :: (qs 33 [])), []⟩) w go
def ps_a24_0 : List (Pat RT) := (.flat (.rs .u8) :: .flat .q :: .flat .q :: .flat (.int .i64) :: .flat (.int .i64) :: (fq 33 []))
def os_a24_0 : List (OP RT) := []
def conv_a24_0 (r : Raw den ps_a24_0 os_a24_0) : ((Sl Int)) × (Int × Int) := (r.1.1, (r.1.2.2.2.1, r.1.2.2.2.2.1))
def back_a24_0 (c : (Sl Int)) (w : Int × Int) : St RT den := ⟨((.rs c.z .u8 c.n c.f) :: .q :: .q :: (ii w.1) :: (ii w.2) :: (qs 33 [])), []⟩
def Bk_a24_0 {ρ : Type} (fu : Nat) (c : (Sl Int)) (k : Ex → St RT den → Option ρ) (w : Int × Int) (go : (Int × Int) → Option ρ) : Option ρ := F_spec_SumWords_B0 fu c (fun a0 => k (.exit 0) ⟨(.q :: .q :: .q :: (ii a0) :: (qs 34 [])), []⟩) w.1 w.2 (fun q0 q1 => go (q0, q1))
def lp_a24 (fu : Nat) : Lp RT den (Int) := ⟨fun b s k => match b with | 0 => handle ps_a24_0 os_a24_0 conv_a24_0 (Bk_a24_0 fu) fu s k | 2 => handle ps_a24_2 os_a24_2 conv_a24_2 (Bk_a24_2 fu) fu s k | _ => none, inl0⟩
theorem ev_a24 (fu : Nat) (data_0 : (Sl Int)) : evFun E (pc_a24 fu) msk_a24 (lp_a24 fu) out_i64 131 [(.rs data_0.z .u8 data_0.n data_0.f)] = F_spec_SumWords fu data_0 := by kernel_rfl
noncomputable def body_a24 : Code := Try.f131.body.getD .skip
noncomputable def lc_a24_0 : Code := ((loops 0 body_a24).getD 0 (0, .skip)).2
theorem round_a24_0 (fu : Nat) : RoundOk E (pc_a24 fu) msk_a24 (lp_a24 fu) 0 lc_a24_0 back_a24_0 0 100000 0 (Bk_a24_0 fu) := fun it k c w => by kernel_rfl
theorem lpok_a24_0 (fu : Nat) : LpAt E (pc_a24 fu) msk_a24 (lp_a24 fu) 0 0 100000 0 lc_a24_0 :=
 handle_ok (ps := ps_a24_0) (os := os_a24_0) (conv := conv_a24_0) (B := Bk_a24_0 fu) (fu := fu) back_a24_0 (fun raw => by kernel_rfl) 0 (fun c w => by kernel_rfl) (round_a24_0 fu)
noncomputable def lc_a24_2 : Code := ((loops 0 body_a24).getD 1 (0, .skip)).2
theorem round_a24_2 (fu : Nat) : RoundOk E (pc_a24 fu) msk_a24 (lp_a24 fu) 2 lc_a24_2 back_a24_2 2 100002 0 (Bk_a24_2 fu) := fun it k c w => by kernel_rfl
theorem lpok_a24_2 (fu : Nat) : LpAt E (pc_a24 fu) msk_a24 (lp_a24 fu) 2 2 100002 2 lc_a24_2 :=
 handle_ok (ps := ps_a24_2) (os := os_a24_2) (conv := conv_a24_2) (B := Bk_a24_2 fu) (fu := fu) back_a24_2 (fun raw => by kernel_rfl) 0 (fun c w => by kernel_rfl) (round_a24_2 fu)
theorem lpok_a24 (fu : Nat) : LpOk E (pc_a24 fu) 0 msk_a24 (lp_a24 fu) (loops 0 body_a24) := lp_nil (loop_all 2 (by kernel_rfl) fun i hi => match i, hi with
 | 0, _ => by
  have h : (loops 0 body_a24).getD 0 (0, .skip) = (0, lc_a24_0) := by kernel_rfl
  rw [h]; exact lpok_a24_0 fu
 | 1, _ => by
  have h : (loops 0 body_a24).getD 1 (0, .skip) = (2, lc_a24_2) := by kernel_rfl
  rw [h]; exact lpok_a24_2 fu
 | i + 2, hi => absurd hi (by omega)) (by kernel_rfl)
def S_a24 (fu : Nat) (xs : List (D RT den)) : Option (Out RT den) := match xs with | [.rs za0_0 .u8 na0_0 fa0_0] => some ⟨Int, F_spec_SumWords fu (⟨za0_0, na0_0, fa0_0⟩ : (Sl Int)), enc_i64, fun _ => true⟩ | _ => none
theorem goodv_a24 (fu : Nat) (data_0 : (Sl Int)) (y : Int) (hy : F_spec_SumWords fu data_0 = some y) : Vm.Good E Try.prog 131 [(.rs data_0.z .u8 data_0.n data_0.f)] (enc_i64 y) :=
 fun_good E_ok (pc_good (pc := pc_a24 fu) hpc0 hpx0) (fn := Try.f131) (by kernel_rfl) (by kernel_rfl) (by kernel_rfl) (lpok_a24 fu) (fun d hd => out_i64_enc d _ hd) ((ev_a24 fu data_0).trans hy)
theorem good_a24 (fu : Nat) : GoodS E Try.prog 131 (S_a24 fu) := by
 intro xs o h y hy
 unfold S_a24 at h
 split at h
 ·rename_i za0_0 na0_0 fa0_0
  cases h
  exact goodv_a24 fu (⟨za0_0, na0_0, fa0_0⟩ : (Sl Int)) y hy
 ·cases h
def F_spec_WholeSum (fu : Nat) (data_0 : (Sl Int)) : Option (Bool) :=
 ((F_spec_SumWords fu data_0).bind fun y75 => (some (y75 == 0)))
def pcf_a25 (fu f : Nat) (xs : List (D RT den)) : Option (Out RT den) := match f with | 131 => S_a24 fu xs | _ => none
def pc_a25 (fu : Nat) : Pc RT den := ⟨pcf_a25 fu, fun _ => false, fun _ => false, pcd0, pcd0, pcd0, pcx0⟩
def msk_a25 (b : Nat) : List Nat := []
def lp_a25 (fu : Nat) : Lp RT den (Bool) := ⟨fun b s k => none, inl0⟩
theorem ev_a25 (fu : Nat) (data_0 : (Sl Int)) : evFun E (pc_a25 fu) msk_a25 (lp_a25 fu) out_bo 105 [(.rs data_0.z .u8 data_0.n data_0.f)] = F_spec_WholeSum fu data_0 := by kernel_rfl
noncomputable def body_a25 : Code := Try.f105.body.getD .skip
theorem lpok_a25 (fu : Nat) : LpOk E (pc_a25 fu) 0 msk_a25 (lp_a25 fu) (loops 0 body_a25) := lp_nil (loop_nil (by kernel_rfl)) (by kernel_rfl)
def S_a25 (fu : Nat) (xs : List (D RT den)) : Option (Out RT den) := match xs with | [.rs za0_0 .u8 na0_0 fa0_0] => some ⟨Bool, F_spec_WholeSum fu (⟨za0_0, na0_0, fa0_0⟩ : (Sl Int)), enc_bo, fun _ => true⟩ | _ => none
theorem hpc_a25 (fu : Nat) : HpcOk E Try.prog (pcf_a25 fu) := by
 intro f xs o h
 unfold pcf_a25 at h
 split at h
 ·exact good_a24 fu xs o h
 ·cases h
theorem goodv_a25 (fu : Nat) (data_0 : (Sl Int)) (y : Bool) (hy : F_spec_WholeSum fu data_0 = some y) : Vm.Good E Try.prog 105 [(.rs data_0.z .u8 data_0.n data_0.f)] (enc_bo y) :=
 fun_good E_ok (pc_good (pc := pc_a25 fu) (hpc_a25 fu) hpx0) (fn := Try.f105) (by kernel_rfl) (by kernel_rfl) (by kernel_rfl) (lpok_a25 fu) (fun d hd => out_bo_enc d _ hd) ((ev_a25 fu data_0).trans hy)
theorem good_a25 (fu : Nat) : GoodS E Try.prog 105 (S_a25 fu) := by
 intro xs o h y hy
 unfold S_a25 at h
 split at h
 ·rename_i za0_0 na0_0 fa0_0
  cases h
  exact goodv_a25 fu (⟨za0_0, na0_0, fa0_0⟩ : (Sl Int)) y hy
 ·cases h
def F_spec_ParsePacket (fu : Nat) (data_0 : (Sl Int)) : Option (S_impl_PacketResult) :=
 ((((F_spec_l1In fu ((data_0.n : Nat) : Int) 24 224).bind fun y65 => (bif (!y65) then (some true) else ((bif (decide (0 ≤ (0 : Int)) && decide ((Int.toNat 0) < data_0.n)) then some () else
  none : Option Unit).bind fun _ => (bif ((data_0.f (Int.toNat 0)) != 69) then (some true) else ((F_spec_l1Take fu data_0 2 2).bind fun y66 => (some (y66 != ((data_0.n : Nat) : Int)))))))) : Option Bool).bind fun m67 =>
  (bif m67 then (some (⟨5, (⟨0, 0, 0, 0, 0, (⟨(some true), 0, (fun _ => dflt .u8)⟩ : (Sl Int))⟩ : S_impl_Packet)⟩ : S_impl_PacketResult)) else ((bif (decide ((0 : Int) ≤ 20) &&
  decide ((Int.toNat 20) ≤ data_0.n)) then some () else none : Option Unit).bind fun _ => ((F_spec_WholeSum fu (⟨data_0.z, ((Int.toNat 20) - 0), (fun i => data_0.f (0 + i))⟩ : (Sl Int))).bind fun y68 =>
  (bif (!y68) then (some (⟨6, (⟨0, 0, 0, 0, 0, (⟨(some true), 0, (fun _ => dflt .u8)⟩ : (Sl Int))⟩ : S_impl_Packet)⟩ : S_impl_PacketResult)) else ((((bif (decide (0 ≤ (6 : Int)) &&
  decide ((Int.toNat 6) < data_0.n)) then some () else none : Option Unit).bind fun _ => (bif ((data_0.f (Int.toNat 6)) != 0) then (some true) else ((bif (decide (0 ≤ (7 : Int)) &&
  decide ((Int.toNat 7) < data_0.n)) then some () else none : Option Unit).bind fun _ => (bif ((data_0.f (Int.toNat 7)) != 0) then (some true) else ((bif (decide (0 ≤ (9 : Int)) &&
  decide ((Int.toNat 9) < data_0.n)) then some () else none : Option Unit).bind fun _ => (bif ((data_0.f (Int.toNat 9)) != 6) then ((bif (decide (0 ≤ (9 : Int)) && decide ((Int.toNat 9) < data_0.n)) then
  some () else none : Option Unit).bind fun _ => (some ((data_0.f (Int.toNat 9)) != 17))) else (some false))))))) : Option Bool).bind fun m69 => (bif m69 then (some (⟨1, (⟨0, 0,
  0, 0, 0, (⟨(some true), 0, (fun _ => dflt .u8)⟩ : (Sl Int))⟩ : S_impl_Packet)⟩ : S_impl_PacketResult)) else ((F_spec_l1Take fu data_0 12 4).bind fun y70 => ((F_spec_l1Take fu data_0 16 4).bind fun y71 =>
  ((bif (decide (0 ≤ (9 : Int)) && decide ((Int.toNat 9) < data_0.n)) then some () else none : Option Unit).bind fun _ => ((F_spec_l1Take fu data_0 20 2).bind fun y72 =>
  ((F_spec_l1Take fu data_0 22 2).bind fun y73 => ((bif (decide ((24 : Int) ≤ ((data_0.n : Nat) : Int)) && decide (data_0.n ≤ data_0.n)) then some () else none : Option Unit).bind fun _ =>
  (bif (decide ((data_0.n - 24) ≤ 9223372036854775807) && decide ((data_0.n - 24) * 1 ≤ 140737488355328)) then (some (⟨0, (⟨y70, y71, (IntKind.wrap .i64 (data_0.f (Int.toNat 9))),
  y72, y73, (⟨none, (data_0.n - 24), (fun i => data_0.f (24 + i))⟩ : (Sl Int))⟩ : S_impl_Packet)⟩ : S_impl_PacketResult)) else none))))))))))))))
def pcf_a26 (fu f : Nat) (xs : List (D RT den)) : Option (Out RT den) := match f with | 48 => S_a23 fu xs | 96 => S_a12 fu xs | 105 => S_a25 fu xs | _ => none
def pc_a26 (fu : Nat) : Pc RT den := ⟨pcf_a26 fu, fun _ => false, fun _ => false, pcd0, pcd0, pcd0, pcx0⟩
def msk_a26 (b : Nat) : List Nat := match b with | 200002 => [20] | 200006 => [48] | _ => []
def lp_a26 (fu : Nat) : Lp RT den (S_impl_PacketResult) := ⟨fun b s k => none, inl0⟩
theorem ev_a26 (fu : Nat) (data_0 : (Sl Int)) : evFun E (pc_a26 fu) msk_a26 (lp_a26 fu) out_impl_PacketResult 55 [(.rs data_0.z .u8 data_0.n data_0.f)] = F_spec_ParsePacket fu data_0 := by kernel_rfl
noncomputable def body_a26 : Code := Try.f55.body.getD .skip
theorem lpok_a26 (fu : Nat) : LpOk E (pc_a26 fu) 0 msk_a26 (lp_a26 fu) (loops 0 body_a26) := lp_nil (loop_nil (by kernel_rfl)) (by kernel_rfl)
def S_a26 (fu : Nat) (xs : List (D RT den)) : Option (Out RT den) := match xs with | [.rs za0_0 .u8 na0_0 fa0_0] => some ⟨S_impl_PacketResult, F_spec_ParsePacket fu (⟨za0_0, na0_0, fa0_0⟩ : (Sl Int)), enc_impl_PacketResult, fun _ => true⟩ | _ => none
theorem hpc_a26 (fu : Nat) : HpcOk E Try.prog (pcf_a26 fu) := by
 intro f xs o h
 unfold pcf_a26 at h
 split at h
 ·exact good_a23 fu xs o h
 ·exact good_a12 fu xs o h
 ·exact good_a25 fu xs o h
 ·cases h
theorem goodv_a26 (fu : Nat) (data_0 : (Sl Int)) (y : S_impl_PacketResult) (hy : F_spec_ParsePacket fu data_0 = some y) : Vm.Good E Try.prog 55 [(.rs data_0.z .u8 data_0.n data_0.f)] (enc_impl_PacketResult y) :=
 fun_good E_ok (pc_good (pc := pc_a26 fu) (hpc_a26 fu) hpx0) (fn := Try.f55) (by kernel_rfl) (by kernel_rfl) (by kernel_rfl) (lpok_a26 fu) (fun d hd => out_impl_PacketResult_enc d _ hd) ((ev_a26 fu data_0).trans hy)
theorem good_a26 (fu : Nat) : GoodS E Try.prog 55 (S_a26 fu) := by
 intro xs o h y hy
 unfold S_a26 at h
 split at h
 ·rename_i za0_0 na0_0 fa0_0
  cases h
  exact goodv_a26 fu (⟨za0_0, na0_0, fa0_0⟩ : (Sl Int)) y hy
 ·cases h
def F_spec_l5For_B0 {ρ : Type} (fu : Nat) (c0_0 : Int) (c0_1 : (Sl S_impl_Backend)) (c0_2 : (Sl S_impl_Vip)) (o0_4 o0_5 o0_6 o0_7 o0_8 : Int) (k0 : Int → Int → Int → Int → (Sl Int) → Option ρ) (k1 : Option ρ) (i5_3 : Int) (go : Int → Option ρ) : Option ρ :=
 (bif (decide (i5_3 < ((c0_2.n : Nat) : Int))) then ((bif (decide (0 ≤ i5_3) && decide ((Int.toNat i5_3) < c0_2.n)) then some () else none : Option Unit).bind fun _ => (((bif ((c0_2.f (Int.toNat i5_3)).Address == o0_5) then
  (bif ((c0_2.f (Int.toNat i5_3)).Port == o0_8) then (some ((c0_2.f (Int.toNat i5_3)).Proto == o0_6)) else (some false)) else (some false)) : Option Bool).bind fun m80 => (bif m80 then
  (k0 i5_3 (c0_2.f (Int.toNat i5_3)).Address (c0_2.f (Int.toNat i5_3)).Port (c0_2.f (Int.toNat i5_3)).Proto (c0_2.f (Int.toNat i5_3)).Names) else (go (IntKind.wrap .i64 (i5_3 + 1)))))) else
  k1)
def F_spec_l5For (fu : Nat) (c_0 : S_impl_Config) (f_1 : S_impl_Flow) : Option (Int) :=
 (L (fun w0 go0 => F_spec_l5For_B0 fu c_0.Version c_0.Backends c_0.Vips f_1.From f_1.To f_1.Proto f_1.FromP f_1.ToP (fun z81 z82 z83 z84 z85 => (some z81)) (some (-1)) w0 go0) fu (0 : Int))
def pc_a27 (fu : Nat) : Pc RT den := ⟨pcf0, fun _ => false, fun _ => false, pcd0, pcd0, pcd0, pcx0⟩
def msk_a27 (b : Nat) : List Nat := match b with | 0 => (1 :: 2 :: 4 :: (rg 6 37 [])) | 100000 => (0 :: 1 :: 2 :: 3 :: (rg 5 38 [])) | 200005 => [41] | _ => []
def ps_a27_0 : List (Pat RT) := (.rptr [(.int .i64), (.rs .impl_Backend), (.rs .impl_Vip)] :: .flat .q :: .flat .q :: .flat (.ref 0 0) :: .flat .q :: .flat (.int .i64) :: (fq 37 []))
def os_a27_0 : List (OP RT) := [.box false [(.int .i64), (.int .i64), (.int .i64), (.int .i64), (.int .i64)]]
def conv_a27_0 (r : Raw den ps_a27_0 os_a27_0) : (Yb0) × (Int) := ((r.1.1.1, r.1.1.2.1, r.1.1.2.2.1, r.2.1.1, r.2.1.2.1, r.2.1.2.2.1, r.2.1.2.2.2.1, r.2.1.2.2.2.2.1), (e5 r.1).1)
def back_a27_0 (c : Yb0) (w : Int) : St RT den := ⟨((.rptr [(ii c.1), (.rs c.2.1.z .impl_Backend c.2.1.n c.2.1.f), (.rs c.2.2.1.z .impl_Vip c.2.2.1.n c.2.2.1.f)]) :: .q :: .q :: (.ref 0 0) :: .q :: (ii w) :: (qs 37 [])), [(.box false [(ii c.2.2.2.1), (ii c.2.2.2.2.1), (ii (e5 c).1), (ii (e5 c).2.1), (ii (e5 c).2.2)])]⟩
def Bk_a27_0 {ρ : Type} (fu : Nat) (c : Yb0) (k : Ex → St RT den → Option ρ) (w : Int) (go : (Int) → Option ρ) : Option ρ := F_spec_l5For_B0 fu c.1 c.2.1 c.2.2.1 c.2.2.2.1 c.2.2.2.2.1 (e5 c).1 (e5 c).2.1 (e5 c).2.2 (fun a0 a1 a2 a3 a4 => k .ret ⟨(qs 4 ((ii a0) :: (qs 38 []))), [(.box false [(ii c.2.2.2.1), (ii c.2.2.2.2.1), (ii (e5 c).1), (ii (e5 c).2.1), (ii (e5 c).2.2)]), (.box false [(ii a1), (ii a2), (ii a3), (.rs a4.z .i64 a4.n a4.f)])]⟩) (k (.exit 0) ⟨(qs 43 []), [(.box false [(ii c.2.2.2.1), (ii c.2.2.2.2.1), (ii (e5 c).1), (ii (e5 c).2.1), (ii (e5 c).2.2)])]⟩) w go
def lp_a27 (fu : Nat) : Lp RT den (Int) := ⟨fun b s k => match b with | 0 => handle ps_a27_0 os_a27_0 conv_a27_0 (Bk_a27_0 fu) fu s k | _ => none, inl0⟩
theorem ev_a27 (fu : Nat) (c_0 : S_impl_Config) (f_1 : S_impl_Flow) : evFun E (pc_a27 fu) msk_a27 (lp_a27 fu) out_i64 56 [(.rptr [(ii c_0.Version), (.rs c_0.Backends.z .impl_Backend c_0.Backends.n c_0.Backends.f), (.rs c_0.Vips.z .impl_Vip c_0.Vips.n c_0.Vips.f)]), (.agg [(ii f_1.From), (ii f_1.To), (ii f_1.Proto), (ii f_1.FromP), (ii f_1.ToP)])] = F_spec_l5For fu c_0 f_1 := by kernel_rfl
noncomputable def body_a27 : Code := Try.f56.body.getD .skip
noncomputable def lc_a27_0 : Code := ((loops 0 body_a27).getD 0 (0, .skip)).2
theorem round_a27_0 (fu : Nat) : RoundOk E (pc_a27 fu) msk_a27 (lp_a27 fu) 0 lc_a27_0 back_a27_0 0 100000 1 (Bk_a27_0 fu) := fun it k c w => by kernel_rfl
theorem lpok_a27_0 (fu : Nat) : LpAt E (pc_a27 fu) msk_a27 (lp_a27 fu) 0 0 100000 0 lc_a27_0 :=
 handle_ok (ps := ps_a27_0) (os := os_a27_0) (conv := conv_a27_0) (B := Bk_a27_0 fu) (fu := fu) back_a27_0 (fun raw => by kernel_rfl) 1 (fun c w => by kernel_rfl) (round_a27_0 fu)
theorem lpok_a27 (fu : Nat) : LpOk E (pc_a27 fu) 0 msk_a27 (lp_a27 fu) (loops 0 body_a27) := lp_nil (loop_all 1 (by kernel_rfl) fun i hi => match i, hi with
 | 0, _ => by
  have h : (loops 0 body_a27).getD 0 (0, .skip) = (0, lc_a27_0) := by kernel_rfl
  rw [h]; exact lpok_a27_0 fu
 | i + 1, hi => absurd hi (by omega)) (by kernel_rfl)
def S_a27 (fu : Nat) (xs : List (D RT den)) : Option (Out RT den) := match xs with | [.rptr (.int .i64 a0_1 :: .rs za0_2 .impl_Backend na0_2 fa0_2 :: .rs za0_3 .impl_Vip na0_3 fa0_3 :: ra0), .agg [.int .i64 a1_1, .int .i64 a1_2, .int .i64 a1_3, .int .i64 a1_4, .int .i64 a1_5]] => some ⟨Int, F_spec_l5For fu (⟨a0_1, (⟨za0_2, na0_2, fa0_2⟩ : (Sl S_impl_Backend)), (⟨za0_3, na0_3, fa0_3⟩ : (Sl S_impl_Vip))⟩ : S_impl_Config) (⟨a1_1, a1_2, a1_3, a1_4, a1_5⟩ : S_impl_Flow), enc_i64, fun _ => true⟩ | _ => none
theorem goodv_a27 (fu : Nat) (c_0 : S_impl_Config) (f_1 : S_impl_Flow) (y : Int) (hy : F_spec_l5For fu c_0 f_1 = some y) : Vm.Good E Try.prog 56 [(.rptr [(ii c_0.Version), (.rs c_0.Backends.z .impl_Backend c_0.Backends.n c_0.Backends.f), (.rs c_0.Vips.z .impl_Vip c_0.Vips.n c_0.Vips.f)]), (.agg [(ii f_1.From), (ii f_1.To), (ii f_1.Proto), (ii f_1.FromP), (ii f_1.ToP)])] (enc_i64 y) :=
 fun_good E_ok (pc_good (pc := pc_a27 fu) hpc0 hpx0) (fn := Try.f56) (by kernel_rfl) (by kernel_rfl) (by kernel_rfl) (lpok_a27 fu) (fun d hd => out_i64_enc d _ hd) ((ev_a27 fu c_0 f_1).trans hy)
theorem good_a27 (fu : Nat) : GoodS E Try.prog 56 (S_a27 fu) := by
 intro xs o h y hy
 unfold S_a27 at h
 split at h
 ·rename_i a0_1 za0_2 na0_2 fa0_2 za0_3 na0_3 fa0_3 ra0 a1_1 a1_2 a1_3 a1_4 a1_5
  cases h
  exact (goodv_a27 fu (⟨a0_1, (⟨za0_2, na0_2, fa0_2⟩ : (Sl S_impl_Backend)), (⟨za0_3, na0_3, fa0_3⟩ : (Sl S_impl_Vip))⟩ : S_impl_Config) (⟨a1_1, a1_2, a1_3, a1_4, a1_5⟩ : S_impl_Flow) y hy).sub ⟨Sub.of_eq ra0 rfl, .refl _, trivial⟩
 ·cases h
def F_spec_l1Bytes_H_B0 {ρ : Type} (fu : Nat) (n0_0 : Int) (k0 : Nat → Nat → (Nat → Int) → Option ρ) (out5_1 : Nat) (k6_2 : Int) (on0_3 : Nat) (of0_4 : (Nat → Int)) (go : Nat → Int → Nat → (Nat → Int) → Option ρ) : Option ρ :=
 (bif (decide (k6_2 ≥ 0)) then ((bif (decide (0 ≤ (IntKind.wrap .u64 (IntKind.wrap .i64 (8 * k6_2))))) then some () else none : Option Unit).bind fun _ => (bif (decide ((out5_1 + 1) ≤ 9223372036854775807) &&
  decide ((out5_1 + 1) * 1 ≤ 140737488355328)) then (go (out5_1 + 1) (IntKind.wrap .i64 (k6_2 - 1)) (out5_1 + 1) (fun i => if i < out5_1 then (of0_4 i) else ((fun i =>
  ([(IntKind.wrap .u8 (shrInt .i64 n0_0 (IntKind.wrap .u64 (IntKind.wrap .i64 (8 * k6_2)))))] : List (Int)).getD i (dflt .u8)) (i - out5_1)))) else none)) else (k0 out5_1 on0_3 of0_4))
def F_spec_l1Bytes_H (fu : Nat) (n_0 size_1 : Int) : Option ((Sl Int)) :=
 (L (fun w0 go0 => F_spec_l1Bytes_H_B0 fu n_0 (fun z104 z105 z106 => (some (⟨none, z104, z106⟩ : (Sl Int)))) w0.1 w0.2.1 w0.2.2.1 w0.2.2.2 (fun q0 q1 q2 q3 => go0 (q0, q1, q2,
  q3))) fu ((0, (IntKind.wrap .i64 (size_1 - 1)), 0, (fun _ => dflt .u8)) : Nat × Int × Nat × (Nat → Int)))
def pc_a28 (fu : Nat) : Pc RT den := ⟨pcf0, fun _ => false, fun _ => false, pcd0, pcd0, pcd0, pcx0⟩
def msk_a28 (b : Nat) : List Nat := match b with | 0 => (1 :: 2 :: 3 :: 4 :: (rg 7 17 [])) | 100000 => (0 :: 1 :: 2 :: 3 :: (rg 6 18 [])) | 300000 => [5] | _ => []
def ps_a28_0 : List (Pat RT) := (.flat (.int .i64) :: (fq 4 (.flat (.os 0) :: .flat (.int .i64) :: (fq 17 []))))
def os_a28_0 : List (OP RT) := [.row false .u8]
def conv_a28_0 (r : Raw den ps_a28_0 os_a28_0) : (Int) × (Nat × Int × Nat × (Nat → Int)) := (r.1.1, ((e5 r.1).1, (e5 r.1).2.1, r.2.1.1, r.2.1.2))
def back_a28_0 (c : Int) (w : Nat × Int × Nat × (Nat → Int)) : St RT den := ⟨((ii c) :: (qs 4 ((.os 0 w.1) :: (ii w.2.1) :: (qs 17 [])))), [(.row false .u8 w.2.2.1 w.2.2.2)]⟩
def Bk_a28_0 {ρ : Type} (fu : Nat) (c : Int) (k : Ex → St RT den → Option ρ) (w : Nat × Int × Nat × (Nat → Int)) (go : (Nat × Int × Nat × (Nat → Int)) → Option ρ) : Option ρ := F_spec_l1Bytes_H_B0 fu c (fun a0 a1 a2 => k (.exit 0) ⟨(qs 5 ((.os 0 a0) :: (qs 18 []))), [(.row false .u8 a1 a2)]⟩) w.1 w.2.1 w.2.2.1 w.2.2.2 (fun q0 q1 q2 q3 => go (q0, q1, q2, q3))
def lp_a28 (fu : Nat) : Lp RT den ((Sl Int)) := ⟨fun b s k => match b with | 0 => handle ps_a28_0 os_a28_0 conv_a28_0 (Bk_a28_0 fu) fu s k | _ => none, inl0⟩
theorem ev_a28 (fu : Nat) (n_0 size_1 : Int) : evFunX E false (pc_a28 fu) msk_a28 (lp_a28 fu) out_sl_u8_H 76 [(ii n_0), (ii size_1)] [] = F_spec_l1Bytes_H fu n_0 size_1 := by kernel_rfl
noncomputable def body_a28 : Code := Try.f76.body.getD .skip
noncomputable def lc_a28_0 : Code := ((loops 0 body_a28).getD 0 (0, .skip)).2
theorem round_a28_0 (fu : Nat) : RoundOk E (pc_a28 fu) msk_a28 (lp_a28 fu) 0 lc_a28_0 back_a28_0 0 100000 1 (Bk_a28_0 fu) := fun it k c w => by kernel_rfl
theorem lpok_a28_0 (fu : Nat) : LpAt E (pc_a28 fu) msk_a28 (lp_a28 fu) 0 0 100000 0 lc_a28_0 :=
 handle_ok (ps := ps_a28_0) (os := os_a28_0) (conv := conv_a28_0) (B := Bk_a28_0 fu) (fu := fu) back_a28_0 (fun raw => by kernel_rfl) 1 (fun c w => by kernel_rfl) (round_a28_0 fu)
theorem lpok_a28 (fu : Nat) : LpOk E (pc_a28 fu) 0 msk_a28 (lp_a28 fu) (loops 0 body_a28) := lp_nil (loop_all 1 (by kernel_rfl) fun i hi => match i, hi with
 | 0, _ => by
  have h : (loops 0 body_a28).getD 0 (0, .skip) = (0, lc_a28_0) := by kernel_rfl
  rw [h]; exact lpok_a28_0 fu
 | i + 1, hi => absurd hi (by omega)) (by kernel_rfl)
def S_a28 (fu : Nat) (xs : List (D RT den)) (ins : List (Ob RT den)) : Option (OutX RT den) := match xs, ins with | [.int .i64 a0_0, .int .i64 a1_0], [] => some ⟨(Sl Int), F_spec_l1Bytes_H fu a0_0 a1_0, enc_sl_u8_H⟩ | _, _ => none
theorem goodv_a28 (fu : Nat) (n_0 size_1 : Int) (y : (Sl Int)) (hy : F_spec_l1Bytes_H fu n_0 size_1 = some y) : GoodX E Try.prog 76 [(ii n_0), (ii size_1)] [] (enc_sl_u8_H y).1 (enc_sl_u8_H y).2 :=
 funX_good (ke := false) E_ok (pc_good (pc := pc_a28 fu) hpc0 hpx0) (fn := Try.f76) (by kernel_rfl) (by kernel_rfl) (by kernel_rfl) (lpok_a28 fu) (by kernel_rfl) (Nat.zero_le _) (fun d os hd => out_sl_u8_H_enc d os _ hd) ((ev_a28 fu n_0 size_1).trans hy)
theorem good_a28 (fu : Nat) : GoodSX E Try.prog 76 (S_a28 fu) := by
 intro xs ins o h y hy
 unfold S_a28 at h
 split at h
 ·rename_i a0_0 a1_0
  cases h
  exact goodv_a28 fu a0_0 a1_0 y hy
 ·cases h
def F_spec_l2Head_H (fu : Nat) (proto_0 from_1 to_2 n_3 : Int) : Option ((Sl Int)) :=
 ((F_spec_l1Bytes_H fu (IntKind.wrap .i64 (20 + n_3)) 2).bind fun y111 => (bif (decide ((2 + y111.n) ≤ 9223372036854775807) && decide ((2 + y111.n) * 1 ≤ 140737488355328)) then
  (bif (decide (((2 + y111.n) + 6) ≤ 9223372036854775807) && decide (((2 + y111.n) + 6) * 1 ≤ 140737488355328)) then ((F_spec_l1Bytes_H fu from_1 4).bind fun y112 =>
  ((F_spec_l1Bytes_H fu to_2 4).bind fun y113 => (bif (decide ((y112.n + y113.n) ≤ 9223372036854775807) && decide ((y112.n + y113.n) * 1 ≤ 140737488355328)) then (bif (decide (((2 + y111.n) + 6) ≤ 9223372036854775807) &&
  decide (((2 + y111.n) + 6) * 1 ≤ 140737488355328)) then (bif (decide ((((2 + y111.n) + 6) + 2) ≤ 9223372036854775807) && decide ((((2 + y111.n) + 6) + 2) * 1 ≤ 140737488355328)) then
  (bif (decide (((((2 + y111.n) + 6) + 2) + (y112.n + y113.n)) ≤ 9223372036854775807) && decide (((((2 + y111.n) + 6) + 2) + (y112.n + y113.n)) * 1 ≤ 140737488355328)) then (bif (decide (((2 + y111.n) + 6) ≤ 9223372036854775807) &&
  decide (((2 + y111.n) + 6) * 1 ≤ 140737488355328)) then ((F_spec_SumWords fu (⟨none, ((((2 + y111.n) + 6) + 2) + (y112.n + y113.n)), (fun i => if i < (((2 + y111.n) + 6) + 2) then
  ((fun i => if i < ((2 + y111.n) + 6) then ((fun i => if i < (2 + y111.n) then ((fun i => if i < 2 then ((fun i => ([69, 0] : List (Int)).getD i (dflt .u8)) i) else (y111.f (i - 2))) i) else
  ((fun i => ([0, 0, 0, 0, 64, (IntKind.wrap .u8 proto_0)] : List (Int)).getD i (dflt .u8)) (i - (2 + y111.n)))) i) else ((fun i => ([0, 0] : List (Int)).getD i (dflt .u8)) (i - ((2 + y111.n) + 6)))) i) else
  ((fun i => if i < y112.n then (y112.f i) else (y113.f (i - y112.n))) (i - (((2 + y111.n) + 6) + 2))))⟩ : (Sl Int))).bind fun y114 => ((F_spec_l1Bytes_H fu y114 2).bind fun y115 =>
  (bif (decide ((((2 + y111.n) + 6) + y115.n) ≤ 9223372036854775807) && decide ((((2 + y111.n) + 6) + y115.n) * 1 ≤ 140737488355328)) then (bif (decide (((((2 + y111.n) + 6) + y115.n) + (y112.n + y113.n)) ≤ 9223372036854775807) &&
  decide (((((2 + y111.n) + 6) + y115.n) + (y112.n + y113.n)) * 1 ≤ 140737488355328)) then (some (⟨none, ((((2 + y111.n) + 6) + y115.n) + (y112.n + y113.n)), (fun i => if i < (((2 + y111.n) + 6) + y115.n) then
  ((fun i => if i < ((2 + y111.n) + 6) then ((fun i => if i < (2 + y111.n) then ((fun i => if i < 2 then ((fun i => ([69, 0] : List (Int)).getD i (dflt .u8)) i) else (y111.f (i - 2))) i) else
  ((fun i => ([0, 0, 0, 0, 64, (IntKind.wrap .u8 proto_0)] : List (Int)).getD i (dflt .u8)) (i - (2 + y111.n)))) i) else (y115.f (i - ((2 + y111.n) + 6)))) i) else ((fun i => if i < y112.n then
  (y112.f i) else (y113.f (i - y112.n))) (i - (((2 + y111.n) + 6) + y115.n))))⟩ : (Sl Int))) else none) else none))) else none) else none) else none) else none) else none))) else
  none) else none))
def pcf_a29 (fu f : Nat) (xs : List (D RT den)) : Option (Out RT den) := match f with | 131 => S_a24 fu xs | _ => none
def pcx_a29 (fu f : Nat) (xs : List (D RT den)) (ins : List (Ob RT den)) : Option (OutX RT den) := match f with | 76 => S_a28 fu xs ins | _ => none
def pcd_a29 : Nat → Bool := fun _ => false
def pc_a29 (fu : Nat) : Pc RT den := ⟨pcf_a29 fu, fun f => match f with | 76 => true | _ => false, fun _ => false, pcd_a29, pcd0, pcd0, pcx_a29 fu⟩
def msk_a29 (b : Nat) : List Nat := match b with | 600001 => [990] | 800001 => (rg 4 39 []) | 600002 => [3990] | 800002 => (rg 3 6 (rg 10 33 [])) | 600004 => [3990] | 800004 => (rg 0 9 (rg 11 32 [])) | _ => []
def lp_a29 (fu : Nat) : Lp RT den ((Sl Int)) := ⟨fun b s k => none, inl0⟩
theorem ev_a29 (fu : Nat) (proto_0 from_1 to_2 n_3 : Int) : evFunX E false (pc_a29 fu) msk_a29 (lp_a29 fu) out_sl_u8_H 132 [(ii proto_0), (ii from_1), (ii to_2), (ii n_3)] [] = F_spec_l2Head_H fu proto_0 from_1 to_2 n_3 := by kernel_rfl
noncomputable def body_a29 : Code := Try.f132.body.getD .skip
theorem lpok_a29 (fu : Nat) : LpOk E (pc_a29 fu) 0 msk_a29 (lp_a29 fu) (loops 0 body_a29) := lp_nil (loop_nil (by kernel_rfl)) (by kernel_rfl)
def S_a29 (fu : Nat) (xs : List (D RT den)) (ins : List (Ob RT den)) : Option (OutX RT den) := match xs, ins with | [.int .i64 a0_0, .int .i64 a1_0, .int .i64 a2_0, .int .i64 a3_0], [] => some ⟨(Sl Int), F_spec_l2Head_H fu a0_0 a1_0 a2_0 a3_0, enc_sl_u8_H⟩ | _, _ => none
theorem hpc_a29 (fu : Nat) : HpcOk E Try.prog (pcf_a29 fu) := by
 intro f xs o h
 unfold pcf_a29 at h
 split at h
 ·exact good_a24 fu xs o h
 ·cases h
theorem hpx_a29 (fu : Nat) : HpxOk E Try.prog pcd_a29 pcd0 (pcx_a29 fu) := by
 intro f xs ins o h
 unfold pcx_a29 at h
 split at h
 ·exact good_a28 fu xs ins o h
 ·cases h
theorem goodv_a29 (fu : Nat) (proto_0 from_1 to_2 n_3 : Int) (y : (Sl Int)) (hy : F_spec_l2Head_H fu proto_0 from_1 to_2 n_3 = some y) : GoodX E Try.prog 132 [(ii proto_0), (ii from_1), (ii to_2), (ii n_3)] [] (enc_sl_u8_H y).1 (enc_sl_u8_H y).2 :=
 funX_good (ke := false) E_ok (pc_good (pc := pc_a29 fu) (hpc_a29 fu) (hpx_a29 fu)) (fn := Try.f132) (by kernel_rfl) (by kernel_rfl) (by kernel_rfl) (lpok_a29 fu) (by kernel_rfl) (Nat.zero_le _) (fun d os hd => out_sl_u8_H_enc d os _ hd) ((ev_a29 fu proto_0 from_1 to_2 n_3).trans hy)
theorem good_a29 (fu : Nat) : GoodSX E Try.prog 132 (S_a29 fu) := by
 intro xs ins o h y hy
 unfold S_a29 at h
 split at h
 ·rename_i a0_0 a1_0 a2_0 a3_0
  cases h
  exact goodv_a29 fu a0_0 a1_0 a2_0 a3_0 y hy
 ·cases h
def F_spec_l2Wrap_H (fu : Nat) (from_0 to_1 : Int) (inner_2 : (Sl Int)) : Option ((Sl Int)) :=
 ((F_spec_l2Head_H fu 47 from_0 to_1 (IntKind.wrap .i64 (4 + ((inner_2.n : Nat) : Int)))).bind fun y125 => (bif (decide ((y125.n + 4) ≤ 9223372036854775807) && decide ((y125.n + 4) * 1 ≤ 140737488355328)) then
  (bif (decide (((y125.n + 4) + inner_2.n) ≤ 9223372036854775807) && decide (((y125.n + 4) + inner_2.n) * 1 ≤ 140737488355328)) then (some (⟨none, ((y125.n + 4) + inner_2.n), (fun i =>
  if i < (y125.n + 4) then ((fun i => if i < y125.n then (y125.f i) else ((fun i => ([0, 0, 8, 0] : List (Int)).getD i (dflt .u8)) (i - y125.n))) i) else (inner_2.f (i - (y125.n + 4))))⟩ : (Sl Int))) else
  none) else none))
def pcx_a30 (fu f : Nat) (xs : List (D RT den)) (ins : List (Ob RT den)) : Option (OutX RT den) := match f with | 132 => S_a29 fu xs ins | _ => none
def pcd_a30 : Nat → Bool := fun _ => false
def pc_a30 (fu : Nat) : Pc RT den := ⟨pcf0, fun f => match f with | 132 => true | _ => false, fun _ => false, pcd_a30, pcd0, pcd0, pcx_a30 fu⟩
def msk_a30 (b : Nat) : List Nat := []
def lp_a30 (fu : Nat) : Lp RT den ((Sl Int)) := ⟨fun b s k => none, inl0⟩
theorem ev_a30 (fu : Nat) (from_0 to_1 : Int) (inner_2 : (Sl Int)) : evFunX E false (pc_a30 fu) msk_a30 (lp_a30 fu) out_sl_u8_H 106 [(ii from_0), (ii to_1), (.rs inner_2.z .u8 inner_2.n inner_2.f)] [] = F_spec_l2Wrap_H fu from_0 to_1 inner_2 := by kernel_rfl
noncomputable def body_a30 : Code := Try.f106.body.getD .skip
theorem lpok_a30 (fu : Nat) : LpOk E (pc_a30 fu) 0 msk_a30 (lp_a30 fu) (loops 0 body_a30) := lp_nil (loop_nil (by kernel_rfl)) (by kernel_rfl)
def S_a30 (fu : Nat) (xs : List (D RT den)) (ins : List (Ob RT den)) : Option (OutX RT den) := match xs, ins with | [.int .i64 a0_0, .int .i64 a1_0, .rs za2_0 .u8 na2_0 fa2_0], [] => some ⟨(Sl Int), F_spec_l2Wrap_H fu a0_0 a1_0 (⟨za2_0, na2_0, fa2_0⟩ : (Sl Int)), enc_sl_u8_H⟩ | _, _ => none
theorem hpx_a30 (fu : Nat) : HpxOk E Try.prog pcd_a30 pcd0 (pcx_a30 fu) := by
 intro f xs ins o h
 unfold pcx_a30 at h
 split at h
 ·exact good_a29 fu xs ins o h
 ·cases h
theorem goodv_a30 (fu : Nat) (from_0 to_1 : Int) (inner_2 y : (Sl Int)) (hy : F_spec_l2Wrap_H fu from_0 to_1 inner_2 = some y) : GoodX E Try.prog 106 [(ii from_0), (ii to_1), (.rs inner_2.z .u8 inner_2.n inner_2.f)] [] (enc_sl_u8_H y).1 (enc_sl_u8_H y).2 :=
 funX_good (ke := false) E_ok (pc_good (pc := pc_a30 fu) hpc0 (hpx_a30 fu)) (fn := Try.f106) (by kernel_rfl) (by kernel_rfl) (by kernel_rfl) (lpok_a30 fu) (by kernel_rfl) (Nat.zero_le _) (fun d os hd => out_sl_u8_H_enc d os _ hd) ((ev_a30 fu from_0 to_1 inner_2).trans hy)
theorem good_a30 (fu : Nat) : GoodSX E Try.prog 106 (S_a30 fu) := by
 intro xs ins o h y hy
 unfold S_a30 at h
 split at h
 ·rename_i a0_0 a1_0 za2_0 na2_0 fa2_0
  cases h
  exact goodv_a30 fu a0_0 a1_0 (⟨za2_0, na2_0, fa2_0⟩ : (Sl Int)) y hy
 ·cases h
def F_spec_WrapGre (fu : Nat) (from_0 to_1 : Int) (inner_2 : (Sl Int)) : Option (S_impl_BytesResult) :=
 ((((F_spec_l2Address fu from_0).bind fun y89 => (bif (!y89) then (some true) else ((F_spec_l2Address fu to_1).bind fun y90 => (some (!y90))))) : Option Bool).bind fun m91 => (bif m91 then
  (some (⟨3, (⟨(some true), 0, (fun _ => dflt .u8)⟩ : (Sl Int))⟩ : S_impl_BytesResult)) else (bif (decide (((inner_2.n : Nat) : Int) > 230)) then (some (⟨2, (⟨(some true), 0, (fun _ =>
  dflt .u8)⟩ : (Sl Int))⟩ : S_impl_BytesResult)) else ((F_spec_l2Wrap_H fu from_0 to_1 inner_2).bind fun y92 => (some (⟨0, (⟨none, y92.n, y92.f⟩ : (Sl Int))⟩ : S_impl_BytesResult))))))
noncomputable def pcf_a31 (fu f : Nat) (xs : List (D RT den)) : Option (Out RT den) := match f with | 98 => S_a15 fu xs | 106 => (S_a30 fu xs []).bind fun o => some (o.frz E) | _ => none
noncomputable def pc_a31 (fu : Nat) : Pc RT den := ⟨pcf_a31 fu, fun _ => false, fun _ => false, pcd0, pcd0, pcd0, pcx0⟩
def msk_a31 (b : Nat) : List Nat := match b with | 200001 => [14] | _ => []
def lp_a31 (fu : Nat) : Lp RT den (S_impl_BytesResult) := ⟨fun b s k => none, inl0⟩
theorem ev_a31 (fu : Nat) (from_0 to_1 : Int) (inner_2 : (Sl Int)) : evFun E (pc_a31 fu) msk_a31 (lp_a31 fu) out_impl_BytesResult 59 [(ii from_0), (ii to_1), (.rs inner_2.z .u8 inner_2.n inner_2.f)] = F_spec_WrapGre fu from_0 to_1 inner_2 := by kernel_rfl
noncomputable def body_a31 : Code := Try.f59.body.getD .skip
theorem lpok_a31 (fu : Nat) : LpOk E (pc_a31 fu) 0 msk_a31 (lp_a31 fu) (loops 0 body_a31) := lp_nil (loop_nil (by kernel_rfl)) (by kernel_rfl)
def S_a31 (fu : Nat) (xs : List (D RT den)) : Option (Out RT den) := match xs with | [.int .i64 a0_0, .int .i64 a1_0, .rs za2_0 .u8 na2_0 fa2_0] => some ⟨S_impl_BytesResult, F_spec_WrapGre fu a0_0 a1_0 (⟨za2_0, na2_0, fa2_0⟩ : (Sl Int)), enc_impl_BytesResult, fun _ => true⟩ | _ => none
theorem hpc_a31 (fu : Nat) : HpcOk E Try.prog (pcf_a31 fu) := by
 intro f xs o h
 unfold pcf_a31 at h
 split at h
 ·exact good_a15 fu xs o h
 ·exact good_frz E_ok (good_a30 fu) xs o h
 ·cases h
theorem goodv_a31 (fu : Nat) (from_0 to_1 : Int) (inner_2 : (Sl Int)) (y : S_impl_BytesResult) (hy : F_spec_WrapGre fu from_0 to_1 inner_2 = some y) : Vm.Good E Try.prog 59 [(ii from_0), (ii to_1), (.rs inner_2.z .u8 inner_2.n inner_2.f)] (enc_impl_BytesResult y) :=
 fun_good E_ok (pc_good (pc := pc_a31 fu) (hpc_a31 fu) hpx0) (fn := Try.f59) (by kernel_rfl) (by kernel_rfl) (by kernel_rfl) (lpok_a31 fu) (fun d hd => out_impl_BytesResult_enc d _ hd) ((ev_a31 fu from_0 to_1 inner_2).trans hy)
theorem good_a31 (fu : Nat) : GoodS E Try.prog 59 (S_a31 fu) := by
 intro xs o h y hy
 unfold S_a31 at h
 split at h
 ·rename_i a0_0 a1_0 za2_0 na2_0 fa2_0
  cases h
  exact goodv_a31 fu a0_0 a1_0 (⟨za2_0, na2_0, fa2_0⟩ : (Sl Int)) y hy
 ·cases h
def F_spec_l3Of (fu : Nat) (p_0 : S_impl_Packet) : Option (S_impl_Flow) :=
 (some (⟨p_0.From, p_0.To, p_0.Proto, p_0.FromP, p_0.ToP⟩ : S_impl_Flow))
def pc_a32 (fu : Nat) : Pc RT den := ⟨pcf0, fun _ => false, fun _ => false, pcd0, pcd0, pcd0, pcx0⟩
def msk_a32 (b : Nat) : List Nat := []
def lp_a32 (fu : Nat) : Lp RT den (S_impl_Flow) := ⟨fun b s k => none, inl0⟩
theorem ev_a32 (fu : Nat) (p_0 : S_impl_Packet) : evFun E (pc_a32 fu) msk_a32 (lp_a32 fu) out_impl_Flow 57 [(.agg [(ii p_0.From), (ii p_0.To), (ii p_0.Proto), (ii p_0.FromP), (ii p_0.ToP), (.rs p_0.Load.z .u8 p_0.Load.n p_0.Load.f)])] = F_spec_l3Of fu p_0 := by kernel_rfl
noncomputable def body_a32 : Code := Try.f57.body.getD .skip
theorem lpok_a32 (fu : Nat) : LpOk E (pc_a32 fu) 0 msk_a32 (lp_a32 fu) (loops 0 body_a32) := lp_nil (loop_nil (by kernel_rfl)) (by kernel_rfl)
def S_a32 (fu : Nat) (xs : List (D RT den)) : Option (Out RT den) := match xs with | [.agg [.int .i64 a0_1, .int .i64 a0_2, .int .i64 a0_3, .int .i64 a0_4, .int .i64 a0_5, .rs za0_6 .u8 na0_6 fa0_6]] => some ⟨S_impl_Flow, F_spec_l3Of fu (⟨a0_1, a0_2, a0_3, a0_4, a0_5, (⟨za0_6, na0_6, fa0_6⟩ : (Sl Int))⟩ : S_impl_Packet), enc_impl_Flow, fun _ => true⟩ | _ => none
theorem goodv_a32 (fu : Nat) (p_0 : S_impl_Packet) (y : S_impl_Flow) (hy : F_spec_l3Of fu p_0 = some y) : Vm.Good E Try.prog 57 [(.agg [(ii p_0.From), (ii p_0.To), (ii p_0.Proto), (ii p_0.FromP), (ii p_0.ToP), (.rs p_0.Load.z .u8 p_0.Load.n p_0.Load.f)])] (enc_impl_Flow y) :=
 fun_good E_ok (pc_good (pc := pc_a32 fu) hpc0 hpx0) (fn := Try.f57) (by kernel_rfl) (by kernel_rfl) (by kernel_rfl) (lpok_a32 fu) (fun d hd => out_impl_Flow_enc d _ hd) ((ev_a32 fu p_0).trans hy)
theorem good_a32 (fu : Nat) : GoodS E Try.prog 57 (S_a32 fu) := by
 intro xs o h y hy
 unfold S_a32 at h
 split at h
 ·rename_i a0_1 a0_2 a0_3 a0_4 a0_5 za0_6 na0_6 fa0_6
  cases h
  exact goodv_a32 fu (⟨a0_1, a0_2, a0_3, a0_4, a0_5, (⟨za0_6, na0_6, fa0_6⟩ : (Sl Int))⟩ : S_impl_Packet) y hy
 ·cases h
def F_spec_MayGo_B0 {ρ : Type} (fu : Nat) (address1_0 : Int) (data2_1 out3_2 names11_3 : (Sl Int)) (o0_5 : Int) (o0_6 : (Sl S_impl_Backend)) (o0_7 : (Sl S_impl_Vip)) (o1_8 o1_9 o1_10 o1_11 o1_12 o1_13 : Int) (o1_14 : (Sl Int)) (k0 : Int → Int → Int → Int → Bool → Int → (Sl Int) → Option ρ) (k1 : Option ρ) (i12_4 : Int) (go : Int → Option ρ) : Option ρ :=
 (bif (decide (i12_4 < ((names11_3.n : Nat) : Int))) then ((bif (decide (0 ≤ i12_4) && decide ((Int.toNat i12_4) < names11_3.n)) then some () else none : Option Unit).bind fun _ =>
  ((F_spec_l5At fu (⟨o0_5, o0_6, o0_7⟩ : S_impl_Config) (names11_3.f (Int.toNat i12_4))).bind fun y87 => ((bif (decide (0 ≤ y87) && decide ((Int.toNat y87) < o0_6.n)) then some () else
  none : Option Unit).bind fun _ => ((F_spec_WrapGre fu address1_0 (o0_6.f (Int.toNat y87)).Address data2_1).bind fun y88 => (((bif ((o0_6.f (Int.toNat y87)).Stage != 3) then (bif (y88.Code == 0) then
  (some (ByteArray.toList (bytesOf y88.Bytes.n (fun i => (y88.Bytes.f i))) == ByteArray.toList (bytesOf out3_2.n (fun i => (out3_2.f i))))) else (some false)) else (some false)) : Option Bool).bind fun m126 =>
  (bif m126 then (k0 (o0_6.f (Int.toNat y87)).Name (o0_6.f (Int.toNat y87)).Address (o0_6.f (Int.toNat y87)).Weight (o0_6.f (Int.toNat y87)).Stage (o0_6.f (Int.toNat y87)).Up y88.Code y88.Bytes) else
  (go (IntKind.wrap .i64 (i12_4 + 1))))))))) else k1)
def F_spec_MayGo (fu : Nat) (c_0 : S_impl_Config) (address_1 : Int) (data_2 out_3 : (Sl Int)) : Option (Bool) :=
 ((F_spec_l5Fault fu c_0).bind fun y63 => (bif (y63 != 0) then (some false) else (bif (((out_3.n : Nat) : Int) == 0) then (some true) else ((F_spec_ParsePacket fu data_2).bind fun y64 =>
  (bif (y64.Code != 0) then (some false) else ((F_spec_l3Of fu y64.Packet).bind fun y79 => ((F_spec_l5For fu c_0 y79).bind fun y86 => (bif (decide (y86 < 0)) then (some false) else
  ((bif (decide (0 ≤ y86) && decide ((Int.toNat y86) < c_0.Vips.n)) then some () else none : Option Unit).bind fun _ => (L (fun w0 go0 => F_spec_MayGo_B0 fu address_1 data_2 out_3 ((c_0.Vips.f (Int.toNat y86)).Names) c_0.Version c_0.Backends c_0.Vips y64.Code y64.Packet.From y64.Packet.To y64.Packet.Proto y64.Packet.FromP y64.Packet.ToP y64.Packet.Load (fun z127 z128 z129 z130 z131 z132 z133 =>
  (some true)) (some false) w0 go0) fu (0 : Int)))))))))))
def pcf_a33 (fu f : Nat) (xs : List (D RT den)) : Option (Out RT den) := match f with | 32 => S_a22 fu xs | 55 => S_a26 fu xs | 56 => S_a27 fu xs | 57 => S_a32 fu xs | 58 => S_a20 fu xs | 59 => S_a31 fu xs | _ => none
def pc_a33 (fu : Nat) : Pc RT den := ⟨pcf_a33 fu, fun _ => false, fun _ => false, pcd0, pcd0, pcd0, pcx0⟩
def msk_a33 (b : Nat) : List Nat := match b with | 0 => (0 :: (rg 5 6 (rg 13 60 []))) | 100000 => (rg 0 8 (rg 9 64 [])) | 200017 => [72] | _ => []
def ps_a33_0 : List (Pat RT) := (.flat .q :: .flat (.int .i64) :: .flat (.rs .u8) :: .flat (.rs .u8) :: .flat (.ref 0 0) :: (fq 6 (.flat (.rs .i64) :: .flat (.int .i64) :: (fq 60 []))))
def os_a33_0 : List (OP RT) := [.box false [(.int .i64), (.rs .impl_Backend), (.rs .impl_Vip)], .box false [(.int .i64), (.int .i64), (.int .i64), (.int .i64), (.int .i64), (.int .i64), (.rs .u8)]]
def conv_a33_0 (r : Raw den ps_a33_0 os_a33_0) : (Yb1) × (Int) := ((r.1.2.1, r.1.2.2.1, r.1.2.2.2.1, (e10 r.1).2.1, r.2.1.1, r.2.1.2.1, r.2.1.2.2.1, r.2.2.1.1, r.2.2.1.2.1, r.2.2.1.2.2.1, r.2.2.1.2.2.2.1, r.2.2.1.2.2.2.2.1, (e5 r.2.2.1).1, (e5 r.2.2.1).2.1), (e10 r.1).2.2.1)
def back_a33_0 (c : Yb1) (w : Int) : St RT den := ⟨(.q :: (ii c.1) :: (.rs c.2.1.z .u8 c.2.1.n c.2.1.f) :: (.rs c.2.2.1.z .u8 c.2.2.1.n c.2.2.1.f) :: (.ref 0 0) :: (qs 6 ((.rs c.2.2.2.1.z .i64 c.2.2.2.1.n c.2.2.2.1.f) :: (ii w) :: (qs 60 [])))), [(.box false [(ii c.2.2.2.2.1), (.rs (e5 c).1.z .impl_Backend (e5 c).1.n (e5 c).1.f), (.rs (e5 c).2.1.z .impl_Vip (e5 c).2.1.n (e5 c).2.1.f)]), (.box false [(ii (e5 c).2.2.1), (ii (e5 c).2.2.2.1), (ii (e5 c).2.2.2.2.1), (ii (e10 c).1), (ii (e10 c).2.1), (ii (e10 c).2.2.1), (.rs (e10 c).2.2.2.z .u8 (e10 c).2.2.2.n (e10 c).2.2.2.f)])]⟩
def Bk_a33_0 {ρ : Type} (fu : Nat) (c : Yb1) (k : Ex → St RT den → Option ρ) (w : Int) (go : (Int) → Option ρ) : Option ρ := F_spec_MayGo_B0 fu c.1 c.2.1 c.2.2.1 c.2.2.2.1 c.2.2.2.2.1 (e5 c).1 (e5 c).2.1 (e5 c).2.2.1 (e5 c).2.2.2.1 (e5 c).2.2.2.2.1 (e10 c).1 (e10 c).2.1 (e10 c).2.2.1 (e10 c).2.2.2 (fun a0 a1 a2 a3 a4 a5 a6 => k .ret ⟨(qs 8 ((.bool true) :: (qs 64 []))), [(.box false [(ii c.2.2.2.2.1), (.rs (e5 c).1.z .impl_Backend (e5 c).1.n (e5 c).1.f), (.rs (e5 c).2.1.z .impl_Vip (e5 c).2.1.n (e5 c).2.1.f)]), (.box false [(ii (e5 c).2.2.1), (ii (e5 c).2.2.2.1), (ii (e5 c).2.2.2.2.1), (ii (e10 c).1), (ii (e10 c).2.1), (ii (e10 c).2.2.1), (.rs (e10 c).2.2.2.z .u8 (e10 c).2.2.2.n (e10 c).2.2.2.f)]), (.box false [(ii a0), (ii a1), (ii a2), (ii a3), (.bool a4)]), (.box false [(ii a5), (.rs a6.z .u8 a6.n a6.f)])]⟩) (k (.exit 0) ⟨(qs 73 []), [(.box false [(ii c.2.2.2.2.1), (.rs (e5 c).1.z .impl_Backend (e5 c).1.n (e5 c).1.f), (.rs (e5 c).2.1.z .impl_Vip (e5 c).2.1.n (e5 c).2.1.f)]), (.box false [(ii (e5 c).2.2.1), (ii (e5 c).2.2.2.1), (ii (e5 c).2.2.2.2.1), (ii (e10 c).1), (ii (e10 c).2.1), (ii (e10 c).2.2.1), (.rs (e10 c).2.2.2.z .u8 (e10 c).2.2.2.n (e10 c).2.2.2.f)])]⟩) w go
def lp_a33 (fu : Nat) : Lp RT den (Bool) := ⟨fun b s k => match b with | 0 => handle ps_a33_0 os_a33_0 conv_a33_0 (Bk_a33_0 fu) fu s k | _ => none, inl0⟩
theorem ev_a33 (fu : Nat) (c_0 : S_impl_Config) (address_1 : Int) (data_2 out_3 : (Sl Int)) : evFun E (pc_a33 fu) msk_a33 (lp_a33 fu) out_bo 27 [(.agg [(ii c_0.Version), (.rs c_0.Backends.z .impl_Backend c_0.Backends.n c_0.Backends.f), (.rs c_0.Vips.z .impl_Vip c_0.Vips.n c_0.Vips.f)]), (ii address_1), (.rs data_2.z .u8 data_2.n data_2.f), (.rs out_3.z .u8 out_3.n out_3.f)] = F_spec_MayGo fu c_0 address_1 data_2 out_3 := by kernel_rfl
noncomputable def body_a33 : Code := Try.f27.body.getD .skip
noncomputable def lc_a33_0 : Code := ((loops 0 body_a33).getD 0 (0, .skip)).2
theorem round_a33_0 (fu : Nat) : RoundOk E (pc_a33 fu) msk_a33 (lp_a33 fu) 0 lc_a33_0 back_a33_0 0 100000 2 (Bk_a33_0 fu) := fun it k c w => by kernel_rfl
theorem lpok_a33_0 (fu : Nat) : LpAt E (pc_a33 fu) msk_a33 (lp_a33 fu) 0 0 100000 0 lc_a33_0 :=
 handle_ok (ps := ps_a33_0) (os := os_a33_0) (conv := conv_a33_0) (B := Bk_a33_0 fu) (fu := fu) back_a33_0 (fun raw => by kernel_rfl) 2 (fun c w => by kernel_rfl) (round_a33_0 fu)
theorem lpok_a33 (fu : Nat) : LpOk E (pc_a33 fu) 0 msk_a33 (lp_a33 fu) (loops 0 body_a33) := lp_nil (loop_all 1 (by kernel_rfl) fun i hi => match i, hi with
 | 0, _ => by
  have h : (loops 0 body_a33).getD 0 (0, .skip) = (0, lc_a33_0) := by kernel_rfl
  rw [h]; exact lpok_a33_0 fu
 | i + 1, hi => absurd hi (by omega)) (by kernel_rfl)
def S_a33 (fu : Nat) (xs : List (D RT den)) : Option (Out RT den) := match xs with | [.agg [.int .i64 a0_1, .rs za0_2 .impl_Backend na0_2 fa0_2, .rs za0_3 .impl_Vip na0_3 fa0_3], .int .i64 a1_0, .rs za2_0 .u8 na2_0 fa2_0, .rs za3_0 .u8 na3_0 fa3_0] => some ⟨Bool, F_spec_MayGo fu (⟨a0_1, (⟨za0_2, na0_2, fa0_2⟩ : (Sl S_impl_Backend)), (⟨za0_3, na0_3, fa0_3⟩ : (Sl S_impl_Vip))⟩ : S_impl_Config) a1_0 (⟨za2_0, na2_0, fa2_0⟩ : (Sl Int)) (⟨za3_0, na3_0, fa3_0⟩ : (Sl Int)), enc_bo, fun _ => true⟩ | _ => none
theorem hpc_a33 (fu : Nat) : HpcOk E Try.prog (pcf_a33 fu) := by
 intro f xs o h
 unfold pcf_a33 at h
 split at h
 ·exact good_a22 fu xs o h
 ·exact good_a26 fu xs o h
 ·exact good_a27 fu xs o h
 ·exact good_a32 fu xs o h
 ·exact good_a20 fu xs o h
 ·exact good_a31 fu xs o h
 ·cases h
theorem goodv_a33 (fu : Nat) (c_0 : S_impl_Config) (address_1 : Int) (data_2 out_3 : (Sl Int)) (y : Bool) (hy : F_spec_MayGo fu c_0 address_1 data_2 out_3 = some y) : Vm.Good E Try.prog 27 [(.agg [(ii c_0.Version), (.rs c_0.Backends.z .impl_Backend c_0.Backends.n c_0.Backends.f), (.rs c_0.Vips.z .impl_Vip c_0.Vips.n c_0.Vips.f)]), (ii address_1), (.rs data_2.z .u8 data_2.n data_2.f), (.rs out_3.z .u8 out_3.n out_3.f)] (enc_bo y) :=
 fun_good E_ok (pc_good (pc := pc_a33 fu) (hpc_a33 fu) hpx0) (fn := Try.f27) (by kernel_rfl) (by kernel_rfl) (by kernel_rfl) (lpok_a33 fu) (fun d hd => out_bo_enc d _ hd) ((ev_a33 fu c_0 address_1 data_2 out_3).trans hy)
theorem good_a33 (fu : Nat) : GoodS E Try.prog 27 (S_a33 fu) := by
 intro xs o h y hy
 unfold S_a33 at h
 split at h
 ·rename_i a0_1 za0_2 na0_2 fa0_2 za0_3 na0_3 fa0_3 a1_0 za2_0 na2_0 fa2_0 za3_0 na3_0 fa3_0
  cases h
  exact goodv_a33 fu (⟨a0_1, (⟨za0_2, na0_2, fa0_2⟩ : (Sl S_impl_Backend)), (⟨za0_3, na0_3, fa0_3⟩ : (Sl S_impl_Vip))⟩ : S_impl_Config) a1_0 (⟨za2_0, na2_0, fa2_0⟩ : (Sl Int)) (⟨za3_0, na3_0, fa3_0⟩ : (Sl Int)) y hy
 ·cases h
def F_impl_size_byte (fu : Nat) (list_0 : (Sl Int)) : Option (Int) :=
 (some ((list_0.n : Nat) : Int))
def pc_a34 (fu : Nat) : Pc RT den := ⟨pcf0, fun _ => false, fun _ => false, pcd0, pcd0, pcd0, pcx0⟩
def msk_a34 (b : Nat) : List Nat := []
def lp_a34 (fu : Nat) : Lp RT den (Int) := ⟨fun b s k => none, inl0⟩
theorem ev_a34 (fu : Nat) (list_0 : (Sl Int)) : evFun E (pc_a34 fu) msk_a34 (lp_a34 fu) out_i64 109 [(.rs list_0.z .u8 list_0.n list_0.f)] = F_impl_size_byte fu list_0 := by kernel_rfl
noncomputable def body_a34 : Code := Try.f109.body.getD .skip
theorem lpok_a34 (fu : Nat) : LpOk E (pc_a34 fu) 0 msk_a34 (lp_a34 fu) (loops 0 body_a34) := lp_nil (loop_nil (by kernel_rfl)) (by kernel_rfl)
def S_a34 (fu : Nat) (xs : List (D RT den)) : Option (Out RT den) := match xs with | [.rs za0_0 .u8 na0_0 fa0_0] => some ⟨Int, F_impl_size_byte fu (⟨za0_0, na0_0, fa0_0⟩ : (Sl Int)), enc_i64, fun _ => true⟩ | _ => none
theorem goodv_a34 (fu : Nat) (list_0 : (Sl Int)) (y : Int) (hy : F_impl_size_byte fu list_0 = some y) : Vm.Good E Try.prog 109 [(.rs list_0.z .u8 list_0.n list_0.f)] (enc_i64 y) :=
 fun_good E_ok (pc_good (pc := pc_a34 fu) hpc0 hpx0) (fn := Try.f109) (by kernel_rfl) (by kernel_rfl) (by kernel_rfl) (lpok_a34 fu) (fun d hd => out_i64_enc d _ hd) ((ev_a34 fu list_0).trans hy)
theorem good_a34 (fu : Nat) : GoodS E Try.prog 109 (S_a34 fu) := by
 intro xs o h y hy
 unfold S_a34 at h
 split at h
 ·rename_i za0_0 na0_0 fa0_0
  cases h
  exact goodv_a34 fu (⟨za0_0, na0_0, fa0_0⟩ : (Sl Int)) y hy
 ·cases h
def F_impl_in (fu : Nat) (n_0 low_1 high_2 : Int) : Option (Bool) :=
 (((bif (decide (n_0 ≥ low_1)) then (some (decide (n_0 ≤ high_2))) else (some false)) : Option Bool).bind fun m149 => (some m149))
def pc_a35 (fu : Nat) : Pc RT den := ⟨pcf0, fun _ => false, fun _ => false, pcd0, pcd0, pcd0, pcx0⟩
def msk_a35 (b : Nat) : List Nat := match b with | 200001 => [6] | _ => []
def lp_a35 (fu : Nat) : Lp RT den (Bool) := ⟨fun b s k => none, inl0⟩
theorem ev_a35 (fu : Nat) (n_0 low_1 high_2 : Int) : evFun E (pc_a35 fu) msk_a35 (lp_a35 fu) out_bo 77 [(ii n_0), (ii low_1), (ii high_2)] = F_impl_in fu n_0 low_1 high_2 := by kernel_rfl
noncomputable def body_a35 : Code := Try.f77.body.getD .skip
theorem lpok_a35 (fu : Nat) : LpOk E (pc_a35 fu) 0 msk_a35 (lp_a35 fu) (loops 0 body_a35) := lp_nil (loop_nil (by kernel_rfl)) (by kernel_rfl)
def S_a35 (fu : Nat) (xs : List (D RT den)) : Option (Out RT den) := match xs with | [.int .i64 a0_0, .int .i64 a1_0, .int .i64 a2_0] => some ⟨Bool, F_impl_in fu a0_0 a1_0 a2_0, enc_bo, fun _ => true⟩ | _ => none
theorem goodv_a35 (fu : Nat) (n_0 low_1 high_2 : Int) (y : Bool) (hy : F_impl_in fu n_0 low_1 high_2 = some y) : Vm.Good E Try.prog 77 [(ii n_0), (ii low_1), (ii high_2)] (enc_bo y) :=
 fun_good E_ok (pc_good (pc := pc_a35 fu) hpc0 hpx0) (fn := Try.f77) (by kernel_rfl) (by kernel_rfl) (by kernel_rfl) (lpok_a35 fu) (fun d hd => out_bo_enc d _ hd) ((ev_a35 fu n_0 low_1 high_2).trans hy)
theorem good_a35 (fu : Nat) : GoodS E Try.prog 77 (S_a35 fu) := by
 intro xs o h y hy
 unfold S_a35 at h
 split at h
 ·rename_i a0_0 a1_0 a2_0
  cases h
  exact goodv_a35 fu a0_0 a1_0 a2_0 y hy
 ·cases h
def F_impl_number_B0 {ρ : Type} (fu : Nat) (t6_1 : (Sl Int)) (t7_2 : Int) (k0 : Int → Option ρ) (n3_0 t8_3 : Int) (go : Int → Int → Option ρ) : Option ρ :=
 (bif (decide (t8_3 < t7_2)) then ((bif (decide (0 ≤ t8_3) && decide ((Int.toNat t8_3) < t6_1.n)) then some () else none : Option Unit).bind fun _ => (go (bitsOr .i64 (shlInt .i64 n3_0 8) (IntKind.wrap .i64 (t6_1.f (Int.toNat t8_3)))) (IntKind.wrap .i64 (t8_3 + 1)))) else
  (k0 n3_0))
def F_impl_number (fu : Nat) (data_0 : (Sl Int)) : Option (Int) :=
 (L (fun w0 go0 => F_impl_number_B0 fu data_0 ((data_0.n : Nat) : Int) (fun z150 => (some z150)) w0.1 w0.2 (fun q0 q1 => go0 (q0, q1))) fu ((0, 0) : Int × Int))
def pc_a36 (fu : Nat) : Pc RT den := ⟨pcf0, fun _ => false, fun _ => false, pcd0, pcd0, pcd0, pcx0⟩
def msk_a36 (b : Nat) : List Nat := match b with | 0 => (0 :: 1 :: 2 :: 4 :: 5 :: (rg 9 10 [])) | 100000 => (0 :: 1 :: (rg 4 15 [])) | _ => []
def ps_a36_0 : List (Pat RT) := (.flat .q :: .flat .q :: .flat .q :: .flat (.int .i64) :: .flat .q :: .flat .q :: .flat (.rs .u8) :: .flat (.int .i64) :: .flat (.int .i64) :: (fq 10 []))
def os_a36_0 : List (OP RT) := []
def conv_a36_0 (r : Raw den ps_a36_0 os_a36_0) : ((Sl Int) × Int) × (Int × Int) := (((e5 r.1).2.1, (e5 r.1).2.2.1), (r.1.2.2.2.1, (e5 r.1).2.2.2.1))
def back_a36_0 (c : (Sl Int) × Int) (w : Int × Int) : St RT den := ⟨(.q :: .q :: .q :: (ii w.1) :: .q :: .q :: (.rs c.1.z .u8 c.1.n c.1.f) :: (ii c.2) :: (ii w.2) :: (qs 10 [])), []⟩
def Bk_a36_0 {ρ : Type} (fu : Nat) (c : (Sl Int) × Int) (k : Ex → St RT den → Option ρ) (w : Int × Int) (go : (Int × Int) → Option ρ) : Option ρ := F_impl_number_B0 fu c.1 c.2 (fun a0 => k (.exit 0) ⟨(.q :: .q :: .q :: (ii a0) :: (qs 15 [])), []⟩) w.1 w.2 (fun q0 q1 => go (q0, q1))
def lp_a36 (fu : Nat) : Lp RT den (Int) := ⟨fun b s k => match b with | 0 => handle ps_a36_0 os_a36_0 conv_a36_0 (Bk_a36_0 fu) fu s k | _ => none, inl0⟩
theorem ev_a36 (fu : Nat) (data_0 : (Sl Int)) : evFun E (pc_a36 fu) msk_a36 (lp_a36 fu) out_i64 44 [(.rs data_0.z .u8 data_0.n data_0.f)] = F_impl_number fu data_0 := by kernel_rfl
noncomputable def body_a36 : Code := Try.f44.body.getD .skip
noncomputable def lc_a36_0 : Code := ((loops 0 body_a36).getD 0 (0, .skip)).2
theorem round_a36_0 (fu : Nat) : RoundOk E (pc_a36 fu) msk_a36 (lp_a36 fu) 0 lc_a36_0 back_a36_0 0 100000 0 (Bk_a36_0 fu) := fun it k c w => by kernel_rfl
theorem lpok_a36_0 (fu : Nat) : LpAt E (pc_a36 fu) msk_a36 (lp_a36 fu) 0 0 100000 0 lc_a36_0 :=
 handle_ok (ps := ps_a36_0) (os := os_a36_0) (conv := conv_a36_0) (B := Bk_a36_0 fu) (fu := fu) back_a36_0 (fun raw => by kernel_rfl) 0 (fun c w => by kernel_rfl) (round_a36_0 fu)
theorem lpok_a36 (fu : Nat) : LpOk E (pc_a36 fu) 0 msk_a36 (lp_a36 fu) (loops 0 body_a36) := lp_nil (loop_all 1 (by kernel_rfl) fun i hi => match i, hi with
 | 0, _ => by
  have h : (loops 0 body_a36).getD 0 (0, .skip) = (0, lc_a36_0) := by kernel_rfl
  rw [h]; exact lpok_a36_0 fu
 | i + 1, hi => absurd hi (by omega)) (by kernel_rfl)
def S_a36 (fu : Nat) (xs : List (D RT den)) : Option (Out RT den) := match xs with | [.rs za0_0 .u8 na0_0 fa0_0] => some ⟨Int, F_impl_number fu (⟨za0_0, na0_0, fa0_0⟩ : (Sl Int)), enc_i64, fun _ => true⟩ | _ => none
theorem goodv_a36 (fu : Nat) (data_0 : (Sl Int)) (y : Int) (hy : F_impl_number fu data_0 = some y) : Vm.Good E Try.prog 44 [(.rs data_0.z .u8 data_0.n data_0.f)] (enc_i64 y) :=
 fun_good E_ok (pc_good (pc := pc_a36 fu) hpc0 hpx0) (fn := Try.f44) (by kernel_rfl) (by kernel_rfl) (by kernel_rfl) (lpok_a36 fu) (fun d hd => out_i64_enc d _ hd) ((ev_a36 fu data_0).trans hy)
theorem good_a36 (fu : Nat) : GoodS E Try.prog 44 (S_a36 fu) := by
 intro xs o h y hy
 unfold S_a36 at h
 split at h
 ·rename_i za0_0 na0_0 fa0_0
  cases h
  exact goodv_a36 fu (⟨za0_0, na0_0, fa0_0⟩ : (Sl Int)) y hy
 ·cases h
def F_impl_SumWords (fu : Nat) (data_0 : (Sl Int)) : Option (Int) :=
 (hand_SumWords data_0.n data_0.f)
def S_a37 (fu : Nat) (xs : List (D RT den)) : Option (Out RT den) := match xs with | [.rs za0_0 .u8 na0_0 fa0_0] => some ⟨Int, F_impl_SumWords fu (⟨za0_0, na0_0, fa0_0⟩ : (Sl Int)), enc_i64, fun _ => true⟩ | _ => none
theorem goodv_a37 (fu : Nat) (data_0 : (Sl Int)) (y : Int) (hy : F_impl_SumWords fu data_0 = some y) : Vm.Good E Try.prog 134 [(.rs data_0.z .u8 data_0.n data_0.f)] (enc_i64 y) := good_hand_SumWords data_0 y hy
theorem good_a37 (fu : Nat) : GoodS E Try.prog 134 (S_a37 fu) := by
 intro xs o h y hy
 unfold S_a37 at h
 split at h
 ·rename_i za0_0 na0_0 fa0_0
  cases h
  exact goodv_a37 fu (⟨za0_0, na0_0, fa0_0⟩ : (Sl Int)) y hy
 ·cases h
def F_impl_WholeSum (fu : Nat) (data_0 : (Sl Int)) : Option (Bool) :=
 ((F_impl_SumWords fu data_0).bind fun y151 => (some (y151 == 0)))
def pcf_a38 (fu f : Nat) (xs : List (D RT den)) : Option (Out RT den) := match f with | 134 => S_a37 fu xs | _ => none
def pc_a38 (fu : Nat) : Pc RT den := ⟨pcf_a38 fu, fun _ => false, fun _ => false, pcd0, pcd0, pcd0, pcx0⟩
def msk_a38 (b : Nat) : List Nat := []
def lp_a38 (fu : Nat) : Lp RT den (Bool) := ⟨fun b s k => none, inl0⟩
theorem ev_a38 (fu : Nat) (data_0 : (Sl Int)) : evFun E (pc_a38 fu) msk_a38 (lp_a38 fu) out_bo 110 [(.rs data_0.z .u8 data_0.n data_0.f)] = F_impl_WholeSum fu data_0 := by kernel_rfl
noncomputable def body_a38 : Code := Try.f110.body.getD .skip
theorem lpok_a38 (fu : Nat) : LpOk E (pc_a38 fu) 0 msk_a38 (lp_a38 fu) (loops 0 body_a38) := lp_nil (loop_nil (by kernel_rfl)) (by kernel_rfl)
def S_a38 (fu : Nat) (xs : List (D RT den)) : Option (Out RT den) := match xs with | [.rs za0_0 .u8 na0_0 fa0_0] => some ⟨Bool, F_impl_WholeSum fu (⟨za0_0, na0_0, fa0_0⟩ : (Sl Int)), enc_bo, fun _ => true⟩ | _ => none
theorem hpc_a38 (fu : Nat) : HpcOk E Try.prog (pcf_a38 fu) := by
 intro f xs o h
 unfold pcf_a38 at h
 split at h
 ·exact good_a37 fu xs o h
 ·cases h
theorem goodv_a38 (fu : Nat) (data_0 : (Sl Int)) (y : Bool) (hy : F_impl_WholeSum fu data_0 = some y) : Vm.Good E Try.prog 110 [(.rs data_0.z .u8 data_0.n data_0.f)] (enc_bo y) :=
 fun_good E_ok (pc_good (pc := pc_a38 fu) (hpc_a38 fu) hpx0) (fn := Try.f110) (by kernel_rfl) (by kernel_rfl) (by kernel_rfl) (lpok_a38 fu) (fun d hd => out_bo_enc d _ hd) ((ev_a38 fu data_0).trans hy)
theorem good_a38 (fu : Nat) : GoodS E Try.prog 110 (S_a38 fu) := by
 intro xs o h y hy
 unfold S_a38 at h
 split at h
 ·rename_i za0_0 na0_0 fa0_0
  cases h
  exact goodv_a38 fu (⟨za0_0, na0_0, fa0_0⟩ : (Sl Int)) y hy
 ·cases h
def F_impl_isProto (fu : Nat) (n_0 : Int) : Option (Bool) :=
 (((bif (n_0 == 6) then (some true) else (some (n_0 == 17))) : Option Bool).bind fun m152 => (some m152))
def pc_a39 (fu : Nat) : Pc RT den := ⟨pcf0, fun _ => false, fun _ => false, pcd0, pcd0, pcd0, pcx0⟩
def msk_a39 (b : Nat) : List Nat := match b with | 200001 => [2] | _ => []
def lp_a39 (fu : Nat) : Lp RT den (Bool) := ⟨fun b s k => none, inl0⟩
theorem ev_a39 (fu : Nat) (n_0 : Int) : evFun E (pc_a39 fu) msk_a39 (lp_a39 fu) out_bo 80 [(ii n_0)] = F_impl_isProto fu n_0 := by kernel_rfl
noncomputable def body_a39 : Code := Try.f80.body.getD .skip
theorem lpok_a39 (fu : Nat) : LpOk E (pc_a39 fu) 0 msk_a39 (lp_a39 fu) (loops 0 body_a39) := lp_nil (loop_nil (by kernel_rfl)) (by kernel_rfl)
def S_a39 (fu : Nat) (xs : List (D RT den)) : Option (Out RT den) := match xs with | [.int .i64 a0_0] => some ⟨Bool, F_impl_isProto fu a0_0, enc_bo, fun _ => true⟩ | _ => none
theorem goodv_a39 (fu : Nat) (n_0 : Int) (y : Bool) (hy : F_impl_isProto fu n_0 = some y) : Vm.Good E Try.prog 80 [(ii n_0)] (enc_bo y) :=
 fun_good E_ok (pc_good (pc := pc_a39 fu) hpc0 hpx0) (fn := Try.f80) (by kernel_rfl) (by kernel_rfl) (by kernel_rfl) (lpok_a39 fu) (fun d hd => out_bo_enc d _ hd) ((ev_a39 fu n_0).trans hy)
theorem good_a39 (fu : Nat) : GoodS E Try.prog 80 (S_a39 fu) := by
 intro xs o h y hy
 unfold S_a39 at h
 split at h
 ·rename_i a0_0
  cases h
  exact goodv_a39 fu a0_0 y hy
 ·cases h
end Go.Proofs.Ytcmfekgdlaffkaa.Pm
