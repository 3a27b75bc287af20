/- The functions' evaluated forms, each a proved summary. Conditions: none. -/
import Derived.Test.YtcmfekgdlaffkaaGreatDoorPxF1
namespace Go.Proofs.YtcmfekgdlaffkaaGreatDoor.Px
open Go Go.RowKit Go.Proofs Vm
set_option linter.unusedVariables false
set_option linter.unusedSimpArgs false
set_option maxRecDepth 100000
abbrev Yc0 : Type := (Sl S_impl_Held) × Int × Int × Int × Int × Int
abbrev Yc1 : Type := Int × (Sl S_impl_Backend) × (Sl S_impl_Vip) × Int × Int × Int × Int × Int
def F_spec_l5Fault_B0 {ρ : Type} (fu : Nat) (c0_0 : Int) (c0_1 : (Sl S_impl_Backend)) (c0_2 : (Sl S_impl_Vip)) (k0 : Option ρ) (k1 : Option ρ) (k2 : Option ρ) (i3_3 : Int) (go : Int → Option ρ) : Option ρ :=
 (bif (decide (i3_3 < ((c0_1.n : Nat) : Int))) then ((bif (decide (0 ≤ i3_3) && decide ((Int.toNat i3_3) < c0_1.n)) then some () else none : Option Unit).bind fun _ =>
  ((F_spec_l5Backend fu (c0_1.f (Int.toNat i3_3))).bind fun y80 => (bif (!y80) then k0 else (((bif (decide (i3_3 > 0)) then ((bif (decide (0 ≤ i3_3) && decide ((Int.toNat i3_3) < c0_1.n)) then
  some () else none : Option Unit).bind fun _ => ((bif (decide (0 ≤ (IntKind.wrap .i64 (i3_3 - 1))) && decide ((Int.toNat (IntKind.wrap .i64 (i3_3 - 1))) < c0_1.n)) then some () else
  none : Option Unit).bind fun _ => (some (decide ((c0_1.f (Int.toNat i3_3)).Name ≤ (c0_1.f (Int.toNat (IntKind.wrap .i64 (i3_3 - 1)))).Name))))) else (some false)) : Option Bool).bind fun m81 =>
  (bif m81 then k1 else (go (IntKind.wrap .i64 (i3_3 + 1)))))))) else k2)
def F_spec_l5Fault_B2 {ρ : Type} (fu : Nat) (c0_0 : Int) (c0_1 : (Sl S_impl_Backend)) (c0_2 : (Sl S_impl_Vip)) (k0 : Int → Option ρ) (k1 : Option ρ) (i4_3 : Int) (go : Int → Option ρ) : Option ρ :=
 (bif (decide (i4_3 < ((c0_2.n : Nat) : Int))) then ((F_spec_l5Vip fu (⟨c0_0, c0_1, c0_2⟩ : S_impl_Config) i4_3).bind fun y82 => (bif (y82 != 0) then (k0 y82) else (go (IntKind.wrap .i64 (i4_3 + 1))))) else
  k1)
def F_spec_l5Fault (fu : Nat) (c_0 : S_impl_Config) : Option (Int) :=
 ((F_spec_l5Version fu c_0.Version).bind fun y78 => (bif (!y78) then (some 3) else (((bif (decide (((c_0.Backends.n : Nat) : Int) > 8)) then (some true) else (some (decide (((c_0.Vips.n : Nat) : Int) > 4)))) : Option Bool).bind fun m79 =>
  (bif m79 then (some 2) else (L (fun w0 go0 => F_spec_l5Fault_B0 fu c_0.Version c_0.Backends c_0.Vips (some 3) (some 1) (L (fun w2 go2 => F_spec_l5Fault_B2 fu c_0.Version c_0.Backends c_0.Vips (fun z83 =>
  (some z83)) (some 0) w2 go2) fu (0 : Int)) w0 go0) fu (0 : Int))))))
def pcf_b2 (fu f : Nat) (xs : List (D RT den)) : Option (Out RT den) := match f with | 80 => S_a35 fu xs | 81 => S_a37 fu xs | 82 => S_b1 fu xs | _ => none
def pc_b2 (fu : Nat) : Pc RT den := ⟨pcf_b2 fu, fun _ => false, fun _ => false, pcd0, pcd0, pcd0, pcx0⟩
def msk_b2 (b : Nat) : List Nat := match b with | 0 => (1 :: 2 :: (rg 4 77 [])) | 100000 => (1 :: (rg 3 78 [])) | 2 => (1 :: 2 :: 3 :: (rg 5 76 [])) | 100002 => (0 :: 1 :: (rg 3 78 [])) | 200003 => [25] | 200010 => [65] | _ => []
def ps_b2_0 : List (Pat RT) := (.rptr [(.int .i64), (.rs .impl_Backend), (.rs .impl_Vip)] :: .flat .q :: .flat .q :: .flat (.int .i64) :: (fq 77 []))
def os_b2_0 : List (OP RT) := []
def conv_b2_0 (r : Raw den ps_b2_0 os_b2_0) : (Int × (Sl S_impl_Backend) × (Sl S_impl_Vip)) × (Int) := ((r.1.1.1, r.1.1.2.1, r.1.1.2.2.1), r.1.2.2.2.1)
def back_b2_0 (c : Int × (Sl S_impl_Backend) × (Sl S_impl_Vip)) (w : Int) : St RT den := ⟨((.rptr [(ii c.1), (.rs c.2.1.z .impl_Backend c.2.1.n c.2.1.f), (.rs c.2.2.z .impl_Vip c.2.2.n c.2.2.f)]) :: .q :: .q :: (ii w) :: (qs 77 [])), []⟩
def Bk_b2_0 {ρ : Type} (fu : Nat) (c : Int × (Sl S_impl_Backend) × (Sl S_impl_Vip)) (k : Ex → St RT den → Option ρ) (w : Int) (go : (Int) → Option ρ) : Option ρ := F_spec_l5Fault_B0 fu c.1 c.2.1 c.2.2 (k .ret ⟨((.rptr [(ii c.1), (.rs c.2.1.z .impl_Backend c.2.1.n c.2.1.f), (.rs c.2.2.z .impl_Vip c.2.2.n c.2.2.f)]) :: .q :: (ii 3) :: (qs 78 [])), []⟩) (k .ret ⟨((.rptr [(ii c.1), (.rs c.2.1.z .impl_Backend c.2.1.n c.2.1.f), (.rs c.2.2.z .impl_Vip c.2.2.n c.2.2.f)]) :: .q :: (ii 1) :: (qs 78 [])), []⟩) (k (.exit 0) ⟨((.rptr [(ii c.1), (.rs c.2.1.z .impl_Backend c.2.1.n c.2.1.f), (.rs c.2.2.z .impl_Vip c.2.2.n c.2.2.f)]) :: (qs 80 [])), []⟩) w go
def ps_b2_2 : List (Pat RT) := (.rptr [(.int .i64), (.rs .impl_Backend), (.rs .impl_Vip)] :: .flat .q :: .flat .q :: .flat .q :: .flat (.int .i64) :: (fq 76 []))
def os_b2_2 : List (OP RT) := []
def conv_b2_2 (r : Raw den ps_b2_2 os_b2_2) : (Int × (Sl S_impl_Backend) × (Sl S_impl_Vip)) × (Int) := ((r.1.1.1, r.1.1.2.1, r.1.1.2.2.1), r.1.2.2.2.2.1)
def back_b2_2 (c : Int × (Sl S_impl_Backend) × (Sl S_impl_Vip)) (w : Int) : St RT den := ⟨((.rptr [(ii c.1), (.rs c.2.1.z .impl_Backend c.2.1.n c.2.1.f), (.rs c.2.2.z .impl_Vip c.2.2.n c.2.2.f)]) :: .q :: .q :: .q :: (ii w) :: (qs 76 [])), []⟩
def Bk_b2_2 {ρ : Type} (fu : Nat) (c : Int × (Sl S_impl_Backend) × (Sl S_impl_Vip)) (k : Ex → St RT den → Option ρ) (w : Int) (go : (Int) → Option ρ) : Option ρ := F_spec_l5Fault_B2 fu c.1 c.2.1 c.2.2 (fun a0 => k .ret ⟨(.q :: .q :: (ii a0) :: (qs 78 [])), []⟩) (k (.exit 2) ⟨(qs 81 []), []⟩) w go
def lp_b2 (fu : Nat) : Lp RT den (Int) := ⟨fun b s k => match b with | 0 => handle ps_b2_0 os_b2_0 conv_b2_0 (Bk_b2_0 fu) fu s k | 2 => handle ps_b2_2 os_b2_2 conv_b2_2 (Bk_b2_2 fu) fu s k | _ => none, inl0⟩
theorem ev_b2 (fu : Nat) (c_0 : S_impl_Config) : evFun E (pc_b2 fu) msk_b2 (lp_b2 fu) out_i64 56 [(.rptr [(ii c_0.Version), (.rs c_0.Backends.z .impl_Backend c_0.Backends.n c_0.Backends.f), (.rs c_0.Vips.z .impl_Vip c_0.Vips.n c_0.Vips.f)])] = F_spec_l5Fault fu c_0 := by kernel_rfl
noncomputable def body_b2 : Code := Tryz.f56.body.getD .skip
noncomputable def lc_b2_0 : Code := ((loops 0 body_b2).getD 0 (0, .skip)).2
theorem round_b2_0 (fu : Nat) : RoundOk E (pc_b2 fu) msk_b2 (lp_b2 fu) 0 lc_b2_0 back_b2_0 0 100000 0 (Bk_b2_0 fu) := fun it k c w => by kernel_rfl
theorem lpok_b2_0 (fu : Nat) : LpAt E (pc_b2 fu) msk_b2 (lp_b2 fu) 0 0 100000 0 lc_b2_0 :=
 handle_ok (ps := ps_b2_0) (os := os_b2_0) (conv := conv_b2_0) (B := Bk_b2_0 fu) (fu := fu) back_b2_0 (fun raw => by kernel_rfl) 0 (fun c w => by kernel_rfl) (round_b2_0 fu)
noncomputable def lc_b2_2 : Code := ((loops 0 body_b2).getD 1 (0, .skip)).2
theorem round_b2_2 (fu : Nat) : RoundOk E (pc_b2 fu) msk_b2 (lp_b2 fu) 2 lc_b2_2 back_b2_2 2 100002 0 (Bk_b2_2 fu) := fun it k c w => by kernel_rfl
theorem lpok_b2_2 (fu : Nat) : LpAt E (pc_b2 fu) msk_b2 (lp_b2 fu) 2 2 100002 2 lc_b2_2 :=
 handle_ok (ps := ps_b2_2) (os := os_b2_2) (conv := conv_b2_2) (B := Bk_b2_2 fu) (fu := fu) back_b2_2 (fun raw => by kernel_rfl) 0 (fun c w => by kernel_rfl) (round_b2_2 fu)
theorem lpok_b2 (fu : Nat) : LpOk E (pc_b2 fu) 0 msk_b2 (lp_b2 fu) (loops 0 body_b2) := lp_nil (loop_all 2 (by kernel_rfl) fun i hi => match i, hi with
 | 0, _ => by
  have h : (loops 0 body_b2).getD 0 (0, .skip) = (0, lc_b2_0) := by kernel_rfl
  rw [h]; exact lpok_b2_0 fu
 | 1, _ => by
  have h : (loops 0 body_b2).getD 1 (0, .skip) = (2, lc_b2_2) := by kernel_rfl
  rw [h]; exact lpok_b2_2 fu
 | i + 2, hi => absurd hi (by omega)) (by kernel_rfl)
def S_b2 (fu : Nat) (xs : List (D RT den)) : Option (Out RT den) := match xs with | [.rptr (.int .i64 a0_1 :: .rs za0_2 .impl_Backend na0_2 fa0_2 :: .rs za0_3 .impl_Vip na0_3 fa0_3 :: ra0)] => some ⟨Int, F_spec_l5Fault fu (⟨a0_1, (⟨za0_2, na0_2, fa0_2⟩ : (Sl S_impl_Backend)), (⟨za0_3, na0_3, fa0_3⟩ : (Sl S_impl_Vip))⟩ : S_impl_Config), enc_i64, fun _ => true⟩ | _ => none
theorem hpc_b2 (fu : Nat) : HpcOk E Tryz.prog (pcf_b2 fu) := by
 intro f xs o h
 unfold pcf_b2 at h
 split at h
 ·exact good_a35 fu xs o h
 ·exact good_a37 fu xs o h
 ·exact good_b1 fu xs o h
 ·cases h
theorem goodv_b2 (fu : Nat) (c_0 : S_impl_Config) (y : Int) (hy : F_spec_l5Fault fu c_0 = some y) : Vm.Good E Tryz.prog 56 [(.rptr [(ii c_0.Version), (.rs c_0.Backends.z .impl_Backend c_0.Backends.n c_0.Backends.f), (.rs c_0.Vips.z .impl_Vip c_0.Vips.n c_0.Vips.f)])] (enc_i64 y) :=
 fun_good E_ok (pc_good (pc := pc_b2 fu) (hpc_b2 fu) hpx0) (fn := Tryz.f56) (by kernel_rfl) (by kernel_rfl) (by kernel_rfl) (lpok_b2 fu) (fun d hd => out_i64_enc d _ hd) ((ev_b2 fu c_0).trans hy)
theorem good_b2 (fu : Nat) : GoodS E Tryz.prog 56 (S_b2 fu) := by
 intro xs o h y hy
 unfold S_b2 at h
 split at h
 ·rename_i a0_1 za0_2 na0_2 fa0_2 za0_3 na0_3 fa0_3 ra0
  cases h
  exact (goodv_b2 fu (⟨a0_1, (⟨za0_2, na0_2, fa0_2⟩ : (Sl S_impl_Backend)), (⟨za0_3, na0_3, fa0_3⟩ : (Sl S_impl_Vip))⟩ : S_impl_Config) y hy).sub ⟨Sub.of_eq ra0 rfl, trivial⟩
 ·cases h
def F_spec_l13Empty (fu : Nat) (c_0 : S_impl_Config) : Option (Bool) :=
 (((bif (c_0.Version == 0) then (bif (((c_0.Backends.n : Nat) : Int) == 0) then (some (((c_0.Vips.n : Nat) : Int) == 0)) else (some false)) else (some false)) : Option Bool).bind fun m101 =>
  (some m101))
def pc_b3 (fu : Nat) : Pc RT den := ⟨pcf0, fun _ => false, fun _ => false, pcd0, pcd0, pcd0, pcx0⟩
def msk_b3 (b : Nat) : List Nat := match b with | 200001 => [2] | _ => []
def lp_b3 (fu : Nat) : Lp RT den (Bool) := ⟨fun b s k => none, inl0⟩
theorem ev_b3 (fu : Nat) (c_0 : S_impl_Config) : evFun E (pc_b3 fu) msk_b3 (lp_b3 fu) out_bo 57 [(.rptr [(ii c_0.Version), (.rs c_0.Backends.z .impl_Backend c_0.Backends.n c_0.Backends.f), (.rs c_0.Vips.z .impl_Vip c_0.Vips.n c_0.Vips.f)])] = F_spec_l13Empty fu c_0 := by kernel_rfl
noncomputable def body_b3 : Code := Tryz.f57.body.getD .skip
theorem lpok_b3 (fu : Nat) : LpOk E (pc_b3 fu) 0 msk_b3 (lp_b3 fu) (loops 0 body_b3) := lp_nil (loop_nil (by kernel_rfl)) (by kernel_rfl)
def S_b3 (fu : Nat) (xs : List (D RT den)) : Option (Out RT den) := match xs with | [.rptr (.int .i64 a0_1 :: .rs za0_2 .impl_Backend na0_2 fa0_2 :: .rs za0_3 .impl_Vip na0_3 fa0_3 :: ra0)] => some ⟨Bool, F_spec_l13Empty fu (⟨a0_1, (⟨za0_2, na0_2, fa0_2⟩ : (Sl S_impl_Backend)), (⟨za0_3, na0_3, fa0_3⟩ : (Sl S_impl_Vip))⟩ : S_impl_Config), enc_bo, fun _ => true⟩ | _ => none
theorem goodv_b3 (fu : Nat) (c_0 : S_impl_Config) (y : Bool) (hy : F_spec_l13Empty fu c_0 = some y) : Vm.Good E Tryz.prog 57 [(.rptr [(ii c_0.Version), (.rs c_0.Backends.z .impl_Backend c_0.Backends.n c_0.Backends.f), (.rs c_0.Vips.z .impl_Vip c_0.Vips.n c_0.Vips.f)])] (enc_bo y) :=
 fun_good E_ok (pc_good (pc := pc_b3 fu) hpc0 hpx0) (fn := Tryz.f57) (by kernel_rfl) (by kernel_rfl) (by kernel_rfl) (lpok_b3 fu) (fun d hd => out_bo_enc d _ hd) ((ev_b3 fu c_0).trans hy)
theorem good_b3 (fu : Nat) : GoodS E Tryz.prog 57 (S_b3 fu) := by
 intro xs o h y hy
 unfold S_b3 at h
 split at h
 ·rename_i a0_1 za0_2 na0_2 fa0_2 za0_3 na0_3 fa0_3 ra0
  cases h
  exact (goodv_b3 fu (⟨a0_1, (⟨za0_2, na0_2, fa0_2⟩ : (Sl S_impl_Backend)), (⟨za0_3, na0_3, fa0_3⟩ : (Sl S_impl_Vip))⟩ : S_impl_Config) y hy).sub ⟨Sub.of_eq ra0 rfl, trivial⟩
 ·cases h
def F_spec_WatchFault (fu : Nat) (w_0 : S_impl_Watch) : Option (Int) :=
 ((F_spec_l5Fault fu w_0.Config).bind fun y100 => (bif (y100 != 0) then (some y100) else (((bif (!w_0.Ready) then ((F_spec_l13Empty fu w_0.Config).bind fun y102 => (some (!y102))) else
  (some false)) : Option Bool).bind fun m103 => (bif m103 then (some 1) else (some 0)))))
def pcf_b4 (fu f : Nat) (xs : List (D RT den)) : Option (Out RT den) := match f with | 56 => S_b2 fu xs | 57 => S_b3 fu xs | _ => none
def pc_b4 (fu : Nat) : Pc RT den := ⟨pcf_b4 fu, fun _ => false, fun _ => false, pcd0, pcd0, pcd0, pcx0⟩
def msk_b4 (b : Nat) : List Nat := match b with | 200004 => [16] | _ => []
def lp_b4 (fu : Nat) : Lp RT den (Int) := ⟨fun b s k => none, inl0⟩
theorem ev_b4 (fu : Nat) (w_0 : S_impl_Watch) : evFun E (pc_b4 fu) msk_b4 (lp_b4 fu) out_i64 28 [(.agg [(.bool w_0.Ready), (ii w_0.Config.Version), (.rs w_0.Config.Backends.z .impl_Backend w_0.Config.Backends.n w_0.Config.Backends.f), (.rs w_0.Config.Vips.z .impl_Vip w_0.Config.Vips.n w_0.Config.Vips.f)])] = F_spec_WatchFault fu w_0 := by kernel_rfl
noncomputable def body_b4 : Code := Tryz.f28.body.getD .skip
theorem lpok_b4 (fu : Nat) : LpOk E (pc_b4 fu) 0 msk_b4 (lp_b4 fu) (loops 0 body_b4) := lp_nil (loop_nil (by kernel_rfl)) (by kernel_rfl)
def S_b4 (fu : Nat) (xs : List (D RT den)) : Option (Out RT den) := match xs with | [.agg [.bool a0_1, .int .i64 a0_3, .rs za0_4 .impl_Backend na0_4 fa0_4, .rs za0_5 .impl_Vip na0_5 fa0_5]] => some ⟨Int, F_spec_WatchFault fu (⟨a0_1, (⟨a0_3, (⟨za0_4, na0_4, fa0_4⟩ : (Sl S_impl_Backend)), (⟨za0_5, na0_5, fa0_5⟩ : (Sl S_impl_Vip))⟩ : S_impl_Config)⟩ : S_impl_Watch), enc_i64, fun _ => true⟩ | _ => none
theorem hpc_b4 (fu : Nat) : HpcOk E Tryz.prog (pcf_b4 fu) := by
 intro f xs o h
 unfold pcf_b4 at h
 split at h
 ·exact good_b2 fu xs o h
 ·exact good_b3 fu xs o h
 ·cases h
theorem goodv_b4 (fu : Nat) (w_0 : S_impl_Watch) (y : Int) (hy : F_spec_WatchFault fu w_0 = some y) : Vm.Good E Tryz.prog 28 [(.agg [(.bool w_0.Ready), (ii w_0.Config.Version), (.rs w_0.Config.Backends.z .impl_Backend w_0.Config.Backends.n w_0.Config.Backends.f), (.rs w_0.Config.Vips.z .impl_Vip w_0.Config.Vips.n w_0.Config.Vips.f)])] (enc_i64 y) :=
 fun_good E_ok (pc_good (pc := pc_b4 fu) (hpc_b4 fu) hpx0) (fn := Tryz.f28) (by kernel_rfl) (by kernel_rfl) (by kernel_rfl) (lpok_b4 fu) (fun d hd => out_i64_enc d _ hd) ((ev_b4 fu w_0).trans hy)
theorem good_b4 (fu : Nat) : GoodS E Tryz.prog 28 (S_b4 fu) := by
 intro xs o h y hy
 unfold S_b4 at h
 split at h
 ·rename_i a0_1 a0_3 za0_4 na0_4 fa0_4 za0_5 na0_5 fa0_5
  cases h
  exact goodv_b4 fu (⟨a0_1, (⟨a0_3, (⟨za0_4, na0_4, fa0_4⟩ : (Sl S_impl_Backend)), (⟨za0_5, na0_5, fa0_5⟩ : (Sl S_impl_Vip))⟩ : S_impl_Config)⟩ : S_impl_Watch) y hy
 ·cases h
def F_spec_l5Nums_B0 {ρ : Type} (fu : Nat) (a0_0 b1_1 : (Sl Int)) (k0 : Option ρ) (k1 : Option ρ) (i5_2 : Int) (go : Int → Option ρ) : Option ρ :=
 (bif (decide (i5_2 < ((a0_0.n : Nat) : Int))) then ((bif (decide (0 ≤ i5_2) && decide ((Int.toNat i5_2) < a0_0.n)) then some () else none : Option Unit).bind fun _ => ((bif (decide (0 ≤ i5_2) &&
  decide ((Int.toNat i5_2) < b1_1.n)) then some () else none : Option Unit).bind fun _ => (bif ((a0_0.f (Int.toNat i5_2)) != (b1_1.f (Int.toNat i5_2))) then k0 else (go (IntKind.wrap .i64 (i5_2 + 1)))))) else
  k1)
def F_spec_l5Nums (fu : Nat) (a_0 b_1 : (Sl Int)) : Option (Bool) :=
 (bif (((a_0.n : Nat) : Int) != ((b_1.n : Nat) : Int)) then (some false) else (L (fun w0 go0 => F_spec_l5Nums_B0 fu a_0 b_1 (some false) (some true) w0 go0) fu (0 : Int)))
def pc_b5 (fu : Nat) : Pc RT den := ⟨pcf0, fun _ => false, fun _ => false, pcd0, pcd0, pcd0, pcx0⟩
def msk_b5 (b : Nat) : List Nat := match b with | 0 => (2 :: 3 :: 4 :: (rg 6 20 [])) | 100000 => (0 :: 1 :: 2 :: 3 :: (rg 5 21 [])) | _ => []
def ps_b5_0 : List (Pat RT) := (.flat (.rs .i64) :: .flat (.rs .i64) :: .flat .q :: .flat .q :: .flat .q :: .flat (.int .i64) :: (fq 20 []))
def os_b5_0 : List (OP RT) := []
def conv_b5_0 (r : Raw den ps_b5_0 os_b5_0) : ((Sl Int) × (Sl Int)) × (Int) := ((r.1.1, r.1.2.1), (e5 r.1).1)
def back_b5_0 (c : (Sl Int) × (Sl Int)) (w : Int) : St RT den := ⟨((.rs c.1.z .i64 c.1.n c.1.f) :: (.rs c.2.z .i64 c.2.n c.2.f) :: .q :: .q :: .q :: (ii w) :: (qs 20 [])), []⟩
def Bk_b5_0 {ρ : Type} (fu : Nat) (c : (Sl Int) × (Sl Int)) (k : Ex → St RT den → Option ρ) (w : Int) (go : (Int) → Option ρ) : Option ρ := F_spec_l5Nums_B0 fu c.1 c.2 (k .ret ⟨(qs 4 ((.bool false) :: (qs 21 []))), []⟩) (k (.exit 0) ⟨(qs 26 []), []⟩) w go
def lp_b5 (fu : Nat) : Lp RT den (Bool) := ⟨fun b s k => match b with | 0 => handle ps_b5_0 os_b5_0 conv_b5_0 (Bk_b5_0 fu) fu s k | _ => none, inl0⟩
theorem ev_b5 (fu : Nat) (a_0 b_1 : (Sl Int)) : evFun E (pc_b5 fu) msk_b5 (lp_b5 fu) out_bo 30 [(.rs a_0.z .i64 a_0.n a_0.f), (.rs b_1.z .i64 b_1.n b_1.f)] = F_spec_l5Nums fu a_0 b_1 := by kernel_rfl
noncomputable def body_b5 : Code := Tryz.f30.body.getD .skip
noncomputable def lc_b5_0 : Code := ((loops 0 body_b5).getD 0 (0, .skip)).2
theorem round_b5_0 (fu : Nat) : RoundOk E (pc_b5 fu) msk_b5 (lp_b5 fu) 0 lc_b5_0 back_b5_0 0 100000 0 (Bk_b5_0 fu) := fun it k c w => by kernel_rfl
theorem lpok_b5_0 (fu : Nat) : LpAt E (pc_b5 fu) msk_b5 (lp_b5 fu) 0 0 100000 0 lc_b5_0 :=
 handle_ok (ps := ps_b5_0) (os := os_b5_0) (conv := conv_b5_0) (B := Bk_b5_0 fu) (fu := fu) back_b5_0 (fun raw => by kernel_rfl) 0 (fun c w => by kernel_rfl) (round_b5_0 fu)
theorem lpok_b5 (fu : Nat) : LpOk E (pc_b5 fu) 0 msk_b5 (lp_b5 fu) (loops 0 body_b5) := lp_nil (loop_all 1 (by kernel_rfl) fun i hi => match i, hi with
 | 0, _ => by
  have h : (loops 0 body_b5).getD 0 (0, .skip) = (0, lc_b5_0) := by kernel_rfl
  rw [h]; exact lpok_b5_0 fu
 | i + 1, hi => absurd hi (by omega)) (by kernel_rfl)
def S_b5 (fu : Nat) (xs : List (D RT den)) : Option (Out RT den) := match xs with | [.rs za0_0 .i64 na0_0 fa0_0, .rs za1_0 .i64 na1_0 fa1_0] => some ⟨Bool, F_spec_l5Nums fu (⟨za0_0, na0_0, fa0_0⟩ : (Sl Int)) (⟨za1_0, na1_0, fa1_0⟩ : (Sl Int)), enc_bo, fun _ => true⟩ | _ => none
theorem goodv_b5 (fu : Nat) (a_0 b_1 : (Sl Int)) (y : Bool) (hy : F_spec_l5Nums fu a_0 b_1 = some y) : Vm.Good E Tryz.prog 30 [(.rs a_0.z .i64 a_0.n a_0.f), (.rs b_1.z .i64 b_1.n b_1.f)] (enc_bo y) :=
 fun_good E_ok (pc_good (pc := pc_b5 fu) hpc0 hpx0) (fn := Tryz.f30) (by kernel_rfl) (by kernel_rfl) (by kernel_rfl) (lpok_b5 fu) (fun d hd => out_bo_enc d _ hd) ((ev_b5 fu a_0 b_1).trans hy)
theorem good_b5 (fu : Nat) : GoodS E Tryz.prog 30 (S_b5 fu) := by
 intro xs o h y hy
 unfold S_b5 at h
 split at h
 ·rename_i za0_0 na0_0 fa0_0 za1_0 na1_0 fa1_0
  cases h
  exact goodv_b5 fu (⟨za0_0, na0_0, fa0_0⟩ : (Sl Int)) (⟨za1_0, na1_0, fa1_0⟩ : (Sl Int)) y hy
 ·cases h
def F_spec_l3Flow (fu : Nat) (f_0 : S_impl_Flow) : Option (Bool) :=
 ((((F_spec_l2Address fu f_0.From).bind fun y137 => (bif y137 then ((F_spec_l2Address fu f_0.To).bind fun y138 => (bif y138 then (bif (f_0.Proto == 6) then ((F_spec_l2Port fu f_0.FromP).bind fun y139 =>
  (bif y139 then ((F_spec_l2Port fu f_0.ToP).bind fun y140 => (some y140)) else (some false))) else (bif (f_0.Proto == 17) then ((F_spec_l2Port fu f_0.FromP).bind fun y141 => (bif y141 then
  ((F_spec_l2Port fu f_0.ToP).bind fun y142 => (some y142)) else (some false))) else (some false))) else (some false))) else (some false))) : Option Bool).bind fun m143 => (some m143))
def pcf_b6 (fu f : Nat) (xs : List (D RT den)) : Option (Out RT den) := match f with | 26 => S_a33 fu xs | 86 => S_a38 fu xs | _ => none
def pc_b6 (fu : Nat) : Pc RT den := ⟨pcf_b6 fu, fun _ => false, fun _ => false, pcd0, pcd0, pcd0, pcx0⟩
def msk_b6 (b : Nat) : List Nat := match b with | 200001 => [2] | _ => []
def lp_b6 (fu : Nat) : Lp RT den (Bool) := ⟨fun b s k => none, inl0⟩
theorem ev_b6 (fu : Nat) (f_0 : S_impl_Flow) : evFun E (pc_b6 fu) msk_b6 (lp_b6 fu) out_bo 60 [(.agg [(ii f_0.From), (ii f_0.To), (ii f_0.Proto), (ii f_0.FromP), (ii f_0.ToP)])] = F_spec_l3Flow fu f_0 := by kernel_rfl
noncomputable def body_b6 : Code := Tryz.f60.body.getD .skip
theorem lpok_b6 (fu : Nat) : LpOk E (pc_b6 fu) 0 msk_b6 (lp_b6 fu) (loops 0 body_b6) := lp_nil (loop_nil (by kernel_rfl)) (by kernel_rfl)
def S_b6 (fu : Nat) (xs : List (D RT den)) : Option (Out RT den) := match xs with | [.agg [.int .i64 a0_1, .int .i64 a0_2, .int .i64 a0_3, .int .i64 a0_4, .int .i64 a0_5]] => some ⟨Bool, F_spec_l3Flow fu (⟨a0_1, a0_2, a0_3, a0_4, a0_5⟩ : S_impl_Flow), enc_bo, fun _ => true⟩ | _ => none
theorem hpc_b6 (fu : Nat) : HpcOk E Tryz.prog (pcf_b6 fu) := by
 intro f xs o h
 unfold pcf_b6 at h
 split at h
 ·exact good_a33 fu xs o h
 ·exact good_a38 fu xs o h
 ·cases h
theorem goodv_b6 (fu : Nat) (f_0 : S_impl_Flow) (y : Bool) (hy : F_spec_l3Flow fu f_0 = some y) : Vm.Good E Tryz.prog 60 [(.agg [(ii f_0.From), (ii f_0.To), (ii f_0.Proto), (ii f_0.FromP), (ii f_0.ToP)])] (enc_bo y) :=
 fun_good E_ok (pc_good (pc := pc_b6 fu) (hpc_b6 fu) hpx0) (fn := Tryz.f60) (by kernel_rfl) (by kernel_rfl) (by kernel_rfl) (lpok_b6 fu) (fun d hd => out_bo_enc d _ hd) ((ev_b6 fu f_0).trans hy)
theorem good_b6 (fu : Nat) : GoodS E Tryz.prog 60 (S_b6 fu) := by
 intro xs o h y hy
 unfold S_b6 at h
 split at h
 ·rename_i a0_1 a0_2 a0_3 a0_4 a0_5
  cases h
  exact goodv_b6 fu (⟨a0_1, a0_2, a0_3, a0_4, a0_5⟩ : S_impl_Flow) y hy
 ·cases h
def F_spec_l5For_B0 {ρ : Type} (fu : Nat) (c0_0 : Int) (c0_1 : (Sl S_impl_Backend)) (c0_2 : (Sl S_impl_Vip)) (o0_4 o0_5 o0_6 o0_7 o0_8 : Int) (k0 : Int → Int → Int → Int → (Sl Int) → Option ρ) (k1 : Option ρ) (i5_3 : Int) (go : Int → Option ρ) : Option ρ :=
 (bif (decide (i5_3 < ((c0_2.n : Nat) : Int))) then ((bif (decide (0 ≤ i5_3) && decide ((Int.toNat i5_3) < c0_2.n)) then some () else none : Option Unit).bind fun _ => (((bif ((c0_2.f (Int.toNat i5_3)).Address == o0_5) then
  (bif ((c0_2.f (Int.toNat i5_3)).Port == o0_8) then (some ((c0_2.f (Int.toNat i5_3)).Proto == o0_6)) else (some false)) else (some false)) : Option Bool).bind fun m148 => (bif m148 then
  (k0 i5_3 (c0_2.f (Int.toNat i5_3)).Address (c0_2.f (Int.toNat i5_3)).Port (c0_2.f (Int.toNat i5_3)).Proto (c0_2.f (Int.toNat i5_3)).Names) else (go (IntKind.wrap .i64 (i5_3 + 1)))))) else
  k1)
def F_spec_l5For (fu : Nat) (c_0 : S_impl_Config) (f_1 : S_impl_Flow) : Option (Int) :=
 (L (fun w0 go0 => F_spec_l5For_B0 fu c_0.Version c_0.Backends c_0.Vips f_1.From f_1.To f_1.Proto f_1.FromP f_1.ToP (fun z149 z150 z151 z152 z153 => (some z149)) (some (-1)) w0 go0) fu (0 : Int))
def pc_b7 (fu : Nat) : Pc RT den := ⟨pcf0, fun _ => false, fun _ => false, pcd0, pcd0, pcd0, pcx0⟩
def msk_b7 (b : Nat) : List Nat := match b with | 0 => (1 :: 2 :: 4 :: (rg 6 37 [])) | 100000 => (0 :: 1 :: 2 :: 3 :: (rg 5 38 [])) | 200005 => [41] | _ => []
def ps_b7_0 : List (Pat RT) := (.rptr [(.int .i64), (.rs .impl_Backend), (.rs .impl_Vip)] :: .flat .q :: .flat .q :: .flat (.ref 0 0) :: .flat .q :: .flat (.int .i64) :: (fq 37 []))
def os_b7_0 : List (OP RT) := [.box false [(.int .i64), (.int .i64), (.int .i64), (.int .i64), (.int .i64)]]
def conv_b7_0 (r : Raw den ps_b7_0 os_b7_0) : (Yc1) × (Int) := ((r.1.1.1, r.1.1.2.1, r.1.1.2.2.1, r.2.1.1, r.2.1.2.1, r.2.1.2.2.1, r.2.1.2.2.2.1, r.2.1.2.2.2.2.1), (e5 r.1).1)
def back_b7_0 (c : Yc1) (w : Int) : St RT den := ⟨((.rptr [(ii c.1), (.rs c.2.1.z .impl_Backend c.2.1.n c.2.1.f), (.rs c.2.2.1.z .impl_Vip c.2.2.1.n c.2.2.1.f)]) :: .q :: .q :: (.ref 0 0) :: .q :: (ii w) :: (qs 37 [])), [(.box false [(ii c.2.2.2.1), (ii c.2.2.2.2.1), (ii (e5 c).1), (ii (e5 c).2.1), (ii (e5 c).2.2)])]⟩
def Bk_b7_0 {ρ : Type} (fu : Nat) (c : Yc1) (k : Ex → St RT den → Option ρ) (w : Int) (go : (Int) → Option ρ) : Option ρ := F_spec_l5For_B0 fu c.1 c.2.1 c.2.2.1 c.2.2.2.1 c.2.2.2.2.1 (e5 c).1 (e5 c).2.1 (e5 c).2.2 (fun a0 a1 a2 a3 a4 => k .ret ⟨(qs 4 ((ii a0) :: (qs 38 []))), [(.box false [(ii c.2.2.2.1), (ii c.2.2.2.2.1), (ii (e5 c).1), (ii (e5 c).2.1), (ii (e5 c).2.2)]), (.box false [(ii a1), (ii a2), (ii a3), (.rs a4.z .i64 a4.n a4.f)])]⟩) (k (.exit 0) ⟨(qs 43 []), [(.box false [(ii c.2.2.2.1), (ii c.2.2.2.2.1), (ii (e5 c).1), (ii (e5 c).2.1), (ii (e5 c).2.2)])]⟩) w go
def lp_b7 (fu : Nat) : Lp RT den (Int) := ⟨fun b s k => match b with | 0 => handle ps_b7_0 os_b7_0 conv_b7_0 (Bk_b7_0 fu) fu s k | _ => none, inl0⟩
theorem ev_b7 (fu : Nat) (c_0 : S_impl_Config) (f_1 : S_impl_Flow) : evFun E (pc_b7 fu) msk_b7 (lp_b7 fu) out_i64 87 [(.rptr [(ii c_0.Version), (.rs c_0.Backends.z .impl_Backend c_0.Backends.n c_0.Backends.f), (.rs c_0.Vips.z .impl_Vip c_0.Vips.n c_0.Vips.f)]), (.agg [(ii f_1.From), (ii f_1.To), (ii f_1.Proto), (ii f_1.FromP), (ii f_1.ToP)])] = F_spec_l5For fu c_0 f_1 := by kernel_rfl
noncomputable def body_b7 : Code := Tryz.f87.body.getD .skip
noncomputable def lc_b7_0 : Code := ((loops 0 body_b7).getD 0 (0, .skip)).2
theorem round_b7_0 (fu : Nat) : RoundOk E (pc_b7 fu) msk_b7 (lp_b7 fu) 0 lc_b7_0 back_b7_0 0 100000 1 (Bk_b7_0 fu) := fun it k c w => by kernel_rfl
theorem lpok_b7_0 (fu : Nat) : LpAt E (pc_b7 fu) msk_b7 (lp_b7 fu) 0 0 100000 0 lc_b7_0 :=
 handle_ok (ps := ps_b7_0) (os := os_b7_0) (conv := conv_b7_0) (B := Bk_b7_0 fu) (fu := fu) back_b7_0 (fun raw => by kernel_rfl) 1 (fun c w => by kernel_rfl) (round_b7_0 fu)
theorem lpok_b7 (fu : Nat) : LpOk E (pc_b7 fu) 0 msk_b7 (lp_b7 fu) (loops 0 body_b7) := lp_nil (loop_all 1 (by kernel_rfl) fun i hi => match i, hi with
 | 0, _ => by
  have h : (loops 0 body_b7).getD 0 (0, .skip) = (0, lc_b7_0) := by kernel_rfl
  rw [h]; exact lpok_b7_0 fu
 | i + 1, hi => absurd hi (by omega)) (by kernel_rfl)
def S_b7 (fu : Nat) (xs : List (D RT den)) : Option (Out RT den) := match xs with | [.rptr (.int .i64 a0_1 :: .rs za0_2 .impl_Backend na0_2 fa0_2 :: .rs za0_3 .impl_Vip na0_3 fa0_3 :: ra0), .agg [.int .i64 a1_1, .int .i64 a1_2, .int .i64 a1_3, .int .i64 a1_4, .int .i64 a1_5]] => some ⟨Int, F_spec_l5For fu (⟨a0_1, (⟨za0_2, na0_2, fa0_2⟩ : (Sl S_impl_Backend)), (⟨za0_3, na0_3, fa0_3⟩ : (Sl S_impl_Vip))⟩ : S_impl_Config) (⟨a1_1, a1_2, a1_3, a1_4, a1_5⟩ : S_impl_Flow), enc_i64, fun _ => true⟩ | _ => none
theorem goodv_b7 (fu : Nat) (c_0 : S_impl_Config) (f_1 : S_impl_Flow) (y : Int) (hy : F_spec_l5For fu c_0 f_1 = some y) : Vm.Good E Tryz.prog 87 [(.rptr [(ii c_0.Version), (.rs c_0.Backends.z .impl_Backend c_0.Backends.n c_0.Backends.f), (.rs c_0.Vips.z .impl_Vip c_0.Vips.n c_0.Vips.f)]), (.agg [(ii f_1.From), (ii f_1.To), (ii f_1.Proto), (ii f_1.FromP), (ii f_1.ToP)])] (enc_i64 y) :=
 fun_good E_ok (pc_good (pc := pc_b7 fu) hpc0 hpx0) (fn := Tryz.f87) (by kernel_rfl) (by kernel_rfl) (by kernel_rfl) (lpok_b7 fu) (fun d hd => out_i64_enc d _ hd) ((ev_b7 fu c_0 f_1).trans hy)
theorem good_b7 (fu : Nat) : GoodS E Tryz.prog 87 (S_b7 fu) := by
 intro xs o h y hy
 unfold S_b7 at h
 split at h
 ·rename_i a0_1 za0_2 na0_2 fa0_2 za0_3 na0_3 fa0_3 ra0 a1_1 a1_2 a1_3 a1_4 a1_5
  cases h
  exact (goodv_b7 fu (⟨a0_1, (⟨za0_2, na0_2, fa0_2⟩ : (Sl S_impl_Backend)), (⟨za0_3, na0_3, fa0_3⟩ : (Sl S_impl_Vip))⟩ : S_impl_Config) (⟨a1_1, a1_2, a1_3, a1_4, a1_5⟩ : S_impl_Flow) y hy).sub ⟨Sub.of_eq ra0 rfl, .refl _, trivial⟩
 ·cases h
def F_spec_l1Has_B0 {ρ : Type} (fu : Nat) (list0_0 : (Sl Int)) (v1_1 : Int) (k0 : Option ρ) (k1 : Option ρ) (i5_2 : Int) (go : Int → Option ρ) : Option ρ :=
 (bif (decide (i5_2 < ((list0_0.n : Nat) : Int))) then ((bif (decide (0 ≤ i5_2) && decide ((Int.toNat i5_2) < list0_0.n)) then some () else none : Option Unit).bind fun _ => (bif ((list0_0.f (Int.toNat i5_2)) == v1_1) then
  k0 else (go (IntKind.wrap .i64 (i5_2 + 1))))) else k1)
def F_spec_l1Has (fu : Nat) (list_0 : (Sl Int)) (v_1 : Int) : Option (Bool) :=
 (L (fun w0 go0 => F_spec_l1Has_B0 fu list_0 v_1 (some true) (some false) w0 go0) fu (0 : Int))
def pc_b8 (fu : Nat) : Pc RT den := ⟨pcf0, fun _ => false, fun _ => false, pcd0, pcd0, pcd0, pcx0⟩
def msk_b8 (b : Nat) : List Nat := match b with | 0 => (2 :: 3 :: 4 :: (rg 6 12 [])) | 100000 => (0 :: 1 :: 2 :: 3 :: (rg 5 13 [])) | _ => []
def ps_b8_0 : List (Pat RT) := (.flat (.rs .i64) :: .flat (.int .i64) :: .flat .q :: .flat .q :: .flat .q :: .flat (.int .i64) :: (fq 12 []))
def os_b8_0 : List (OP RT) := []
def conv_b8_0 (r : Raw den ps_b8_0 os_b8_0) : ((Sl Int) × Int) × (Int) := ((r.1.1, r.1.2.1), (e5 r.1).1)
def back_b8_0 (c : (Sl Int) × Int) (w : Int) : St RT den := ⟨((.rs c.1.z .i64 c.1.n c.1.f) :: (ii c.2) :: .q :: .q :: .q :: (ii w) :: (qs 12 [])), []⟩
def Bk_b8_0 {ρ : Type} (fu : Nat) (c : (Sl Int) × Int) (k : Ex → St RT den → Option ρ) (w : Int) (go : (Int) → Option ρ) : Option ρ := F_spec_l1Has_B0 fu c.1 c.2 (k .ret ⟨(qs 4 ((.bool true) :: (qs 13 []))), []⟩) (k (.exit 0) ⟨(qs 18 []), []⟩) w go
def lp_b8 (fu : Nat) : Lp RT den (Bool) := ⟨fun b s k => match b with | 0 => handle ps_b8_0 os_b8_0 conv_b8_0 (Bk_b8_0 fu) fu s k | _ => none, inl0⟩
theorem ev_b8 (fu : Nat) (list_0 : (Sl Int)) (v_1 : Int) : evFun E (pc_b8 fu) msk_b8 (lp_b8 fu) out_bo 88 [(.rs list_0.z .i64 list_0.n list_0.f), (ii v_1)] = F_spec_l1Has fu list_0 v_1 := by kernel_rfl
noncomputable def body_b8 : Code := Tryz.f88.body.getD .skip
noncomputable def lc_b8_0 : Code := ((loops 0 body_b8).getD 0 (0, .skip)).2
theorem round_b8_0 (fu : Nat) : RoundOk E (pc_b8 fu) msk_b8 (lp_b8 fu) 0 lc_b8_0 back_b8_0 0 100000 0 (Bk_b8_0 fu) := fun it k c w => by kernel_rfl
theorem lpok_b8_0 (fu : Nat) : LpAt E (pc_b8 fu) msk_b8 (lp_b8 fu) 0 0 100000 0 lc_b8_0 :=
 handle_ok (ps := ps_b8_0) (os := os_b8_0) (conv := conv_b8_0) (B := Bk_b8_0 fu) (fu := fu) back_b8_0 (fun raw => by kernel_rfl) 0 (fun c w => by kernel_rfl) (round_b8_0 fu)
theorem lpok_b8 (fu : Nat) : LpOk E (pc_b8 fu) 0 msk_b8 (lp_b8 fu) (loops 0 body_b8) := lp_nil (loop_all 1 (by kernel_rfl) fun i hi => match i, hi with
 | 0, _ => by
  have h : (loops 0 body_b8).getD 0 (0, .skip) = (0, lc_b8_0) := by kernel_rfl
  rw [h]; exact lpok_b8_0 fu
 | i + 1, hi => absurd hi (by omega)) (by kernel_rfl)
def S_b8 (fu : Nat) (xs : List (D RT den)) : Option (Out RT den) := match xs with | [.rs za0_0 .i64 na0_0 fa0_0, .int .i64 a1_0] => some ⟨Bool, F_spec_l1Has fu (⟨za0_0, na0_0, fa0_0⟩ : (Sl Int)) a1_0, enc_bo, fun _ => true⟩ | _ => none
theorem goodv_b8 (fu : Nat) (list_0 : (Sl Int)) (v_1 : Int) (y : Bool) (hy : F_spec_l1Has fu list_0 v_1 = some y) : Vm.Good E Tryz.prog 88 [(.rs list_0.z .i64 list_0.n list_0.f), (ii v_1)] (enc_bo y) :=
 fun_good E_ok (pc_good (pc := pc_b8 fu) hpc0 hpx0) (fn := Tryz.f88) (by kernel_rfl) (by kernel_rfl) (by kernel_rfl) (lpok_b8 fu) (fun d hd => out_bo_enc d _ hd) ((ev_b8 fu list_0 v_1).trans hy)
theorem good_b8 (fu : Nat) : GoodS E Tryz.prog 88 (S_b8 fu) := by
 intro xs o h y hy
 unfold S_b8 at h
 split at h
 ·rename_i za0_0 na0_0 fa0_0 a1_0
  cases h
  exact goodv_b8 fu (⟨za0_0, na0_0, fa0_0⟩ : (Sl Int)) a1_0 y hy
 ·cases h
def F_spec_l14Serves (fu : Nat) (c_0 : S_impl_Config) (f_1 : S_impl_Flow) (name_2 : Int) : Option (Bool) :=
 ((F_spec_l5For fu c_0 f_1).bind fun y144 => (((bif (decide (y144 < 0)) then (some true) else ((bif (decide (0 ≤ y144) && decide ((Int.toNat y144) < c_0.Vips.n)) then some () else
  none : Option Unit).bind fun _ => ((F_spec_l1Has fu (c_0.Vips.f (Int.toNat y144)).Names name_2).bind fun y145 => (some (!y145))))) : Option Bool).bind fun m146 => (bif m146 then
  (some false) else ((F_spec_l5At fu c_0 name_2).bind fun y147 => ((bif (decide (0 ≤ y147) && decide ((Int.toNat y147) < c_0.Backends.n)) then some () else none : Option Unit).bind fun _ =>
  (some ((c_0.Backends.f (Int.toNat y147)).Stage != 3)))))))
def pcf_b9 (fu f : Nat) (xs : List (D RT den)) : Option (Out RT den) := match f with | 85 => S_a21 fu xs | 87 => S_b7 fu xs | 88 => S_b8 fu xs | _ => none
def pc_b9 (fu : Nat) : Pc RT den := ⟨pcf_b9 fu, fun _ => false, fun _ => false, pcd0, pcd0, pcd0, pcx0⟩
def msk_b9 (b : Nat) : List Nat := match b with | 200002 => [25] | _ => []
def lp_b9 (fu : Nat) : Lp RT den (Bool) := ⟨fun b s k => none, inl0⟩
theorem ev_b9 (fu : Nat) (c_0 : S_impl_Config) (f_1 : S_impl_Flow) (name_2 : Int) : evFun E (pc_b9 fu) msk_b9 (lp_b9 fu) out_bo 61 [(.rptr [(ii c_0.Version), (.rs c_0.Backends.z .impl_Backend c_0.Backends.n c_0.Backends.f), (.rs c_0.Vips.z .impl_Vip c_0.Vips.n c_0.Vips.f)]), (.agg [(ii f_1.From), (ii f_1.To), (ii f_1.Proto), (ii f_1.FromP), (ii f_1.ToP)]), (ii name_2)] = F_spec_l14Serves fu c_0 f_1 name_2 := by kernel_rfl
noncomputable def body_b9 : Code := Tryz.f61.body.getD .skip
theorem lpok_b9 (fu : Nat) : LpOk E (pc_b9 fu) 0 msk_b9 (lp_b9 fu) (loops 0 body_b9) := lp_nil (loop_nil (by kernel_rfl)) (by kernel_rfl)
def S_b9 (fu : Nat) (xs : List (D RT den)) : Option (Out RT den) := match xs with | [.rptr (.int .i64 a0_1 :: .rs za0_2 .impl_Backend na0_2 fa0_2 :: .rs za0_3 .impl_Vip na0_3 fa0_3 :: ra0), .agg [.int .i64 a1_1, .int .i64 a1_2, .int .i64 a1_3, .int .i64 a1_4, .int .i64 a1_5], .int .i64 a2_0] => some ⟨Bool, F_spec_l14Serves fu (⟨a0_1, (⟨za0_2, na0_2, fa0_2⟩ : (Sl S_impl_Backend)), (⟨za0_3, na0_3, fa0_3⟩ : (Sl S_impl_Vip))⟩ : S_impl_Config) (⟨a1_1, a1_2, a1_3, a1_4, a1_5⟩ : S_impl_Flow) a2_0, enc_bo, fun _ => true⟩ | _ => none
theorem hpc_b9 (fu : Nat) : HpcOk E Tryz.prog (pcf_b9 fu) := by
 intro f xs o h
 unfold pcf_b9 at h
 split at h
 ·exact good_a21 fu xs o h
 ·exact good_b7 fu xs o h
 ·exact good_b8 fu xs o h
 ·cases h
theorem goodv_b9 (fu : Nat) (c_0 : S_impl_Config) (f_1 : S_impl_Flow) (name_2 : Int) (y : Bool) (hy : F_spec_l14Serves fu c_0 f_1 name_2 = some y) : Vm.Good E Tryz.prog 61 [(.rptr [(ii c_0.Version), (.rs c_0.Backends.z .impl_Backend c_0.Backends.n c_0.Backends.f), (.rs c_0.Vips.z .impl_Vip c_0.Vips.n c_0.Vips.f)]), (.agg [(ii f_1.From), (ii f_1.To), (ii f_1.Proto), (ii f_1.FromP), (ii f_1.ToP)]), (ii name_2)] (enc_bo y) :=
 fun_good E_ok (pc_good (pc := pc_b9 fu) (hpc_b9 fu) hpx0) (fn := Tryz.f61) (by kernel_rfl) (by kernel_rfl) (by kernel_rfl) (lpok_b9 fu) (fun d hd => out_bo_enc d _ hd) ((ev_b9 fu c_0 f_1 name_2).trans hy)
theorem good_b9 (fu : Nat) : GoodS E Tryz.prog 61 (S_b9 fu) := by
 intro xs o h y hy
 unfold S_b9 at h
 split at h
 ·rename_i a0_1 za0_2 na0_2 fa0_2 za0_3 na0_3 fa0_3 ra0 a1_1 a1_2 a1_3 a1_4 a1_5 a2_0
  cases h
  exact (goodv_b9 fu (⟨a0_1, (⟨za0_2, na0_2, fa0_2⟩ : (Sl S_impl_Backend)), (⟨za0_3, na0_3, fa0_3⟩ : (Sl S_impl_Vip))⟩ : S_impl_Config) (⟨a1_1, a1_2, a1_3, a1_4, a1_5⟩ : S_impl_Flow) a2_0 y hy).sub ⟨Sub.of_eq ra0 rfl, .refl _, .refl _, trivial⟩
 ·cases h
def F_spec_l14Find_B0 {ρ : Type} (fu : Nat) (list0_0 : (Sl S_impl_Held)) (o0_2 o0_3 o0_4 o0_5 o0_6 : Int) (k0 : Int → Option ρ) (k1 : Option ρ) (i5_1 : Int) (go : Int → Option ρ) : Option ρ :=
 (bif (decide (i5_1 < ((list0_0.n : Nat) : Int))) then ((bif (decide (0 ≤ i5_1) && decide ((Int.toNat i5_1) < list0_0.n)) then some () else none : Option Unit).bind fun _ => (bif (((list0_0.f (Int.toNat i5_1)).Flow.From == o0_2) &&
  (((list0_0.f (Int.toNat i5_1)).Flow.To == o0_3) && (((list0_0.f (Int.toNat i5_1)).Flow.Proto == o0_4) && (((list0_0.f (Int.toNat i5_1)).Flow.FromP == o0_5) && (((list0_0.f (Int.toNat i5_1)).Flow.ToP == o0_6) &&
  true))))) then (k0 i5_1) else (go (IntKind.wrap .i64 (i5_1 + 1))))) else k1)
def F_spec_l14Find (fu : Nat) (list_0 : (Sl S_impl_Held)) (f_1 : S_impl_Flow) : Option (Int) :=
 (L (fun w0 go0 => F_spec_l14Find_B0 fu list_0 f_1.From f_1.To f_1.Proto f_1.FromP f_1.ToP (fun z154 => (some z154)) (some (-1)) w0 go0) fu (0 : Int))
def pc_b10 (fu : Nat) : Pc RT den := ⟨pcf0, fun _ => false, fun _ => false, pcd0, pcd0, pcd0, pcx0⟩
def msk_b10 (b : Nat) : List Nat := match b with | 0 => (1 :: 2 :: 4 :: (rg 6 14 [])) | 100000 => (0 :: 1 :: 2 :: 3 :: (rg 5 15 [])) | _ => []
def ps_b10_0 : List (Pat RT) := (.flat (.rs .impl_Held) :: .flat .q :: .flat .q :: .flat (.ref 0 0) :: .flat .q :: .flat (.int .i64) :: (fq 14 []))
def os_b10_0 : List (OP RT) := [.box false [(.int .i64), (.int .i64), (.int .i64), (.int .i64), (.int .i64)]]
def conv_b10_0 (r : Raw den ps_b10_0 os_b10_0) : (Yc0) × (Int) := ((r.1.1, r.2.1.1, r.2.1.2.1, r.2.1.2.2.1, r.2.1.2.2.2.1, r.2.1.2.2.2.2.1), (e5 r.1).1)
def back_b10_0 (c : Yc0) (w : Int) : St RT den := ⟨((.rs c.1.z .impl_Held c.1.n c.1.f) :: .q :: .q :: (.ref 0 0) :: .q :: (ii w) :: (qs 14 [])), [(.box false [(ii c.2.1), (ii c.2.2.1), (ii c.2.2.2.1), (ii c.2.2.2.2.1), (ii (e5 c))])]⟩
def Bk_b10_0 {ρ : Type} (fu : Nat) (c : Yc0) (k : Ex → St RT den → Option ρ) (w : Int) (go : (Int) → Option ρ) : Option ρ := F_spec_l14Find_B0 fu c.1 c.2.1 c.2.2.1 c.2.2.2.1 c.2.2.2.2.1 (e5 c) (fun a0 => k .ret ⟨(qs 4 ((ii a0) :: (qs 15 []))), [(.box false [(ii c.2.1), (ii c.2.2.1), (ii c.2.2.2.1), (ii c.2.2.2.2.1), (ii (e5 c))])]⟩) (k (.exit 0) ⟨(qs 20 []), [(.box false [(ii c.2.1), (ii c.2.2.1), (ii c.2.2.2.1), (ii c.2.2.2.2.1), (ii (e5 c))])]⟩) w go
def lp_b10 (fu : Nat) : Lp RT den (Int) := ⟨fun b s k => match b with | 0 => handle ps_b10_0 os_b10_0 conv_b10_0 (Bk_b10_0 fu) fu s k | _ => none, inl0⟩
theorem ev_b10 (fu : Nat) (list_0 : (Sl S_impl_Held)) (f_1 : S_impl_Flow) : evFun E (pc_b10 fu) msk_b10 (lp_b10 fu) out_i64 62 [(.rs list_0.z .impl_Held list_0.n list_0.f), (.agg [(ii f_1.From), (ii f_1.To), (ii f_1.Proto), (ii f_1.FromP), (ii f_1.ToP)])] = F_spec_l14Find fu list_0 f_1 := by kernel_rfl
noncomputable def body_b10 : Code := Tryz.f62.body.getD .skip
noncomputable def lc_b10_0 : Code := ((loops 0 body_b10).getD 0 (0, .skip)).2
theorem round_b10_0 (fu : Nat) : RoundOk E (pc_b10 fu) msk_b10 (lp_b10 fu) 0 lc_b10_0 back_b10_0 0 100000 1 (Bk_b10_0 fu) := fun it k c w => by kernel_rfl
theorem lpok_b10_0 (fu : Nat) : LpAt E (pc_b10 fu) msk_b10 (lp_b10 fu) 0 0 100000 0 lc_b10_0 :=
 handle_ok (ps := ps_b10_0) (os := os_b10_0) (conv := conv_b10_0) (B := Bk_b10_0 fu) (fu := fu) back_b10_0 (fun raw => by kernel_rfl) 1 (fun c w => by kernel_rfl) (round_b10_0 fu)
theorem lpok_b10 (fu : Nat) : LpOk E (pc_b10 fu) 0 msk_b10 (lp_b10 fu) (loops 0 body_b10) := lp_nil (loop_all 1 (by kernel_rfl) fun i hi => match i, hi with
 | 0, _ => by
  have h : (loops 0 body_b10).getD 0 (0, .skip) = (0, lc_b10_0) := by kernel_rfl
  rw [h]; exact lpok_b10_0 fu
 | i + 1, hi => absurd hi (by omega)) (by kernel_rfl)
def S_b10 (fu : Nat) (xs : List (D RT den)) : Option (Out RT den) := match xs with | [.rs za0_0 .impl_Held na0_0 fa0_0, .agg [.int .i64 a1_1, .int .i64 a1_2, .int .i64 a1_3, .int .i64 a1_4, .int .i64 a1_5]] => some ⟨Int, F_spec_l14Find fu (⟨za0_0, na0_0, fa0_0⟩ : (Sl S_impl_Held)) (⟨a1_1, a1_2, a1_3, a1_4, a1_5⟩ : S_impl_Flow), enc_i64, fun _ => true⟩ | _ => none
theorem goodv_b10 (fu : Nat) (list_0 : (Sl S_impl_Held)) (f_1 : S_impl_Flow) (y : Int) (hy : F_spec_l14Find fu list_0 f_1 = some y) : Vm.Good E Tryz.prog 62 [(.rs list_0.z .impl_Held list_0.n list_0.f), (.agg [(ii f_1.From), (ii f_1.To), (ii f_1.Proto), (ii f_1.FromP), (ii f_1.ToP)])] (enc_i64 y) :=
 fun_good E_ok (pc_good (pc := pc_b10 fu) hpc0 hpx0) (fn := Tryz.f62) (by kernel_rfl) (by kernel_rfl) (by kernel_rfl) (lpok_b10 fu) (fun d hd => out_i64_enc d _ hd) ((ev_b10 fu list_0 f_1).trans hy)
theorem good_b10 (fu : Nat) : GoodS E Tryz.prog 62 (S_b10 fu) := by
 intro xs o h y hy
 unfold S_b10 at h
 split at h
 ·rename_i za0_0 na0_0 fa0_0 a1_1 a1_2 a1_3 a1_4 a1_5
  cases h
  exact goodv_b10 fu (⟨za0_0, na0_0, fa0_0⟩ : (Sl S_impl_Held)) (⟨a1_1, a1_2, a1_3, a1_4, a1_5⟩ : S_impl_Flow) y hy
 ·cases h
def F_spec_l14Held_B0 {ρ : Type} (fu : Nat) (m0_0 m0_1 : Int) (m0_2 : Bool) (m0_3 : Int) (m0_4 : (Sl S_impl_Backend)) (m0_5 : (Sl S_impl_Vip)) (m0_6 : (Sl (Sl Int))) (m0_7 : (Sl S_impl_Held)) (k0 : Int → Int → Int → Int → Int → Int → Int → Option ρ) (k1 : Int → Int → Int → Int → Int → Int → Int → Option ρ) (k2 : Int → Int → Int → Int → Int → Int → Int → Option ρ) (k3 : Int → Int → Int → Int → Int → Int → Int → Option ρ) (k4 : Option ρ) (i3_8 : Int) (go : Int → Option ρ) : Option ρ :=
 (bif (decide (i3_8 < ((m0_7.n : Nat) : Int))) then ((bif (decide (0 ≤ i3_8) && decide ((Int.toNat i3_8) < m0_7.n)) then some () else none : Option Unit).bind fun _ =>
  ((((F_spec_l3Flow fu (m0_7.f (Int.toNat i3_8)).Flow).bind fun y104 => (bif (!y104) then (some true) else ((F_spec_l1In fu (m0_7.f (Int.toNat i3_8)).Seen 0 m0_1).bind fun y105 =>
  (some (!y105))))) : Option Bool).bind fun m106 => (bif m106 then (k0 (m0_7.f (Int.toNat i3_8)).Flow.From (m0_7.f (Int.toNat i3_8)).Flow.To (m0_7.f (Int.toNat i3_8)).Flow.Proto (m0_7.f (Int.toNat i3_8)).Flow.FromP (m0_7.f (Int.toNat i3_8)).Flow.ToP (m0_7.f (Int.toNat i3_8)).Name (m0_7.f (Int.toNat i3_8)).Seen) else
  ((F_spec_l14Serves fu (⟨m0_3, m0_4, m0_5⟩ : S_impl_Config) (m0_7.f (Int.toNat i3_8)).Flow (m0_7.f (Int.toNat i3_8)).Name).bind fun y107 => (bif (!y107) then (k1 (m0_7.f (Int.toNat i3_8)).Flow.From (m0_7.f (Int.toNat i3_8)).Flow.To (m0_7.f (Int.toNat i3_8)).Flow.Proto (m0_7.f (Int.toNat i3_8)).Flow.FromP (m0_7.f (Int.toNat i3_8)).Flow.ToP (m0_7.f (Int.toNat i3_8)).Name (m0_7.f (Int.toNat i3_8)).Seen) else
  (bif (decide ((IntKind.wrap .i64 (m0_1 - (m0_7.f (Int.toNat i3_8)).Seen)) > 20)) then (k2 (m0_7.f (Int.toNat i3_8)).Flow.From (m0_7.f (Int.toNat i3_8)).Flow.To (m0_7.f (Int.toNat i3_8)).Flow.Proto (m0_7.f (Int.toNat i3_8)).Flow.FromP (m0_7.f (Int.toNat i3_8)).Flow.ToP (m0_7.f (Int.toNat i3_8)).Name (m0_7.f (Int.toNat i3_8)).Seen) else
  ((bif (decide ((0 : Int) ≤ i3_8) && decide ((Int.toNat i3_8) ≤ m0_7.n)) then some () else none : Option Unit).bind fun _ => ((F_spec_l14Find fu (⟨m0_7.z, ((Int.toNat i3_8) - 0),
  (fun i => m0_7.f (0 + i))⟩ : (Sl S_impl_Held)) (m0_7.f (Int.toNat i3_8)).Flow).bind fun y108 => (bif (decide (y108 ≥ 0)) then (k3 (m0_7.f (Int.toNat i3_8)).Flow.From (m0_7.f (Int.toNat i3_8)).Flow.To (m0_7.f (Int.toNat i3_8)).Flow.Proto (m0_7.f (Int.toNat i3_8)).Flow.FromP (m0_7.f (Int.toNat i3_8)).Flow.ToP (m0_7.f (Int.toNat i3_8)).Name (m0_7.f (Int.toNat i3_8)).Seen) else
  (go (IntKind.wrap .i64 (i3_8 + 1)))))))))))) else k4)
def F_spec_l14Held (fu : Nat) (m_0 : S_impl_Mux) : Option (Int) :=
 (bif (decide (((m_0.Cache.n : Nat) : Int) > 8)) then (some 2) else (L (fun w0 go0 => F_spec_l14Held_B0 fu m_0.Address m_0.Now m_0.Watch.Ready m_0.Watch.Config.Version m_0.Watch.Config.Backends m_0.Watch.Config.Vips m_0.Tables m_0.Cache (fun z109 z110 z111 z112 z113 z114 z115 =>
  (some 3)) (fun z116 z117 z118 z119 z120 z121 z122 => (some 4)) (fun z123 z124 z125 z126 z127 z128 z129 => (some 9)) (fun z130 z131 z132 z133 z134 z135 z136 => (some 7)) (some 0) w0 go0) fu (0 : Int)))
def pcf_b11 (fu f : Nat) (xs : List (D RT den)) : Option (Out RT den) := match f with | 55 => S_a32 fu xs | 60 => S_b6 fu xs | 61 => S_b9 fu xs | 62 => S_b10 fu xs | _ => none
def pc_b11 (fu : Nat) : Pc RT den := ⟨pcf_b11 fu, fun _ => false, fun _ => false, pcd0, pcd0, pcd0, pcx0⟩
def msk_b11 (b : Nat) : List Nat := match b with | 0 => (1 :: 2 :: (rg 4 65 [])) | 100000 => (0 :: 1 :: (rg 3 66 [])) | 200007 => [40] | _ => []
def ps_b11_0 : List (Pat RT) := (.rptr [(.int .i64), (.int .i64), .bool, (.int .i64), (.rs .impl_Backend), (.rs .impl_Vip), (.rs .sl_i64), (.rs .impl_Held)] :: .flat .q :: .flat .q :: .flat (.int .i64) :: (fq 65 []))
def os_b11_0 : List (OP RT) := []
def conv_b11_0 (r : Raw den ps_b11_0 os_b11_0) : (Int × Int × Bool × Int × (Sl S_impl_Backend) × (Sl S_impl_Vip) × (Sl (Sl Int)) × (Sl S_impl_Held)) × (Int) := ((r.1.1.1, r.1.1.2.1, r.1.1.2.2.1, r.1.1.2.2.2.1, r.1.1.2.2.2.2.1, (e5 r.1.1).1, (e5 r.1.1).2.1, (e5 r.1.1).2.2.1), r.1.2.2.2.1)
def back_b11_0 (c : Int × Int × Bool × Int × (Sl S_impl_Backend) × (Sl S_impl_Vip) × (Sl (Sl Int)) × (Sl S_impl_Held)) (w : Int) : St RT den := ⟨((.rptr [(ii c.1), (ii c.2.1), (.bool c.2.2.1), (ii c.2.2.2.1), (.rs c.2.2.2.2.1.z .impl_Backend c.2.2.2.2.1.n c.2.2.2.2.1.f), (.rs (e5 c).1.z .impl_Vip (e5 c).1.n (e5 c).1.f), (.rs (e5 c).2.1.z .sl_i64 (e5 c).2.1.n (e5 c).2.1.f), (.rs (e5 c).2.2.z .impl_Held (e5 c).2.2.n (e5 c).2.2.f)]) :: .q :: .q :: (ii w) :: (qs 65 [])), []⟩
def Bk_b11_0 {ρ : Type} (fu : Nat) (c : Int × Int × Bool × Int × (Sl S_impl_Backend) × (Sl S_impl_Vip) × (Sl (Sl Int)) × (Sl S_impl_Held)) (k : Ex → St RT den → Option ρ) (w : Int) (go : (Int) → Option ρ) : Option ρ := F_spec_l14Held_B0 fu c.1 c.2.1 c.2.2.1 c.2.2.2.1 c.2.2.2.2.1 (e5 c).1 (e5 c).2.1 (e5 c).2.2 (fun a0 a1 a2 a3 a4 a5 a6 => k .ret ⟨(.q :: .q :: (ii 3) :: (qs 66 [])), [(.box false [(ii a0), (ii a1), (ii a2), (ii a3), (ii a4), (ii a5), (ii a6)])]⟩) (fun a0 a1 a2 a3 a4 a5 a6 => k .ret ⟨(.q :: .q :: (ii 4) :: (qs 66 [])), [(.box false [(ii a0), (ii a1), (ii a2), (ii a3), (ii a4), (ii a5), (ii a6)])]⟩) (fun a0 a1 a2 a3 a4 a5 a6 => k .ret ⟨(.q :: .q :: (ii 9) :: (qs 66 [])), [(.box false [(ii a0), (ii a1), (ii a2), (ii a3), (ii a4), (ii a5), (ii a6)])]⟩) (fun a0 a1 a2 a3 a4 a5 a6 => k .ret ⟨(.q :: .q :: (ii 7) :: (qs 66 [])), [(.box false [(ii a0), (ii a1), (ii a2), (ii a3), (ii a4), (ii a5), (ii a6)])]⟩) (k (.exit 0) ⟨(qs 69 []), []⟩) w go
def lp_b11 (fu : Nat) : Lp RT den (Int) := ⟨fun b s k => match b with | 0 => handle ps_b11_0 os_b11_0 conv_b11_0 (Bk_b11_0 fu) fu s k | _ => none, inl0⟩
theorem ev_b11 (fu : Nat) (m_0 : S_impl_Mux) : evFun E (pc_b11 fu) msk_b11 (lp_b11 fu) out_i64 31 [(.rptr [(ii m_0.Address), (ii m_0.Now), (.bool m_0.Watch.Ready), (ii m_0.Watch.Config.Version), (.rs m_0.Watch.Config.Backends.z .impl_Backend m_0.Watch.Config.Backends.n m_0.Watch.Config.Backends.f), (.rs m_0.Watch.Config.Vips.z .impl_Vip m_0.Watch.Config.Vips.n m_0.Watch.Config.Vips.f), (.rs m_0.Tables.z .sl_i64 m_0.Tables.n m_0.Tables.f), (.rs m_0.Cache.z .impl_Held m_0.Cache.n m_0.Cache.f)])] = F_spec_l14Held fu m_0 := by kernel_rfl
noncomputable def body_b11 : Code := Tryz.f31.body.getD .skip
noncomputable def lc_b11_0 : Code := ((loops 0 body_b11).getD 0 (0, .skip)).2
theorem round_b11_0 (fu : Nat) : RoundOk E (pc_b11 fu) msk_b11 (lp_b11 fu) 0 lc_b11_0 back_b11_0 0 100000 0 (Bk_b11_0 fu) := fun it k c w => by kernel_rfl
theorem lpok_b11_0 (fu : Nat) : LpAt E (pc_b11 fu) msk_b11 (lp_b11 fu) 0 0 100000 0 lc_b11_0 :=
 handle_ok (ps := ps_b11_0) (os := os_b11_0) (conv := conv_b11_0) (B := Bk_b11_0 fu) (fu := fu) back_b11_0 (fun raw => by kernel_rfl) 0 (fun c w => by kernel_rfl) (round_b11_0 fu)
theorem lpok_b11 (fu : Nat) : LpOk E (pc_b11 fu) 0 msk_b11 (lp_b11 fu) (loops 0 body_b11) := lp_nil (loop_all 1 (by kernel_rfl) fun i hi => match i, hi with
 | 0, _ => by
  have h : (loops 0 body_b11).getD 0 (0, .skip) = (0, lc_b11_0) := by kernel_rfl
  rw [h]; exact lpok_b11_0 fu
 | i + 1, hi => absurd hi (by omega)) (by kernel_rfl)
def S_b11 (fu : Nat) (xs : List (D RT den)) : Option (Out RT den) := match xs with | [.rptr (.int .i64 a0_1 :: .int .i64 a0_2 :: .bool a0_4 :: .int .i64 a0_6 :: .rs za0_7 .impl_Backend na0_7 fa0_7 :: .rs za0_8 .impl_Vip na0_8 fa0_8 :: .rs za0_9 .sl_i64 na0_9 fa0_9 :: .rs za0_10 .impl_Held na0_10 fa0_10 :: ra0)] => some ⟨Int, F_spec_l14Held fu (⟨a0_1, a0_2, (⟨a0_4, (⟨a0_6, (⟨za0_7, na0_7, fa0_7⟩ : (Sl S_impl_Backend)), (⟨za0_8, na0_8, fa0_8⟩ : (Sl S_impl_Vip))⟩ : S_impl_Config)⟩ : S_impl_Watch), (⟨za0_9, na0_9, fa0_9⟩ : (Sl (Sl Int))), (⟨za0_10, na0_10, fa0_10⟩ : (Sl S_impl_Held))⟩ : S_impl_Mux), enc_i64, fun _ => true⟩ | _ => none
theorem hpc_b11 (fu : Nat) : HpcOk E Tryz.prog (pcf_b11 fu) := by
 intro f xs o h
 unfold pcf_b11 at h
 split at h
 ·exact good_a32 fu xs o h
 ·exact good_b6 fu xs o h
 ·exact good_b9 fu xs o h
 ·exact good_b10 fu xs o h
 ·cases h
theorem goodv_b11 (fu : Nat) (m_0 : S_impl_Mux) (y : Int) (hy : F_spec_l14Held fu m_0 = some y) : Vm.Good E Tryz.prog 31 [(.rptr [(ii m_0.Address), (ii m_0.Now), (.bool m_0.Watch.Ready), (ii m_0.Watch.Config.Version), (.rs m_0.Watch.Config.Backends.z .impl_Backend m_0.Watch.Config.Backends.n m_0.Watch.Config.Backends.f), (.rs m_0.Watch.Config.Vips.z .impl_Vip m_0.Watch.Config.Vips.n m_0.Watch.Config.Vips.f), (.rs m_0.Tables.z .sl_i64 m_0.Tables.n m_0.Tables.f), (.rs m_0.Cache.z .impl_Held m_0.Cache.n m_0.Cache.f)])] (enc_i64 y) :=
 fun_good E_ok (pc_good (pc := pc_b11 fu) (hpc_b11 fu) hpx0) (fn := Tryz.f31) (by kernel_rfl) (by kernel_rfl) (by kernel_rfl) (lpok_b11 fu) (fun d hd => out_i64_enc d _ hd) ((ev_b11 fu m_0).trans hy)
theorem good_b11 (fu : Nat) : GoodS E Tryz.prog 31 (S_b11 fu) := by
 intro xs o h y hy
 unfold S_b11 at h
 split at h
 ·rename_i a0_1 a0_2 a0_4 a0_6 za0_7 na0_7 fa0_7 za0_8 na0_8 fa0_8 za0_9 na0_9 fa0_9 za0_10 na0_10 fa0_10 ra0
  cases h
  exact (goodv_b11 fu (⟨a0_1, a0_2, (⟨a0_4, (⟨a0_6, (⟨za0_7, na0_7, fa0_7⟩ : (Sl S_impl_Backend)), (⟨za0_8, na0_8, fa0_8⟩ : (Sl S_impl_Vip))⟩ : S_impl_Config)⟩ : S_impl_Watch), (⟨za0_9, na0_9, fa0_9⟩ : (Sl (Sl Int))), (⟨za0_10, na0_10, fa0_10⟩ : (Sl S_impl_Held))⟩ : S_impl_Mux) y hy).sub ⟨Sub.of_eq ra0 rfl, trivial⟩
 ·cases h
def F_spec_l14Fault_B0 {ρ : Type} (fu : Nat) (m0_0 m0_1 : Int) (m0_2 : Bool) (m0_3 : Int) (m0_4 : (Sl S_impl_Backend)) (m0_5 : (Sl S_impl_Vip)) (m0_6 : (Sl (Sl Int))) (m0_7 : (Sl S_impl_Held)) (want4_8 : (Sl (Sl Int))) (k0 : Option ρ) (k1 : Option ρ) (i5_9 : Int) (go : Int → Option ρ) : Option ρ :=
 (bif (decide (i5_9 < ((want4_8.n : Nat) : Int))) then ((bif (decide (0 ≤ i5_9) && decide ((Int.toNat i5_9) < want4_8.n)) then some () else none : Option Unit).bind fun _ => ((bif (decide (0 ≤ i5_9) &&
  decide ((Int.toNat i5_9) < m0_6.n)) then some () else none : Option Unit).bind fun _ => ((F_spec_l5Nums fu (want4_8.f (Int.toNat i5_9)) (m0_6.f (Int.toNat i5_9))).bind fun y73 =>
  (bif (!y73) then k0 else (go (IntKind.wrap .i64 (i5_9 + 1))))))) else k1)
def F_spec_l14Fault (fu : Nat) (m_0 : S_impl_Mux) : Option (Int) :=
 ((((F_spec_l2Address fu m_0.Address).bind fun y39 => (bif (!y39) then (some true) else ((F_spec_l14Now fu m_0.Now).bind fun y40 => (some (!y40))))) : Option Bool).bind fun m41 =>
  (bif m41 then (some 3) else ((F_spec_WatchFault fu m_0.Watch).bind fun y42 => (bif (y42 != 0) then (some y42) else ((F_spec_l14Tables fu m_0.Watch.Config).bind fun y43 => (bif (((y43.n : Nat) : Int) != ((m_0.Tables.n : Nat) : Int)) then
  (some 1) else (L (fun w0 go0 => F_spec_l14Fault_B0 fu m_0.Address m_0.Now m_0.Watch.Ready m_0.Watch.Config.Version m_0.Watch.Config.Backends m_0.Watch.Config.Vips m_0.Tables m_0.Cache y43 (some 1) ((F_spec_l14Held fu m_0).bind fun y74 =>
  (some y74)) w0 go0) fu (0 : Int))))))))
def pcf_b12 (fu f : Nat) (xs : List (D RT den)) : Option (Out RT den) := match f with | 26 => S_a33 fu xs | 27 => S_a34 fu xs | 28 => S_b4 fu xs | 29 => S_a31 fu xs | 30 => S_b5 fu xs | 31 => S_b11 fu xs | _ => none
def pc_b12 (fu : Nat) : Pc RT den := ⟨pcf_b12 fu, fun _ => false, fun _ => false, pcd0, pcd0, pcd0, pcx0⟩
def msk_b12 (b : Nat) : List Nat := match b with | 0 => (1 :: 2 :: 3 :: (rg 6 56 [])) | 100000 => (1 :: (rg 3 59 [])) | 200001 => [19] | _ => []
def ps_b12_0 : List (Pat RT) := (.rptr [(.int .i64), (.int .i64), .bool, (.int .i64), (.rs .impl_Backend), (.rs .impl_Vip), (.rs .sl_i64), (.rs .impl_Held)] :: .flat .q :: .flat .q :: .flat .q :: .flat (.rs .sl_i64) :: .flat (.int .i64) :: (fq 56 []))
def os_b12_0 : List (OP RT) := []
def conv_b12_0 (r : Raw den ps_b12_0 os_b12_0) : (Int × Int × Bool × Int × (Sl S_impl_Backend) × (Sl S_impl_Vip) × (Sl (Sl Int)) × (Sl S_impl_Held) × (Sl (Sl Int))) × (Int) := ((r.1.1.1, r.1.1.2.1, r.1.1.2.2.1, r.1.1.2.2.2.1, r.1.1.2.2.2.2.1, (e5 r.1.1).1, (e5 r.1.1).2.1, (e5 r.1.1).2.2.1, r.1.2.2.2.2.1), (e5 r.1).1)
def back_b12_0 (c : Int × Int × Bool × Int × (Sl S_impl_Backend) × (Sl S_impl_Vip) × (Sl (Sl Int)) × (Sl S_impl_Held) × (Sl (Sl Int))) (w : Int) : St RT den := ⟨((.rptr [(ii c.1), (ii c.2.1), (.bool c.2.2.1), (ii c.2.2.2.1), (.rs c.2.2.2.2.1.z .impl_Backend c.2.2.2.2.1.n c.2.2.2.2.1.f), (.rs (e5 c).1.z .impl_Vip (e5 c).1.n (e5 c).1.f), (.rs (e5 c).2.1.z .sl_i64 (e5 c).2.1.n (e5 c).2.1.f), (.rs (e5 c).2.2.1.z .impl_Held (e5 c).2.2.1.n (e5 c).2.2.1.f)]) :: .q :: .q :: .q :: (.rs (e5 c).2.2.2.z .sl_i64 (e5 c).2.2.2.n (e5 c).2.2.2.f) :: (ii w) :: (qs 56 [])), []⟩
def Bk_b12_0 {ρ : Type} (fu : Nat) (c : Int × Int × Bool × Int × (Sl S_impl_Backend) × (Sl S_impl_Vip) × (Sl (Sl Int)) × (Sl S_impl_Held) × (Sl (Sl Int))) (k : Ex → St RT den → Option ρ) (w : Int) (go : (Int) → Option ρ) : Option ρ := F_spec_l14Fault_B0 fu c.1 c.2.1 c.2.2.1 c.2.2.2.1 c.2.2.2.2.1 (e5 c).1 (e5 c).2.1 (e5 c).2.2.1 (e5 c).2.2.2 (k .ret ⟨((.rptr [(ii c.1), (ii c.2.1), (.bool c.2.2.1), (ii c.2.2.2.1), (.rs c.2.2.2.2.1.z .impl_Backend c.2.2.2.2.1.n c.2.2.2.2.1.f), (.rs (e5 c).1.z .impl_Vip (e5 c).1.n (e5 c).1.f), (.rs (e5 c).2.1.z .sl_i64 (e5 c).2.1.n (e5 c).2.1.f), (.rs (e5 c).2.2.1.z .impl_Held (e5 c).2.2.1.n (e5 c).2.2.1.f)]) :: .q :: (ii 1) :: (qs 59 [])), []⟩) (k (.exit 0) ⟨((.rptr [(ii c.1), (ii c.2.1), (.bool c.2.2.1), (ii c.2.2.2.1), (.rs c.2.2.2.2.1.z .impl_Backend c.2.2.2.2.1.n c.2.2.2.2.1.f), (.rs (e5 c).1.z .impl_Vip (e5 c).1.n (e5 c).1.f), (.rs (e5 c).2.1.z .sl_i64 (e5 c).2.1.n (e5 c).2.1.f), (.rs (e5 c).2.2.1.z .impl_Held (e5 c).2.2.1.n (e5 c).2.2.1.f)]) :: (qs 61 [])), []⟩) w go
def lp_b12 (fu : Nat) : Lp RT den (Int) := ⟨fun b s k => match b with | 0 => handle ps_b12_0 os_b12_0 conv_b12_0 (Bk_b12_0 fu) fu s k | _ => none, inl0⟩
theorem ev_b12 (fu : Nat) (m_0 : S_impl_Mux) : evFun E (pc_b12 fu) msk_b12 (lp_b12 fu) out_i64 13 [(.rptr [(ii m_0.Address), (ii m_0.Now), (.bool m_0.Watch.Ready), (ii m_0.Watch.Config.Version), (.rs m_0.Watch.Config.Backends.z .impl_Backend m_0.Watch.Config.Backends.n m_0.Watch.Config.Backends.f), (.rs m_0.Watch.Config.Vips.z .impl_Vip m_0.Watch.Config.Vips.n m_0.Watch.Config.Vips.f), (.rs m_0.Tables.z .sl_i64 m_0.Tables.n m_0.Tables.f), (.rs m_0.Cache.z .impl_Held m_0.Cache.n m_0.Cache.f)])] = F_spec_l14Fault fu m_0 := by kernel_rfl
noncomputable def body_b12 : Code := Tryz.f13.body.getD .skip
noncomputable def lc_b12_0 : Code := ((loops 0 body_b12).getD 0 (0, .skip)).2
theorem round_b12_0 (fu : Nat) : RoundOk E (pc_b12 fu) msk_b12 (lp_b12 fu) 0 lc_b12_0 back_b12_0 0 100000 0 (Bk_b12_0 fu) := fun it k c w => by kernel_rfl
theorem lpok_b12_0 (fu : Nat) : LpAt E (pc_b12 fu) msk_b12 (lp_b12 fu) 0 0 100000 0 lc_b12_0 :=
 handle_ok (ps := ps_b12_0) (os := os_b12_0) (conv := conv_b12_0) (B := Bk_b12_0 fu) (fu := fu) back_b12_0 (fun raw => by kernel_rfl) 0 (fun c w => by kernel_rfl) (round_b12_0 fu)
theorem lpok_b12 (fu : Nat) : LpOk E (pc_b12 fu) 0 msk_b12 (lp_b12 fu) (loops 0 body_b12) := lp_nil (loop_all 1 (by kernel_rfl) fun i hi => match i, hi with
 | 0, _ => by
  have h : (loops 0 body_b12).getD 0 (0, .skip) = (0, lc_b12_0) := by kernel_rfl
  rw [h]; exact lpok_b12_0 fu
 | i + 1, hi => absurd hi (by omega)) (by kernel_rfl)
def S_b12 (fu : Nat) (xs : List (D RT den)) : Option (Out RT den) := match xs with | [.rptr (.int .i64 a0_1 :: .int .i64 a0_2 :: .bool a0_4 :: .int .i64 a0_6 :: .rs za0_7 .impl_Backend na0_7 fa0_7 :: .rs za0_8 .impl_Vip na0_8 fa0_8 :: .rs za0_9 .sl_i64 na0_9 fa0_9 :: .rs za0_10 .impl_Held na0_10 fa0_10 :: ra0)] => some ⟨Int, F_spec_l14Fault fu (⟨a0_1, a0_2, (⟨a0_4, (⟨a0_6, (⟨za0_7, na0_7, fa0_7⟩ : (Sl S_impl_Backend)), (⟨za0_8, na0_8, fa0_8⟩ : (Sl S_impl_Vip))⟩ : S_impl_Config)⟩ : S_impl_Watch), (⟨za0_9, na0_9, fa0_9⟩ : (Sl (Sl Int))), (⟨za0_10, na0_10, fa0_10⟩ : (Sl S_impl_Held))⟩ : S_impl_Mux), enc_i64, fun _ => true⟩ | _ => none
theorem hpc_b12 (fu : Nat) : HpcOk E Tryz.prog (pcf_b12 fu) := by
 intro f xs o h
 unfold pcf_b12 at h
 split at h
 ·exact good_a33 fu xs o h
 ·exact good_a34 fu xs o h
 ·exact good_b4 fu xs o h
 ·exact good_a31 fu xs o h
 ·exact good_b5 fu xs o h
 ·exact good_b11 fu xs o h
 ·cases h
theorem goodv_b12 (fu : Nat) (m_0 : S_impl_Mux) (y : Int) (hy : F_spec_l14Fault fu m_0 = some y) : Vm.Good E Tryz.prog 13 [(.rptr [(ii m_0.Address), (ii m_0.Now), (.bool m_0.Watch.Ready), (ii m_0.Watch.Config.Version), (.rs m_0.Watch.Config.Backends.z .impl_Backend m_0.Watch.Config.Backends.n m_0.Watch.Config.Backends.f), (.rs m_0.Watch.Config.Vips.z .impl_Vip m_0.Watch.Config.Vips.n m_0.Watch.Config.Vips.f), (.rs m_0.Tables.z .sl_i64 m_0.Tables.n m_0.Tables.f), (.rs m_0.Cache.z .impl_Held m_0.Cache.n m_0.Cache.f)])] (enc_i64 y) :=
 fun_good E_ok (pc_good (pc := pc_b12 fu) (hpc_b12 fu) hpx0) (fn := Tryz.f13) (by kernel_rfl) (by kernel_rfl) (by kernel_rfl) (lpok_b12 fu) (fun d hd => out_i64_enc d _ hd) ((ev_b12 fu m_0).trans hy)
theorem good_b12 (fu : Nat) : GoodS E Tryz.prog 13 (S_b12 fu) := by
 intro xs o h y hy
 unfold S_b12 at h
 split at h
 ·rename_i a0_1 a0_2 a0_4 a0_6 za0_7 na0_7 fa0_7 za0_8 na0_8 fa0_8 za0_9 na0_9 fa0_9 za0_10 na0_10 fa0_10 ra0
  cases h
  exact (goodv_b12 fu (⟨a0_1, a0_2, (⟨a0_4, (⟨a0_6, (⟨za0_7, na0_7, fa0_7⟩ : (Sl S_impl_Backend)), (⟨za0_8, na0_8, fa0_8⟩ : (Sl S_impl_Vip))⟩ : S_impl_Config)⟩ : S_impl_Watch), (⟨za0_9, na0_9, fa0_9⟩ : (Sl (Sl Int))), (⟨za0_10, na0_10, fa0_10⟩ : (Sl S_impl_Held))⟩ : S_impl_Mux) y hy).sub ⟨Sub.of_eq ra0 rfl, trivial⟩
 ·cases h
def F_spec_l1Bytes_B0 {ρ : Type} (fu : Nat) (n0_0 : Int) (k0 : Nat → Nat → (Nat → Int) → Option ρ) (out5_1 : Nat) (k6_2 : Int) (on0_3 : Nat) (of0_4 : (Nat → Int)) (go : Nat → Int → Nat → (Nat → Int) → Option ρ) : Option ρ :=
 (bif (decide (k6_2 ≥ 0)) then ((bif (decide (0 ≤ (IntKind.wrap .u64 (IntKind.wrap .i64 (8 * k6_2))))) then some () else none : Option Unit).bind fun _ => (bif (decide ((out5_1 + 1) ≤ 9223372036854775807) &&
  decide ((out5_1 + 1) * 1 ≤ 140737488355328)) then (go (out5_1 + 1) (IntKind.wrap .i64 (k6_2 - 1)) (out5_1 + 1) (fun i => if i < out5_1 then (of0_4 i) else ((fun i =>
  ([(IntKind.wrap .u8 (shrInt .i64 n0_0 (IntKind.wrap .u64 (IntKind.wrap .i64 (8 * k6_2)))))] : List (Int)).getD i (dflt .u8)) (i - out5_1)))) else none)) else (k0 out5_1 on0_3 of0_4))
def F_spec_l1Bytes (fu : Nat) (n_0 size_1 : Int) : Option ((Sl Int)) :=
 (L (fun w0 go0 => F_spec_l1Bytes_B0 fu n_0 (fun z164 z165 z166 => (some (⟨none, z164, z166⟩ : (Sl Int)))) w0.1 w0.2.1 w0.2.2.1 w0.2.2.2 (fun q0 q1 q2 q3 => go0 (q0, q1, q2, q3))) fu ((0,
  (IntKind.wrap .i64 (size_1 - 1)), 0, (fun _ => dflt .u8)) : Nat × Int × Nat × (Nat → Int)))
def pc_b13 (fu : Nat) : Pc RT den := ⟨pcf0, fun _ => false, fun _ => false, pcd0, pcd0, pcd0, pcx0⟩
def msk_b13 (b : Nat) : List Nat := match b with | 0 => (1 :: 2 :: 3 :: 4 :: (rg 7 17 [])) | 100000 => (0 :: 1 :: 2 :: 3 :: (rg 6 18 [])) | 300000 => [5] | _ => []
def ps_b13_0 : List (Pat RT) := (.flat (.int .i64) :: (fq 4 (.flat (.os 0) :: .flat (.int .i64) :: (fq 17 []))))
def os_b13_0 : List (OP RT) := [.row false .u8]
def conv_b13_0 (r : Raw den ps_b13_0 os_b13_0) : (Int) × (Nat × Int × Nat × (Nat → Int)) := (r.1.1, ((e5 r.1).1, (e5 r.1).2.1, r.2.1.1, r.2.1.2))
def back_b13_0 (c : Int) (w : Nat × Int × Nat × (Nat → Int)) : St RT den := ⟨((ii c) :: (qs 4 ((.os 0 w.1) :: (ii w.2.1) :: (qs 17 [])))), [(.row false .u8 w.2.2.1 w.2.2.2)]⟩
def Bk_b13_0 {ρ : Type} (fu : Nat) (c : Int) (k : Ex → St RT den → Option ρ) (w : Nat × Int × Nat × (Nat → Int)) (go : (Nat × Int × Nat × (Nat → Int)) → Option ρ) : Option ρ := F_spec_l1Bytes_B0 fu c (fun a0 a1 a2 => k (.exit 0) ⟨(qs 5 ((.os 0 a0) :: (qs 18 []))), [(.row false .u8 a1 a2)]⟩) w.1 w.2.1 w.2.2.1 w.2.2.2 (fun q0 q1 q2 q3 => go (q0, q1, q2, q3))
def lp_b13 (fu : Nat) : Lp RT den ((Sl Int)) := ⟨fun b s k => match b with | 0 => handle ps_b13_0 os_b13_0 conv_b13_0 (Bk_b13_0 fu) fu s k | _ => none, inl0⟩
theorem ev_b13 (fu : Nat) (n_0 size_1 : Int) : evFun E (pc_b13 fu) msk_b13 (lp_b13 fu) out_sl_u8 32 [(ii n_0), (ii size_1)] = F_spec_l1Bytes fu n_0 size_1 := by kernel_rfl
noncomputable def body_b13 : Code := Tryz.f32.body.getD .skip
noncomputable def lc_b13_0 : Code := ((loops 0 body_b13).getD 0 (0, .skip)).2
theorem round_b13_0 (fu : Nat) : RoundOk E (pc_b13 fu) msk_b13 (lp_b13 fu) 0 lc_b13_0 back_b13_0 0 100000 1 (Bk_b13_0 fu) := fun it k c w => by kernel_rfl
theorem lpok_b13_0 (fu : Nat) : LpAt E (pc_b13 fu) msk_b13 (lp_b13 fu) 0 0 100000 0 lc_b13_0 :=
 handle_ok (ps := ps_b13_0) (os := os_b13_0) (conv := conv_b13_0) (B := Bk_b13_0 fu) (fu := fu) back_b13_0 (fun raw => by kernel_rfl) 1 (fun c w => by kernel_rfl) (round_b13_0 fu)
theorem lpok_b13 (fu : Nat) : LpOk E (pc_b13 fu) 0 msk_b13 (lp_b13 fu) (loops 0 body_b13) := lp_nil (loop_all 1 (by kernel_rfl) fun i hi => match i, hi with
 | 0, _ => by
  have h : (loops 0 body_b13).getD 0 (0, .skip) = (0, lc_b13_0) := by kernel_rfl
  rw [h]; exact lpok_b13_0 fu
 | i + 1, hi => absurd hi (by omega)) (by kernel_rfl)
def S_b13 (fu : Nat) (xs : List (D RT den)) : Option (Out RT den) := match xs with | [.int .i64 a0_0, .int .i64 a1_0] => some ⟨(Sl Int), F_spec_l1Bytes fu a0_0 a1_0, enc_sl_u8, fun _ => true⟩ | _ => none
theorem goodv_b13 (fu : Nat) (n_0 size_1 : Int) (y : (Sl Int)) (hy : F_spec_l1Bytes fu n_0 size_1 = some y) : Vm.Good E Tryz.prog 32 [(ii n_0), (ii size_1)] (enc_sl_u8 y) :=
 fun_good E_ok (pc_good (pc := pc_b13 fu) hpc0 hpx0) (fn := Tryz.f32) (by kernel_rfl) (by kernel_rfl) (by kernel_rfl) (lpok_b13 fu) (fun d hd => out_sl_u8_enc d _ hd) ((ev_b13 fu n_0 size_1).trans hy)
theorem good_b13 (fu : Nat) : GoodS E Tryz.prog 32 (S_b13 fu) := by
 intro xs o h y hy
 unfold S_b13 at h
 split at h
 ·rename_i a0_0 a1_0
  cases h
  exact goodv_b13 fu a0_0 a1_0 y hy
 ·cases h
def F_spec_l2Digits (fu : Nat) (n_0 : Int) : Option (ByteArray) :=
 (hand_dec33 n_0)
def S_b14 (fu : Nat) (xs : List (D RT den)) : Option (Out RT den) := match xs with | [.int .i64 a0_0] => some ⟨ByteArray, F_spec_l2Digits fu a0_0, enc_str, fun _ => true⟩ | _ => none
theorem goodv_b14 (fu : Nat) (n_0 : Int) (y : ByteArray) (hy : F_spec_l2Digits fu n_0 = some y) : Vm.Good E Tryz.prog 33 [(ii n_0)] (enc_str y) := good_hand_dec33 n_0 y hy
theorem good_b14 (fu : Nat) : GoodS E Tryz.prog 33 (S_b14 fu) := by
 intro xs o h y hy
 unfold S_b14 at h
 split at h
 ·rename_i a0_0
  cases h
  exact goodv_b14 fu a0_0 y hy
 ·cases h
def F_spec_l2Text_B0 {ρ : Type} (fu : Nat) (b3_0 : (Sl Int)) (k0 : ByteArray → Option ρ) (out4_1 : ByteArray) (i5_2 : Int) (go : ByteArray → Int → Option ρ) : Option ρ :=
 (bif (decide (i5_2 < 4)) then ((bif (decide (ByteArray.size out4_1 + ByteArray.size (⟨#[46]⟩ : ByteArray) ≤ 9223372036854775807)) then some () else none : Option Unit).bind fun _ =>
  ((bif (decide (0 ≤ i5_2) && decide ((Int.toNat i5_2) < b3_0.n)) then some () else none : Option Unit).bind fun _ => ((F_spec_l2Digits fu (IntKind.wrap .i64 (b3_0.f (Int.toNat i5_2)))).bind fun y168 =>
  ((bif (decide (ByteArray.size (out4_1 ++ (⟨#[46]⟩ : ByteArray)) + ByteArray.size y168 ≤ 9223372036854775807)) then some () else none : Option Unit).bind fun _ => (go ((out4_1 ++ (⟨#[46]⟩ : ByteArray)) ++ y168) (IntKind.wrap .i64 (i5_2 + 1))))))) else
  (k0 out4_1))
def F_spec_l2Text (fu : Nat) (a_0 : Int) : Option (ByteArray) :=
 ((F_spec_l1Bytes fu a_0 4).bind fun y163 => ((bif (decide (0 ≤ (0 : Int)) && decide ((Int.toNat 0) < y163.n)) then some () else none : Option Unit).bind fun _ => ((F_spec_l2Digits fu (IntKind.wrap .i64 (y163.f (Int.toNat 0)))).bind fun y167 =>
  (L (fun w0 go0 => F_spec_l2Text_B0 fu y163 (fun z169 => (some z169)) w0.1 w0.2 (fun q0 q1 => go0 (q0, q1))) fu ((y167, 1) : ByteArray × Int)))))
def pcf_b15 (fu f : Nat) (xs : List (D RT den)) : Option (Out RT den) := match f with | 32 => S_b13 fu xs | 33 => S_b14 fu xs | _ => none
def pc_b15 (fu : Nat) : Pc RT den := ⟨pcf_b15 fu, fun _ => false, fun _ => false, pcd0, pcd0, pcd0, pcx0⟩
def msk_b15 (b : Nat) : List Nat := match b with | 0 => (0 :: 1 :: 2 :: (rg 6 21 [])) | 100000 => (0 :: 1 :: 3 :: (rg 5 22 [])) | _ => []
def ps_b15_0 : List (Pat RT) := (.flat .q :: .flat .q :: .flat .q :: .flat (.rs .u8) :: .flat .str :: .flat (.int .i64) :: (fq 21 []))
def os_b15_0 : List (OP RT) := []
def conv_b15_0 (r : Raw den ps_b15_0 os_b15_0) : ((Sl Int)) × (ByteArray × Int) := (r.1.2.2.2.1, (r.1.2.2.2.2.1, (e5 r.1).1))
def back_b15_0 (c : (Sl Int)) (w : ByteArray × Int) : St RT den := ⟨(.q :: .q :: .q :: (.rs c.z .u8 c.n c.f) :: (.str w.1) :: (ii w.2) :: (qs 21 [])), []⟩
def Bk_b15_0 {ρ : Type} (fu : Nat) (c : (Sl Int)) (k : Ex → St RT den → Option ρ) (w : ByteArray × Int) (go : (ByteArray × Int) → Option ρ) : Option ρ := F_spec_l2Text_B0 fu c (fun a0 => k (.exit 0) ⟨(qs 4 ((.str a0) :: (qs 22 []))), []⟩) w.1 w.2 (fun q0 q1 => go (q0, q1))
def lp_b15 (fu : Nat) : Lp RT den (ByteArray) := ⟨fun b s k => match b with | 0 => handle ps_b15_0 os_b15_0 conv_b15_0 (Bk_b15_0 fu) fu s k | _ => none, inl0⟩
theorem ev_b15 (fu : Nat) (a_0 : Int) : evFun E (pc_b15 fu) msk_b15 (lp_b15 fu) out_str 14 [(ii a_0)] = F_spec_l2Text fu a_0 := by kernel_rfl
noncomputable def body_b15 : Code := Tryz.f14.body.getD .skip
noncomputable def lc_b15_0 : Code := ((loops 0 body_b15).getD 0 (0, .skip)).2
theorem round_b15_0 (fu : Nat) : RoundOk E (pc_b15 fu) msk_b15 (lp_b15 fu) 0 lc_b15_0 back_b15_0 0 100000 0 (Bk_b15_0 fu) := fun it k c w => by kernel_rfl
theorem lpok_b15_0 (fu : Nat) : LpAt E (pc_b15 fu) msk_b15 (lp_b15 fu) 0 0 100000 0 lc_b15_0 :=
 handle_ok (ps := ps_b15_0) (os := os_b15_0) (conv := conv_b15_0) (B := Bk_b15_0 fu) (fu := fu) back_b15_0 (fun raw => by kernel_rfl) 0 (fun c w => by kernel_rfl) (round_b15_0 fu)
theorem lpok_b15 (fu : Nat) : LpOk E (pc_b15 fu) 0 msk_b15 (lp_b15 fu) (loops 0 body_b15) := lp_nil (loop_all 1 (by kernel_rfl) fun i hi => match i, hi with
 | 0, _ => by
  have h : (loops 0 body_b15).getD 0 (0, .skip) = (0, lc_b15_0) := by kernel_rfl
  rw [h]; exact lpok_b15_0 fu
 | i + 1, hi => absurd hi (by omega)) (by kernel_rfl)
def S_b15 (fu : Nat) (xs : List (D RT den)) : Option (Out RT den) := match xs with | [.int .i64 a0_0] => some ⟨ByteArray, F_spec_l2Text fu a0_0, enc_str, fun _ => true⟩ | _ => none
theorem hpc_b15 (fu : Nat) : HpcOk E Tryz.prog (pcf_b15 fu) := by
 intro f xs o h
 unfold pcf_b15 at h
 split at h
 ·exact good_b13 fu xs o h
 ·exact good_b14 fu xs o h
 ·cases h
theorem goodv_b15 (fu : Nat) (a_0 : Int) (y : ByteArray) (hy : F_spec_l2Text fu a_0 = some y) : Vm.Good E Tryz.prog 14 [(ii a_0)] (enc_str y) :=
 fun_good E_ok (pc_good (pc := pc_b15 fu) (hpc_b15 fu) hpx0) (fn := Tryz.f14) (by kernel_rfl) (by kernel_rfl) (by kernel_rfl) (lpok_b15 fu) (fun d hd => out_str_enc d _ hd) ((ev_b15 fu a_0).trans hy)
theorem good_b15 (fu : Nat) : GoodS E Tryz.prog 14 (S_b15 fu) := by
 intro xs o h y hy
 unfold S_b15 at h
 split at h
 ·rename_i a0_0
  cases h
  exact goodv_b15 fu a0_0 y hy
 ·cases h
def F_spec_l5Line_B0 {ρ : Type} (fu : Nat) (list1_1 : (Sl Int)) (k0 : ByteArray → Option ρ) (word0_0 : ByteArray) (i5_2 : Int) (go : ByteArray → Int → Option ρ) : Option ρ :=
 (bif (decide (i5_2 < ((list1_1.n : Nat) : Int))) then ((bif (decide (ByteArray.size word0_0 + ByteArray.size (⟨#[32]⟩ : ByteArray) ≤ 9223372036854775807)) then some () else none : Option Unit).bind fun _ =>
  ((bif (decide (0 ≤ i5_2) && decide ((Int.toNat i5_2) < list1_1.n)) then some () else none : Option Unit).bind fun _ => ((F_spec_l2Digits fu (list1_1.f (Int.toNat i5_2))).bind fun y170 =>
  ((bif (decide (ByteArray.size (word0_0 ++ (⟨#[32]⟩ : ByteArray)) + ByteArray.size y170 ≤ 9223372036854775807)) then some () else none : Option Unit).bind fun _ => (go ((word0_0 ++ (⟨#[32]⟩ : ByteArray)) ++ y170) (IntKind.wrap .i64 (i5_2 + 1))))))) else
  (k0 word0_0))
def F_spec_l5Line (fu : Nat) (word_0 : ByteArray) (list_1 : (Sl Int)) : Option (ByteArray) :=
 (L (fun w0 go0 => F_spec_l5Line_B0 fu list_1 (fun z171 => ((bif (decide (ByteArray.size z171 + ByteArray.size (⟨#[10]⟩ : ByteArray) ≤ 9223372036854775807)) then some () else none : Option Unit).bind fun _ =>
  (some (z171 ++ (⟨#[10]⟩ : ByteArray))))) w0.1 w0.2 (fun q0 q1 => go0 (q0, q1))) fu ((word_0, 0) : ByteArray × Int))
def pcf_b16 (fu f : Nat) (xs : List (D RT den)) : Option (Out RT den) := match f with | 33 => S_b14 fu xs | _ => none
def pc_b16 (fu : Nat) : Pc RT den := ⟨pcf_b16 fu, fun _ => false, fun _ => false, pcd0, pcd0, pcd0, pcx0⟩
def msk_b16 (b : Nat) : List Nat := match b with | 0 => (2 :: 3 :: 4 :: (rg 6 16 [])) | 100000 => (1 :: 2 :: 3 :: (rg 5 17 [])) | _ => []
def ps_b16_0 : List (Pat RT) := (.flat .str :: .flat (.rs .i64) :: .flat .q :: .flat .q :: .flat .q :: .flat (.int .i64) :: (fq 16 []))
def os_b16_0 : List (OP RT) := []
def conv_b16_0 (r : Raw den ps_b16_0 os_b16_0) : ((Sl Int)) × (ByteArray × Int) := (r.1.2.1, (r.1.1, (e5 r.1).1))
def back_b16_0 (c : (Sl Int)) (w : ByteArray × Int) : St RT den := ⟨((.str w.1) :: (.rs c.z .i64 c.n c.f) :: .q :: .q :: .q :: (ii w.2) :: (qs 16 [])), []⟩
def Bk_b16_0 {ρ : Type} (fu : Nat) (c : (Sl Int)) (k : Ex → St RT den → Option ρ) (w : ByteArray × Int) (go : (ByteArray × Int) → Option ρ) : Option ρ := F_spec_l5Line_B0 fu c (fun a0 => k (.exit 0) ⟨((.str a0) :: (qs 21 [])), []⟩) w.1 w.2 (fun q0 q1 => go (q0, q1))
def lp_b16 (fu : Nat) : Lp RT den (ByteArray) := ⟨fun b s k => match b with | 0 => handle ps_b16_0 os_b16_0 conv_b16_0 (Bk_b16_0 fu) fu s k | _ => none, inl0⟩
theorem ev_b16 (fu : Nat) (word_0 : ByteArray) (list_1 : (Sl Int)) : evFun E (pc_b16 fu) msk_b16 (lp_b16 fu) out_str 15 [(.str word_0), (.rs list_1.z .i64 list_1.n list_1.f)] = F_spec_l5Line fu word_0 list_1 := by kernel_rfl
noncomputable def body_b16 : Code := Tryz.f15.body.getD .skip
noncomputable def lc_b16_0 : Code := ((loops 0 body_b16).getD 0 (0, .skip)).2
theorem round_b16_0 (fu : Nat) : RoundOk E (pc_b16 fu) msk_b16 (lp_b16 fu) 0 lc_b16_0 back_b16_0 0 100000 0 (Bk_b16_0 fu) := fun it k c w => by kernel_rfl
theorem lpok_b16_0 (fu : Nat) : LpAt E (pc_b16 fu) msk_b16 (lp_b16 fu) 0 0 100000 0 lc_b16_0 :=
 handle_ok (ps := ps_b16_0) (os := os_b16_0) (conv := conv_b16_0) (B := Bk_b16_0 fu) (fu := fu) back_b16_0 (fun raw => by kernel_rfl) 0 (fun c w => by kernel_rfl) (round_b16_0 fu)
theorem lpok_b16 (fu : Nat) : LpOk E (pc_b16 fu) 0 msk_b16 (lp_b16 fu) (loops 0 body_b16) := lp_nil (loop_all 1 (by kernel_rfl) fun i hi => match i, hi with
 | 0, _ => by
  have h : (loops 0 body_b16).getD 0 (0, .skip) = (0, lc_b16_0) := by kernel_rfl
  rw [h]; exact lpok_b16_0 fu
 | i + 1, hi => absurd hi (by omega)) (by kernel_rfl)
def S_b16 (fu : Nat) (xs : List (D RT den)) : Option (Out RT den) := match xs with | [.str a0_0, .rs za1_0 .i64 na1_0 fa1_0] => some ⟨ByteArray, F_spec_l5Line fu a0_0 (⟨za1_0, na1_0, fa1_0⟩ : (Sl Int)), enc_str, fun _ => true⟩ | _ => none
theorem hpc_b16 (fu : Nat) : HpcOk E Tryz.prog (pcf_b16 fu) := by
 intro f xs o h
 unfold pcf_b16 at h
 split at h
 ·exact good_b14 fu xs o h
 ·cases h
theorem goodv_b16 (fu : Nat) (word_0 : ByteArray) (list_1 : (Sl Int)) (y : ByteArray) (hy : F_spec_l5Line fu word_0 list_1 = some y) : Vm.Good E Tryz.prog 15 [(.str word_0), (.rs list_1.z .i64 list_1.n list_1.f)] (enc_str y) :=
 fun_good E_ok (pc_good (pc := pc_b16 fu) (hpc_b16 fu) hpx0) (fn := Tryz.f15) (by kernel_rfl) (by kernel_rfl) (by kernel_rfl) (lpok_b16 fu) (fun d hd => out_str_enc d _ hd) ((ev_b16 fu word_0 list_1).trans hy)
theorem good_b16 (fu : Nat) : GoodS E Tryz.prog 15 (S_b16 fu) := by
 intro xs o h y hy
 unfold S_b16 at h
 split at h
 ·rename_i a0_0 za1_0 na1_0 fa1_0
  cases h
  exact goodv_b16 fu a0_0 (⟨za1_0, na1_0, fa1_0⟩ : (Sl Int)) y hy
 ·cases h
end Go.Proofs.YtcmfekgdlaffkaaGreatDoor.Px
