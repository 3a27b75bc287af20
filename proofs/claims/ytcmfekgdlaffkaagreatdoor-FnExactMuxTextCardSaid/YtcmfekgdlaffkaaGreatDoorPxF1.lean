/- The functions' evaluated forms, each a proved summary. Conditions: none. -/
import Derived.Test.YtcmfekgdlaffkaaGreatDoorPxF0
namespace Go.Proofs.YtcmfekgdlaffkaaGreatDoor.Px
open Go Go.RowKit Go.Proofs Vm
set_option linter.unusedVariables false
set_option linter.unusedSimpArgs false
set_option maxRecDepth 100000
abbrev Yb0 : Type := (Sl S_impl_Share) × Nat × Int × Int × Nat
abbrev Yb1 : Type := Int × (Sl S_impl_Backend) × (Sl S_impl_Vip) × Int × Int × Int × (Sl Int)
def F_spec_l5Shares_B0 {ρ : Type} (fu : Nat) (c0_0 : Int) (c0_1 : (Sl S_impl_Backend)) (c0_2 : (Sl S_impl_Vip)) (vip1_3 : Int) (k0 : Nat → Nat → (Nat → S_impl_Share) → Option ρ) (out5_4 : Nat) (i6_5 : Int) (on0_6 : Nat) (of0_7 : (Nat → S_impl_Share)) (go : Nat → Int → Nat → (Nat → S_impl_Share) → Option ρ) : Option ρ :=
 ((bif (decide (0 ≤ vip1_3) && decide ((Int.toNat vip1_3) < c0_2.n)) then some () else none : Option Unit).bind fun _ => (bif (decide (i6_5 < (((c0_2.f (Int.toNat vip1_3)).Names.n : Nat) : Int))) then
  ((bif (decide (0 ≤ vip1_3) && decide ((Int.toNat vip1_3) < c0_2.n)) then some () else none : Option Unit).bind fun _ => ((bif (decide (0 ≤ i6_5) && decide ((Int.toNat i6_5) < (c0_2.f (Int.toNat vip1_3)).Names.n)) then
  some () else none : Option Unit).bind fun _ => ((F_spec_l5At fu (⟨c0_0, c0_1, c0_2⟩ : S_impl_Config) ((c0_2.f (Int.toNat vip1_3)).Names.f (Int.toNat i6_5))).bind fun y45 =>
  ((bif (decide (0 ≤ y45) && decide ((Int.toNat y45) < c0_1.n)) then some () else none : Option Unit).bind fun _ => (((bif (c0_1.f (Int.toNat y45)).Up then (some ((c0_1.f (Int.toNat y45)).Stage == 1)) else
  (some false)) : Option Bool).bind fun m46 => (bif m46 then (bif (decide ((out5_4 + 1) ≤ 9223372036854775807) && decide ((out5_4 + 1) * 16 ≤ 140737488355328)) then (go (out5_4 + 1) (IntKind.wrap .i64 (i6_5 + 1)) (out5_4 + 1) (fun i =>
  if i < out5_4 then (of0_7 i) else ((fun i => ([(⟨(c0_1.f (Int.toNat y45)).Name, (c0_1.f (Int.toNat y45)).Weight⟩ : S_impl_Share)] : List (S_impl_Share)).getD i (dflt .impl_Share)) (i - out5_4)))) else
  none) else (go out5_4 (IntKind.wrap .i64 (i6_5 + 1)) on0_6 of0_7))))))) else (k0 out5_4 on0_6 of0_7)))
def F_spec_l5Shares (fu : Nat) (c_0 : S_impl_Config) (vip_1 : Int) : Option ((Sl S_impl_Share)) :=
 (L (fun w0 go0 => F_spec_l5Shares_B0 fu c_0.Version c_0.Backends c_0.Vips vip_1 (fun z47 z48 z49 => (some (⟨none, z47, z49⟩ : (Sl S_impl_Share)))) w0.1 w0.2.1 w0.2.2.1 w0.2.2.2 (fun q0 q1 q2 q3 =>
  go0 (q0, q1, q2, q3))) fu ((0, 0, 0, (fun _ => dflt .impl_Share)) : Nat × Int × Nat × (Nat → S_impl_Share)))
def pcf_a22 (fu f : Nat) (xs : List (D RT den)) : Option (Out RT den) := match f with | 85 => S_a21 fu xs | _ => none
def pc_a22 (fu : Nat) : Pc RT den := ⟨pcf_a22 fu, fun _ => false, fun _ => false, pcd0, pcd0, pcd0, pcx0⟩
def msk_a22 (b : Nat) : List Nat := match b with | 0 => (2 :: 3 :: 4 :: (rg 7 50 [])) | 100000 => (0 :: 1 :: 2 :: 3 :: (rg 6 51 [])) | 200006 => [47] | 300000 => [5] | _ => []
def ps_a22_0 : List (Pat RT) := (.rptr [(.int .i64), (.rs .impl_Backend), (.rs .impl_Vip)] :: .flat (.int .i64) :: .flat .q :: .flat .q :: .flat .q :: .flat (.os 0) :: .flat (.int .i64) :: (fq 50 []))
def os_a22_0 : List (OP RT) := [.row false .impl_Share]
def conv_a22_0 (r : Raw den ps_a22_0 os_a22_0) : (Int × (Sl S_impl_Backend) × (Sl S_impl_Vip) × Int) × (Nat × Int × Nat × (Nat → S_impl_Share)) := ((r.1.1.1, r.1.1.2.1, r.1.1.2.2.1, r.1.2.1), ((e5 r.1).1, (e5 r.1).2.1, r.2.1.1, r.2.1.2))
def back_a22_0 (c : Int × (Sl S_impl_Backend) × (Sl S_impl_Vip) × Int) (w : Nat × Int × Nat × (Nat → S_impl_Share)) : St RT den := ⟨((.rptr [(ii c.1), (.rs c.2.1.z .impl_Backend c.2.1.n c.2.1.f), (.rs c.2.2.1.z .impl_Vip c.2.2.1.n c.2.2.1.f)]) :: (ii c.2.2.2) :: .q :: .q :: .q :: (.os 0 w.1) :: (ii w.2.1) :: (qs 50 [])), [(.row false .impl_Share w.2.2.1 w.2.2.2)]⟩
def Bk_a22_0 {ρ : Type} (fu : Nat) (c : Int × (Sl S_impl_Backend) × (Sl S_impl_Vip) × Int) (k : Ex → St RT den → Option ρ) (w : Nat × Int × Nat × (Nat → S_impl_Share)) (go : (Nat × Int × Nat × (Nat → S_impl_Share)) → Option ρ) : Option ρ := F_spec_l5Shares_B0 fu c.1 c.2.1 c.2.2.1 c.2.2.2 (fun a0 a1 a2 => k (.exit 0) ⟨(qs 5 ((.os 0 a0) :: (qs 51 []))), [(.row false .impl_Share a1 a2)]⟩) w.1 w.2.1 w.2.2.1 w.2.2.2 (fun q0 q1 q2 q3 => go (q0, q1, q2, q3))
def lp_a22 (fu : Nat) : Lp RT den ((Sl S_impl_Share)) := ⟨fun b s k => match b with | 0 => handle ps_a22_0 os_a22_0 conv_a22_0 (Bk_a22_0 fu) fu s k | _ => none, inl0⟩
theorem ev_a22 (fu : Nat) (c_0 : S_impl_Config) (vip_1 : Int) : evFun E (pc_a22 fu) msk_a22 (lp_a22 fu) out_sl_impl_Share 59 [(.rptr [(ii c_0.Version), (.rs c_0.Backends.z .impl_Backend c_0.Backends.n c_0.Backends.f), (.rs c_0.Vips.z .impl_Vip c_0.Vips.n c_0.Vips.f)]), (ii vip_1)] = F_spec_l5Shares fu c_0 vip_1 := by kernel_rfl
noncomputable def body_a22 : Code := Tryz.f59.body.getD .skip
noncomputable def lc_a22_0 : Code := ((loops 0 body_a22).getD 0 (0, .skip)).2
theorem round_a22_0 (fu : Nat) : RoundOk E (pc_a22 fu) msk_a22 (lp_a22 fu) 0 lc_a22_0 back_a22_0 0 100000 1 (Bk_a22_0 fu) := fun it k c w => by kernel_rfl
theorem lpok_a22_0 (fu : Nat) : LpAt E (pc_a22 fu) msk_a22 (lp_a22 fu) 0 0 100000 0 lc_a22_0 :=
 handle_ok (ps := ps_a22_0) (os := os_a22_0) (conv := conv_a22_0) (B := Bk_a22_0 fu) (fu := fu) back_a22_0 (fun raw => by kernel_rfl) 1 (fun c w => by kernel_rfl) (round_a22_0 fu)
theorem lpok_a22 (fu : Nat) : LpOk E (pc_a22 fu) 0 msk_a22 (lp_a22 fu) (loops 0 body_a22) := lp_nil (loop_all 1 (by kernel_rfl) fun i hi => match i, hi with
 | 0, _ => by
  have h : (loops 0 body_a22).getD 0 (0, .skip) = (0, lc_a22_0) := by kernel_rfl
  rw [h]; exact lpok_a22_0 fu
 | i + 1, hi => absurd hi (by omega)) (by kernel_rfl)
def S_a22 (fu : Nat) (xs : List (D RT den)) : Option (Out RT den) := match xs with | [.rptr (.int .i64 a0_1 :: .rs za0_2 .impl_Backend na0_2 fa0_2 :: .rs za0_3 .impl_Vip na0_3 fa0_3 :: ra0), .int .i64 a1_0] => some ⟨(Sl S_impl_Share), F_spec_l5Shares fu (⟨a0_1, (⟨za0_2, na0_2, fa0_2⟩ : (Sl S_impl_Backend)), (⟨za0_3, na0_3, fa0_3⟩ : (Sl S_impl_Vip))⟩ : S_impl_Config) a1_0, enc_sl_impl_Share, fun _ => true⟩ | _ => none
theorem hpc_a22 (fu : Nat) : HpcOk E Tryz.prog (pcf_a22 fu) := by
 intro f xs o h
 unfold pcf_a22 at h
 split at h
 ·exact good_a21 fu xs o h
 ·cases h
theorem goodv_a22 (fu : Nat) (c_0 : S_impl_Config) (vip_1 : Int) (y : (Sl S_impl_Share)) (hy : F_spec_l5Shares fu c_0 vip_1 = some y) : Vm.Good E Tryz.prog 59 [(.rptr [(ii c_0.Version), (.rs c_0.Backends.z .impl_Backend c_0.Backends.n c_0.Backends.f), (.rs c_0.Vips.z .impl_Vip c_0.Vips.n c_0.Vips.f)]), (ii vip_1)] (enc_sl_impl_Share y) :=
 fun_good E_ok (pc_good (pc := pc_a22 fu) (hpc_a22 fu) hpx0) (fn := Tryz.f59) (by kernel_rfl) (by kernel_rfl) (by kernel_rfl) (lpok_a22 fu) (fun d hd => out_sl_impl_Share_enc d _ hd) ((ev_a22 fu c_0 vip_1).trans hy)
theorem good_a22 (fu : Nat) : GoodS E Tryz.prog 59 (S_a22 fu) := by
 intro xs o h y hy
 unfold S_a22 at h
 split at h
 ·rename_i a0_1 za0_2 na0_2 fa0_2 za0_3 na0_3 fa0_3 ra0 a1_0
  cases h
  exact (goodv_a22 fu (⟨a0_1, (⟨za0_2, na0_2, fa0_2⟩ : (Sl S_impl_Backend)), (⟨za0_3, na0_3, fa0_3⟩ : (Sl S_impl_Vip))⟩ : S_impl_Config) a1_0 y hy).sub ⟨Sub.of_eq ra0 rfl, .refl _, trivial⟩
 ·cases h
def F_spec_l4Weights_B0 {ρ : Type} (fu : Nat) (list0_0 : (Sl S_impl_Share)) (k0 : Int → Option ρ) (n3_1 i4_2 : Int) (go : Int → Int → Option ρ) : Option ρ :=
 (bif (decide (i4_2 < ((list0_0.n : Nat) : Int))) then ((bif (decide (0 ≤ i4_2) && decide ((Int.toNat i4_2) < list0_0.n)) then some () else none : Option Unit).bind fun _ => (go (IntKind.wrap .i64 (n3_1 + (list0_0.f (Int.toNat i4_2)).Weight)) (IntKind.wrap .i64 (i4_2 + 1)))) else
  (k0 n3_1))
def F_spec_l4Weights (fu : Nat) (list_0 : (Sl S_impl_Share)) : Option (Int) :=
 (L (fun w0 go0 => F_spec_l4Weights_B0 fu list_0 (fun z60 => (some z60)) w0.1 w0.2 (fun q0 q1 => go0 (q0, q1))) fu ((0, 0) : Int × Int))
def pc_a23 (fu : Nat) : Pc RT den := ⟨pcf0, fun _ => false, fun _ => false, pcd0, pcd0, pcd0, pcx0⟩
def msk_a23 (b : Nat) : List Nat := match b with | 0 => (1 :: 2 :: (rg 5 14 [])) | 100000 => (0 :: 1 :: (rg 4 15 [])) | _ => []
def ps_a23_0 : List (Pat RT) := (.flat (.rs .impl_Share) :: .flat .q :: .flat .q :: .flat (.int .i64) :: .flat (.int .i64) :: (fq 14 []))
def os_a23_0 : List (OP RT) := []
def conv_a23_0 (r : Raw den ps_a23_0 os_a23_0) : ((Sl S_impl_Share)) × (Int × Int) := (r.1.1, (r.1.2.2.2.1, r.1.2.2.2.2.1))
def back_a23_0 (c : (Sl S_impl_Share)) (w : Int × Int) : St RT den := ⟨((.rs c.z .impl_Share c.n c.f) :: .q :: .q :: (ii w.1) :: (ii w.2) :: (qs 14 [])), []⟩
def Bk_a23_0 {ρ : Type} (fu : Nat) (c : (Sl S_impl_Share)) (k : Ex → St RT den → Option ρ) (w : Int × Int) (go : (Int × Int) → Option ρ) : Option ρ := F_spec_l4Weights_B0 fu c (fun a0 => k (.exit 0) ⟨(.q :: .q :: .q :: (ii a0) :: (qs 15 [])), []⟩) w.1 w.2 (fun q0 q1 => go (q0, q1))
def lp_a23 (fu : Nat) : Lp RT den (Int) := ⟨fun b s k => match b with | 0 => handle ps_a23_0 os_a23_0 conv_a23_0 (Bk_a23_0 fu) fu s k | _ => none, inl0⟩
theorem ev_a23 (fu : Nat) (list_0 : (Sl S_impl_Share)) : evFun E (pc_a23 fu) msk_a23 (lp_a23 fu) out_i64 83 [(.rs list_0.z .impl_Share list_0.n list_0.f)] = F_spec_l4Weights fu list_0 := by kernel_rfl
noncomputable def body_a23 : Code := Tryz.f83.body.getD .skip
noncomputable def lc_a23_0 : Code := ((loops 0 body_a23).getD 0 (0, .skip)).2
theorem round_a23_0 (fu : Nat) : RoundOk E (pc_a23 fu) msk_a23 (lp_a23 fu) 0 lc_a23_0 back_a23_0 0 100000 0 (Bk_a23_0 fu) := fun it k c w => by kernel_rfl
theorem lpok_a23_0 (fu : Nat) : LpAt E (pc_a23 fu) msk_a23 (lp_a23 fu) 0 0 100000 0 lc_a23_0 :=
 handle_ok (ps := ps_a23_0) (os := os_a23_0) (conv := conv_a23_0) (B := Bk_a23_0 fu) (fu := fu) back_a23_0 (fun raw => by kernel_rfl) 0 (fun c w => by kernel_rfl) (round_a23_0 fu)
theorem lpok_a23 (fu : Nat) : LpOk E (pc_a23 fu) 0 msk_a23 (lp_a23 fu) (loops 0 body_a23) := lp_nil (loop_all 1 (by kernel_rfl) fun i hi => match i, hi with
 | 0, _ => by
  have h : (loops 0 body_a23).getD 0 (0, .skip) = (0, lc_a23_0) := by kernel_rfl
  rw [h]; exact lpok_a23_0 fu
 | i + 1, hi => absurd hi (by omega)) (by kernel_rfl)
def S_a23 (fu : Nat) (xs : List (D RT den)) : Option (Out RT den) := match xs with | [.rs za0_0 .impl_Share na0_0 fa0_0] => some ⟨Int, F_spec_l4Weights fu (⟨za0_0, na0_0, fa0_0⟩ : (Sl S_impl_Share)), enc_i64, fun _ => true⟩ | _ => none
theorem goodv_a23 (fu : Nat) (list_0 : (Sl S_impl_Share)) (y : Int) (hy : F_spec_l4Weights fu list_0 = some y) : Vm.Good E Tryz.prog 83 [(.rs list_0.z .impl_Share list_0.n list_0.f)] (enc_i64 y) :=
 fun_good E_ok (pc_good (pc := pc_a23 fu) hpc0 hpx0) (fn := Tryz.f83) (by kernel_rfl) (by kernel_rfl) (by kernel_rfl) (lpok_a23 fu) (fun d hd => out_i64_enc d _ hd) ((ev_a23 fu list_0).trans hy)
theorem good_a23 (fu : Nat) : GoodS E Tryz.prog 83 (S_a23 fu) := by
 intro xs o h y hy
 unfold S_a23 at h
 split at h
 ·rename_i za0_0 na0_0 fa0_0
  cases h
  exact goodv_a23 fu (⟨za0_0, na0_0, fa0_0⟩ : (Sl S_impl_Share)) y hy
 ·cases h
def F_spec_l3Mod (fu : Nat) (n_0 m_1 : Int) : Option (Int) :=
 ((bif (!decide (m_1 = 0)) then some () else none : Option Unit).bind fun _ => ((bif (!decide (m_1 = 0)) then some () else none : Option Unit).bind fun _ => (some (Int.tmod (IntKind.wrap .i64 ((Int.tmod n_0 m_1) + m_1)) m_1))))
def pc_a24 (fu : Nat) : Pc RT den := ⟨pcf0, fun _ => false, fun _ => false, pcd0, pcd0, pcd0, pcx0⟩
def msk_a24 (b : Nat) : List Nat := []
def lp_a24 (fu : Nat) : Lp RT den (Int) := ⟨fun b s k => none, inl0⟩
theorem ev_a24 (fu : Nat) (n_0 m_1 : Int) : evFun E (pc_a24 fu) msk_a24 (lp_a24 fu) out_i64 137 [(ii n_0), (ii m_1)] = F_spec_l3Mod fu n_0 m_1 := by kernel_rfl
noncomputable def body_a24 : Code := Tryz.f137.body.getD .skip
theorem lpok_a24 (fu : Nat) : LpOk E (pc_a24 fu) 0 msk_a24 (lp_a24 fu) (loops 0 body_a24) := lp_nil (loop_nil (by kernel_rfl)) (by kernel_rfl)
def S_a24 (fu : Nat) (xs : List (D RT den)) : Option (Out RT den) := match xs with | [.int .i64 a0_0, .int .i64 a1_0] => some ⟨Int, F_spec_l3Mod fu a0_0 a1_0, enc_i64, fun _ => true⟩ | _ => none
theorem goodv_a24 (fu : Nat) (n_0 m_1 y : Int) (hy : F_spec_l3Mod fu n_0 m_1 = some y) : Vm.Good E Tryz.prog 137 [(ii n_0), (ii m_1)] (enc_i64 y) :=
 fun_good E_ok (pc_good (pc := pc_a24 fu) hpc0 hpx0) (fn := Tryz.f137) (by kernel_rfl) (by kernel_rfl) (by kernel_rfl) (lpok_a24 fu) (fun d hd => out_i64_enc d _ hd) ((ev_a24 fu n_0 m_1).trans hy)
theorem good_a24 (fu : Nat) : GoodS E Tryz.prog 137 (S_a24 fu) := by
 intro xs o h y hy
 unfold S_a24 at h
 split at h
 ·rename_i a0_0 a1_0
  cases h
  exact goodv_a24 fu a0_0 a1_0 y hy
 ·cases h
def F_spec_MixNumber_B0 {ρ : Type} (fu : Nat) (k0 : Int → Option ρ) (n0_0 h5_1 k6_2 : Int) (go : Int → Int → Int → Option ρ) : Option ρ :=
 (bif (decide (k6_2 < 4)) then (go (IntKind.wrap .i64 (Int.tdiv n0_0 256)) (Int.tmod (IntKind.wrap .i64 ((IntKind.wrap .i64 ((IntKind.wrap .i64 (h5_1 * 131)) + (Int.tmod n0_0 256))) + 1)) 1000003) (IntKind.wrap .i64 (k6_2 + 1))) else
  (k0 h5_1))
def F_spec_MixNumber (fu : Nat) (n_0 salt_1 : Int) : Option (Int) :=
 ((F_spec_l3Mod fu salt_1 10007).bind fun y66 => ((F_spec_l3Mod fu n_0 4294967296).bind fun y67 => (L (fun w0 go0 => F_spec_MixNumber_B0 fu  (fun z68 => (some z68)) w0.1 w0.2.1 w0.2.2 (fun q0 q1 q2 =>
  go0 (q0, q1, q2))) fu ((y67, (IntKind.wrap .i64 (y66 + 11)), 0) : Int × Int × Int))))
def pcf_a25 (fu f : Nat) (xs : List (D RT den)) : Option (Out RT den) := match f with | 137 => S_a24 fu xs | _ => none
def pc_a25 (fu : Nat) : Pc RT den := ⟨pcf_a25 fu, fun _ => false, fun _ => false, pcd0, pcd0, pcd0, pcx0⟩
def msk_a25 (b : Nat) : List Nat := match b with | 0 => (1 :: 2 :: 3 :: 4 :: (rg 7 19 [])) | 100000 => (0 :: 1 :: 2 :: 3 :: (rg 6 20 [])) | _ => []
def ps_a25_0 : List (Pat RT) := (.flat (.int .i64) :: (fq 4 (.flat (.int .i64) :: .flat (.int .i64) :: (fq 19 []))))
def os_a25_0 : List (OP RT) := []
def conv_a25_0 (r : Raw den ps_a25_0 os_a25_0) : (Unit) × (Int × Int × Int) := ((), (r.1.1, (e5 r.1).1, (e5 r.1).2.1))
def back_a25_0 (c : Unit) (w : Int × Int × Int) : St RT den := ⟨((ii w.1) :: (qs 4 ((ii w.2.1) :: (ii w.2.2) :: (qs 19 [])))), []⟩
def Bk_a25_0 {ρ : Type} (fu : Nat) (c : Unit) (k : Ex → St RT den → Option ρ) (w : Int × Int × Int) (go : (Int × Int × Int) → Option ρ) : Option ρ := F_spec_MixNumber_B0 fu  (fun a0 => k (.exit 0) ⟨(qs 5 ((ii a0) :: (qs 20 []))), []⟩) w.1 w.2.1 w.2.2 (fun q0 q1 q2 => go (q0, q1, q2))
def lp_a25 (fu : Nat) : Lp RT den (Int) := ⟨fun b s k => match b with | 0 => handle ps_a25_0 os_a25_0 conv_a25_0 (Bk_a25_0 fu) fu s k | _ => none, inl0⟩
theorem ev_a25 (fu : Nat) (n_0 salt_1 : Int) : evFun E (pc_a25 fu) msk_a25 (lp_a25 fu) out_i64 133 [(ii n_0), (ii salt_1)] = F_spec_MixNumber fu n_0 salt_1 := by kernel_rfl
noncomputable def body_a25 : Code := Tryz.f133.body.getD .skip
noncomputable def lc_a25_0 : Code := ((loops 0 body_a25).getD 0 (0, .skip)).2
theorem round_a25_0 (fu : Nat) : RoundOk E (pc_a25 fu) msk_a25 (lp_a25 fu) 0 lc_a25_0 back_a25_0 0 100000 0 (Bk_a25_0 fu) := fun it k c w => by kernel_rfl
theorem lpok_a25_0 (fu : Nat) : LpAt E (pc_a25 fu) msk_a25 (lp_a25 fu) 0 0 100000 0 lc_a25_0 :=
 handle_ok (ps := ps_a25_0) (os := os_a25_0) (conv := conv_a25_0) (B := Bk_a25_0 fu) (fu := fu) back_a25_0 (fun raw => by kernel_rfl) 0 (fun c w => by kernel_rfl) (round_a25_0 fu)
theorem lpok_a25 (fu : Nat) : LpOk E (pc_a25 fu) 0 msk_a25 (lp_a25 fu) (loops 0 body_a25) := lp_nil (loop_all 1 (by kernel_rfl) fun i hi => match i, hi with
 | 0, _ => by
  have h : (loops 0 body_a25).getD 0 (0, .skip) = (0, lc_a25_0) := by kernel_rfl
  rw [h]; exact lpok_a25_0 fu
 | i + 1, hi => absurd hi (by omega)) (by kernel_rfl)
def S_a25 (fu : Nat) (xs : List (D RT den)) : Option (Out RT den) := match xs with | [.int .i64 a0_0, .int .i64 a1_0] => some ⟨Int, F_spec_MixNumber fu a0_0 a1_0, enc_i64, fun _ => true⟩ | _ => none
theorem hpc_a25 (fu : Nat) : HpcOk E Tryz.prog (pcf_a25 fu) := by
 intro f xs o h
 unfold pcf_a25 at h
 split at h
 ·exact good_a24 fu xs o h
 ·cases h
theorem goodv_a25 (fu : Nat) (n_0 salt_1 y : Int) (hy : F_spec_MixNumber fu n_0 salt_1 = some y) : Vm.Good E Tryz.prog 133 [(ii n_0), (ii salt_1)] (enc_i64 y) :=
 fun_good E_ok (pc_good (pc := pc_a25 fu) (hpc_a25 fu) hpx0) (fn := Tryz.f133) (by kernel_rfl) (by kernel_rfl) (by kernel_rfl) (lpok_a25 fu) (fun d hd => out_i64_enc d _ hd) ((ev_a25 fu n_0 salt_1).trans hy)
theorem good_a25 (fu : Nat) : GoodS E Tryz.prog 133 (S_a25 fu) := by
 intro xs o h y hy
 unfold S_a25 at h
 split at h
 ·rename_i a0_0 a1_0
  cases h
  exact goodv_a25 fu a0_0 a1_0 y hy
 ·cases h
def F_spec_l3Offset (fu : Nat) (name_0 : Int) : Option (Int) :=
 ((F_spec_MixNumber fu name_0 3).bind fun y65 => (some (Int.tmod y65 31)))
def pcf_a26 (fu f : Nat) (xs : List (D RT den)) : Option (Out RT den) := match f with | 133 => S_a25 fu xs | _ => none
def pc_a26 (fu : Nat) : Pc RT den := ⟨pcf_a26 fu, fun _ => false, fun _ => false, pcd0, pcd0, pcd0, pcx0⟩
def msk_a26 (b : Nat) : List Nat := []
def lp_a26 (fu : Nat) : Lp RT den (Int) := ⟨fun b s k => none, inl0⟩
theorem ev_a26 (fu : Nat) (name_0 : Int) : evFun E (pc_a26 fu) msk_a26 (lp_a26 fu) out_i64 124 [(ii name_0)] = F_spec_l3Offset fu name_0 := by kernel_rfl
noncomputable def body_a26 : Code := Tryz.f124.body.getD .skip
theorem lpok_a26 (fu : Nat) : LpOk E (pc_a26 fu) 0 msk_a26 (lp_a26 fu) (loops 0 body_a26) := lp_nil (loop_nil (by kernel_rfl)) (by kernel_rfl)
def S_a26 (fu : Nat) (xs : List (D RT den)) : Option (Out RT den) := match xs with | [.int .i64 a0_0] => some ⟨Int, F_spec_l3Offset fu a0_0, enc_i64, fun _ => true⟩ | _ => none
theorem hpc_a26 (fu : Nat) : HpcOk E Tryz.prog (pcf_a26 fu) := by
 intro f xs o h
 unfold pcf_a26 at h
 split at h
 ·exact good_a25 fu xs o h
 ·cases h
theorem goodv_a26 (fu : Nat) (name_0 y : Int) (hy : F_spec_l3Offset fu name_0 = some y) : Vm.Good E Tryz.prog 124 [(ii name_0)] (enc_i64 y) :=
 fun_good E_ok (pc_good (pc := pc_a26 fu) (hpc_a26 fu) hpx0) (fn := Tryz.f124) (by kernel_rfl) (by kernel_rfl) (by kernel_rfl) (lpok_a26 fu) (fun d hd => out_i64_enc d _ hd) ((ev_a26 fu name_0).trans hy)
theorem good_a26 (fu : Nat) : GoodS E Tryz.prog 124 (S_a26 fu) := by
 intro xs o h y hy
 unfold S_a26 at h
 split at h
 ·rename_i a0_0
  cases h
  exact goodv_a26 fu a0_0 y hy
 ·cases h
def F_spec_l3Skip (fu : Nat) (name_0 : Int) : Option (Int) :=
 ((F_spec_MixNumber fu name_0 5).bind fun y69 => (some (IntKind.wrap .i64 (1 + (Int.tmod y69 30)))))
def pcf_a27 (fu f : Nat) (xs : List (D RT den)) : Option (Out RT den) := match f with | 133 => S_a25 fu xs | _ => none
def pc_a27 (fu : Nat) : Pc RT den := ⟨pcf_a27 fu, fun _ => false, fun _ => false, pcd0, pcd0, pcd0, pcx0⟩
def msk_a27 (b : Nat) : List Nat := []
def lp_a27 (fu : Nat) : Lp RT den (Int) := ⟨fun b s k => none, inl0⟩
theorem ev_a27 (fu : Nat) (name_0 : Int) : evFun E (pc_a27 fu) msk_a27 (lp_a27 fu) out_i64 125 [(ii name_0)] = F_spec_l3Skip fu name_0 := by kernel_rfl
noncomputable def body_a27 : Code := Tryz.f125.body.getD .skip
theorem lpok_a27 (fu : Nat) : LpOk E (pc_a27 fu) 0 msk_a27 (lp_a27 fu) (loops 0 body_a27) := lp_nil (loop_nil (by kernel_rfl)) (by kernel_rfl)
def S_a27 (fu : Nat) (xs : List (D RT den)) : Option (Out RT den) := match xs with | [.int .i64 a0_0] => some ⟨Int, F_spec_l3Skip fu a0_0, enc_i64, fun _ => true⟩ | _ => none
theorem hpc_a27 (fu : Nat) : HpcOk E Tryz.prog (pcf_a27 fu) := by
 intro f xs o h
 unfold pcf_a27 at h
 split at h
 ·exact good_a25 fu xs o h
 ·cases h
theorem goodv_a27 (fu : Nat) (name_0 y : Int) (hy : F_spec_l3Skip fu name_0 = some y) : Vm.Good E Tryz.prog 125 [(ii name_0)] (enc_i64 y) :=
 fun_good E_ok (pc_good (pc := pc_a27 fu) (hpc_a27 fu) hpx0) (fn := Tryz.f125) (by kernel_rfl) (by kernel_rfl) (by kernel_rfl) (lpok_a27 fu) (fun d hd => out_i64_enc d _ hd) ((ev_a27 fu name_0).trans hy)
theorem good_a27 (fu : Nat) : GoodS E Tryz.prog 125 (S_a27 fu) := by
 intro xs o h y hy
 unfold S_a27 at h
 split at h
 ·rename_i a0_0
  cases h
  exact goodv_a27 fu a0_0 y hy
 ·cases h
def F_spec_l3Place (fu : Nat) (name_0 k_1 : Int) : Option (Int) :=
 ((F_spec_l3Offset fu name_0).bind fun y63 => ((F_spec_l3Skip fu name_0).bind fun y64 => (some (Int.tmod (IntKind.wrap .i64 (y63 + (IntKind.wrap .i64 (k_1 * y64)))) 31))))
def pcf_a28 (fu f : Nat) (xs : List (D RT den)) : Option (Out RT den) := match f with | 124 => S_a26 fu xs | 125 => S_a27 fu xs | _ => none
def pc_a28 (fu : Nat) : Pc RT den := ⟨pcf_a28 fu, fun _ => false, fun _ => false, pcd0, pcd0, pcd0, pcx0⟩
def msk_a28 (b : Nat) : List Nat := []
def lp_a28 (fu : Nat) : Lp RT den (Int) := ⟨fun b s k => none, inl0⟩
theorem ev_a28 (fu : Nat) (name_0 k_1 : Int) : evFun E (pc_a28 fu) msk_a28 (lp_a28 fu) out_i64 110 [(ii name_0), (ii k_1)] = F_spec_l3Place fu name_0 k_1 := by kernel_rfl
noncomputable def body_a28 : Code := Tryz.f110.body.getD .skip
theorem lpok_a28 (fu : Nat) : LpOk E (pc_a28 fu) 0 msk_a28 (lp_a28 fu) (loops 0 body_a28) := lp_nil (loop_nil (by kernel_rfl)) (by kernel_rfl)
def S_a28 (fu : Nat) (xs : List (D RT den)) : Option (Out RT den) := match xs with | [.int .i64 a0_0, .int .i64 a1_0] => some ⟨Int, F_spec_l3Place fu a0_0 a1_0, enc_i64, fun _ => true⟩ | _ => none
theorem hpc_a28 (fu : Nat) : HpcOk E Tryz.prog (pcf_a28 fu) := by
 intro f xs o h
 unfold pcf_a28 at h
 split at h
 ·exact good_a26 fu xs o h
 ·exact good_a27 fu xs o h
 ·cases h
theorem goodv_a28 (fu : Nat) (name_0 k_1 y : Int) (hy : F_spec_l3Place fu name_0 k_1 = some y) : Vm.Good E Tryz.prog 110 [(ii name_0), (ii k_1)] (enc_i64 y) :=
 fun_good E_ok (pc_good (pc := pc_a28 fu) (hpc_a28 fu) hpx0) (fn := Tryz.f110) (by kernel_rfl) (by kernel_rfl) (by kernel_rfl) (lpok_a28 fu) (fun d hd => out_i64_enc d _ hd) ((ev_a28 fu name_0 k_1).trans hy)
theorem good_a28 (fu : Nat) : GoodS E Tryz.prog 110 (S_a28 fu) := by
 intro xs o h y hy
 unfold S_a28 at h
 split at h
 ·rename_i a0_0 a1_0
  cases h
  exact goodv_a28 fu a0_0 a1_0 y hy
 ·cases h
def F_spec_l4Free_B0 {ρ : Type} (fu : Nat) (table0_0 : (Sl Int)) (name1_1 : Int) (k0 : Int → Option ρ) (k1 : Option ρ) (k5_2 : Int) (go : Int → Option ρ) : Option ρ :=
 (bif (decide (k5_2 < 31)) then ((F_spec_l3Place fu name1_1 k5_2).bind fun y61 => ((bif (decide (0 ≤ y61) && decide ((Int.toNat y61) < table0_0.n)) then some () else none : Option Unit).bind fun _ =>
  (bif ((table0_0.f (Int.toNat y61)) == 0) then (k0 y61) else (go (IntKind.wrap .i64 (k5_2 + 1)))))) else k1)
def F_spec_l4Free (fu : Nat) (table_0 : (Sl Int)) (name_1 : Int) : Option (Int) :=
 (L (fun w0 go0 => F_spec_l4Free_B0 fu table_0 name_1 (fun z62 => (some z62)) (some (-1)) w0 go0) fu (0 : Int))
def pcf_a29 (fu f : Nat) (xs : List (D RT den)) : Option (Out RT den) := match f with | 110 => S_a28 fu xs | _ => none
def pc_a29 (fu : Nat) : Pc RT den := ⟨pcf_a29 fu, fun _ => false, fun _ => false, pcd0, pcd0, pcd0, pcx0⟩
def msk_a29 (b : Nat) : List Nat := match b with | 0 => (2 :: 3 :: 4 :: (rg 6 14 [])) | 100000 => (0 :: 1 :: 2 :: 3 :: (rg 5 15 [])) | _ => []
def ps_a29_0 : List (Pat RT) := (.flat (.rs .i64) :: .flat (.int .i64) :: .flat .q :: .flat .q :: .flat .q :: .flat (.int .i64) :: (fq 14 []))
def os_a29_0 : List (OP RT) := []
def conv_a29_0 (r : Raw den ps_a29_0 os_a29_0) : ((Sl Int) × Int) × (Int) := ((r.1.1, r.1.2.1), (e5 r.1).1)
def back_a29_0 (c : (Sl Int) × Int) (w : Int) : St RT den := ⟨((.rs c.1.z .i64 c.1.n c.1.f) :: (ii c.2) :: .q :: .q :: .q :: (ii w) :: (qs 14 [])), []⟩
def Bk_a29_0 {ρ : Type} (fu : Nat) (c : (Sl Int) × Int) (k : Ex → St RT den → Option ρ) (w : Int) (go : (Int) → Option ρ) : Option ρ := F_spec_l4Free_B0 fu c.1 c.2 (fun a0 => k .ret ⟨(qs 4 ((ii a0) :: (qs 15 []))), []⟩) (k (.exit 0) ⟨(qs 20 []), []⟩) w go
def lp_a29 (fu : Nat) : Lp RT den (Int) := ⟨fun b s k => match b with | 0 => handle ps_a29_0 os_a29_0 conv_a29_0 (Bk_a29_0 fu) fu s k | _ => none, inl0⟩
theorem ev_a29 (fu : Nat) (table_0 : (Sl Int)) (name_1 : Int) : evFun E (pc_a29 fu) msk_a29 (lp_a29 fu) out_i64 84 [(.rs table_0.z .i64 table_0.n table_0.f), (ii name_1)] = F_spec_l4Free fu table_0 name_1 := by kernel_rfl
noncomputable def body_a29 : Code := Tryz.f84.body.getD .skip
noncomputable def lc_a29_0 : Code := ((loops 0 body_a29).getD 0 (0, .skip)).2
theorem round_a29_0 (fu : Nat) : RoundOk E (pc_a29 fu) msk_a29 (lp_a29 fu) 0 lc_a29_0 back_a29_0 0 100000 0 (Bk_a29_0 fu) := fun it k c w => by kernel_rfl
theorem lpok_a29_0 (fu : Nat) : LpAt E (pc_a29 fu) msk_a29 (lp_a29 fu) 0 0 100000 0 lc_a29_0 :=
 handle_ok (ps := ps_a29_0) (os := os_a29_0) (conv := conv_a29_0) (B := Bk_a29_0 fu) (fu := fu) back_a29_0 (fun raw => by kernel_rfl) 0 (fun c w => by kernel_rfl) (round_a29_0 fu)
theorem lpok_a29 (fu : Nat) : LpOk E (pc_a29 fu) 0 msk_a29 (lp_a29 fu) (loops 0 body_a29) := lp_nil (loop_all 1 (by kernel_rfl) fun i hi => match i, hi with
 | 0, _ => by
  have h : (loops 0 body_a29).getD 0 (0, .skip) = (0, lc_a29_0) := by kernel_rfl
  rw [h]; exact lpok_a29_0 fu
 | i + 1, hi => absurd hi (by omega)) (by kernel_rfl)
def S_a29 (fu : Nat) (xs : List (D RT den)) : Option (Out RT den) := match xs with | [.rs za0_0 .i64 na0_0 fa0_0, .int .i64 a1_0] => some ⟨Int, F_spec_l4Free fu (⟨za0_0, na0_0, fa0_0⟩ : (Sl Int)) a1_0, enc_i64, fun _ => true⟩ | _ => none
theorem hpc_a29 (fu : Nat) : HpcOk E Tryz.prog (pcf_a29 fu) := by
 intro f xs o h
 unfold pcf_a29 at h
 split at h
 ·exact good_a28 fu xs o h
 ·cases h
theorem goodv_a29 (fu : Nat) (table_0 : (Sl Int)) (name_1 y : Int) (hy : F_spec_l4Free fu table_0 name_1 = some y) : Vm.Good E Tryz.prog 84 [(.rs table_0.z .i64 table_0.n table_0.f), (ii name_1)] (enc_i64 y) :=
 fun_good E_ok (pc_good (pc := pc_a29 fu) (hpc_a29 fu) hpx0) (fn := Tryz.f84) (by kernel_rfl) (by kernel_rfl) (by kernel_rfl) (lpok_a29 fu) (fun d hd => out_i64_enc d _ hd) ((ev_a29 fu table_0 name_1).trans hy)
theorem good_a29 (fu : Nat) : GoodS E Tryz.prog 84 (S_a29 fu) := by
 intro xs o h y hy
 unfold S_a29 at h
 split at h
 ·rename_i za0_0 na0_0 fa0_0 a1_0
  cases h
  exact goodv_a29 fu (⟨za0_0, na0_0, fa0_0⟩ : (Sl Int)) a1_0 y hy
 ·cases h
def F_spec_l4Fill_B4 {ρ : Type} (fu : Nat) (list0_0 : (Sl S_impl_Share)) (table3_1 : Nat) (round4_2 i5_3 : Int) (on0_5 : Nat) (k0 : (Nat → Int) → Option ρ) (k1 : (Nat → Int) → Option ρ) (k6_4 : Int) (of0_6 : (Nat → Int)) (go : Int → (Nat → Int) → Option ρ) : Option ρ :=
 ((bif (decide (0 ≤ i5_3) && decide ((Int.toNat i5_3) < list0_0.n)) then some () else none : Option Unit).bind fun _ => (bif (decide (k6_4 < (list0_0.f (Int.toNat i5_3)).Weight)) then
  ((bif (decide (0 ≤ i5_3) && decide ((Int.toNat i5_3) < list0_0.n)) then some () else none : Option Unit).bind fun _ => ((F_spec_l4Free fu (⟨none, table3_1, of0_6⟩ : (Sl Int)) (list0_0.f (Int.toNat i5_3)).Name).bind fun y53 =>
  (bif (decide (y53 < 0)) then (k0 of0_6) else ((bif (decide (0 ≤ i5_3) && decide ((Int.toNat i5_3) < list0_0.n)) then some () else none : Option Unit).bind fun _ => ((bif (decide (0 ≤ y53) &&
  decide ((Int.toNat y53) < table3_1)) then some () else none : Option Unit).bind fun _ => (go (IntKind.wrap .i64 (k6_4 + 1)) (fun j => if j = (Int.toNat y53) then (list0_0.f (Int.toNat i5_3)).Name else
  of0_6 j))))))) else (k1 of0_6)))
def F_spec_l4Fill_B2 {ρ : Type} (fu : Nat) (list0_0 : (Sl S_impl_Share)) (table3_1 : Nat) (round4_2 : Int) (on0_4 : Nat) (k0 : (Nat → Int) → Option ρ) (k1 : (Nat → Int) → Option ρ) (i5_3 : Int) (of0_5 : (Nat → Int)) (go : Int → (Nat → Int) → Option ρ) : Option ρ :=
 (bif (decide (i5_3 < ((list0_0.n : Nat) : Int))) then (L (fun w4 go4 => F_spec_l4Fill_B4 fu list0_0 table3_1 round4_2 i5_3 on0_4 (fun z54 => (k0 z54)) (fun z55 => (go (IntKind.wrap .i64 (i5_3 + 1)) z55)) w4.1 w4.2 (fun q0 q1 =>
  go4 (q0, q1))) fu ((0, of0_5) : Int × (Nat → Int))) else (k1 of0_5))
def F_spec_l4Fill_B0 {ρ : Type} (fu : Nat) (list0_0 : (Sl S_impl_Share)) (table3_1 on0_3 : Nat) (k0 : (Nat → Int) → Option ρ) (k1 : (Nat → Int) → Option ρ) (round4_2 : Int) (of0_4 : (Nat → Int)) (go : Int → (Nat → Int) → Option ρ) : Option ρ :=
 (bif (decide (round4_2 < 31)) then (L (fun w2 go2 => F_spec_l4Fill_B2 fu list0_0 table3_1 round4_2 on0_3 (fun z56 => (k0 z56)) (fun z57 => (go (IntKind.wrap .i64 (round4_2 + 1)) z57)) w2.1 w2.2 (fun q0 q1 =>
  go2 (q0, q1))) fu ((0, of0_4) : Int × (Nat → Int))) else (k1 of0_4))
def F_spec_l4Fill (fu : Nat) (list_0 : (Sl S_impl_Share)) : Option ((Sl Int)) :=
 ((F_spec_l4Weights fu list_0).bind fun y52 => (bif (y52 == 0) then (some (⟨none, 31, (fun _ => 0)⟩ : (Sl Int))) else (L (fun w0 go0 => F_spec_l4Fill_B0 fu list_0 31 31 (fun z58 =>
  (some (⟨none, 31, z58⟩ : (Sl Int)))) (fun z59 => (some (⟨none, 31, z59⟩ : (Sl Int)))) w0.1 w0.2 (fun q0 q1 => go0 (q0, q1))) fu ((0, (fun _ => 0)) : Int × (Nat → Int)))))
def pcf_a30 (fu f : Nat) (xs : List (D RT den)) : Option (Out RT den) := match f with | 83 => S_a23 fu xs | 84 => S_a29 fu xs | _ => none
def pc_a30 (fu : Nat) : Pc RT den := ⟨pcf_a30 fu, fun _ => false, fun _ => false, pcd0, pcd0, pcd0, pcx0⟩
def msk_a30 (b : Nat) : List Nat := match b with | 0 => (1 :: 2 :: (rg 5 46 [])) | 100000 => (0 :: 1 :: (rg 4 47 [])) | 2 => (1 :: 2 :: (rg 6 45 [])) | 100002 => (1 :: (rg 5 46 [])) | 4 => (1 :: 2 :: (rg 7 44 [])) | 100004 => (1 :: (rg 6 45 [])) | _ => []
def ps_a30_4 : List (Pat RT) := (.flat (.rs .impl_Share) :: .flat .q :: .flat .q :: .flat (.os 0) :: .flat (.int .i64) :: .flat (.int .i64) :: .flat (.int .i64) :: (fq 44 []))
def os_a30_4 : List (OP RT) := [.row false .i64]
def conv_a30_4 (r : Raw den ps_a30_4 os_a30_4) : (Yb0) × (Int × (Nat → Int)) := ((r.1.1, r.1.2.2.2.1, r.1.2.2.2.2.1, (e5 r.1).1, r.2.1.1), ((e5 r.1).2.1, r.2.1.2))
def back_a30_4 (c : Yb0) (w : Int × (Nat → Int)) : St RT den := ⟨((.rs c.1.z .impl_Share c.1.n c.1.f) :: .q :: .q :: (.os 0 c.2.1) :: (ii c.2.2.1) :: (ii c.2.2.2.1) :: (ii w.1) :: (qs 44 [])), [(.row false .i64 c.2.2.2.2 w.2)]⟩
def Bk_a30_4 {ρ : Type} (fu : Nat) (c : Yb0) (k : Ex → St RT den → Option ρ) (w : Int × (Nat → Int)) (go : (Int × (Nat → Int)) → Option ρ) : Option ρ := F_spec_l4Fill_B4 fu c.1 c.2.1 c.2.2.1 c.2.2.2.1 c.2.2.2.2 (fun a0 => k .ret ⟨((.rs c.1.z .impl_Share c.1.n c.1.f) :: .q :: (.os 0 c.2.1) :: (.os 0 c.2.1) :: (ii c.2.2.1) :: (ii c.2.2.2.1) :: (qs 45 [])), [(.row false .i64 c.2.2.2.2 a0)]⟩) (fun a0 => k (.exit 4) ⟨((.rs c.1.z .impl_Share c.1.n c.1.f) :: .q :: .q :: (.os 0 c.2.1) :: (ii c.2.2.1) :: (ii c.2.2.2.1) :: (qs 45 [])), [(.row false .i64 c.2.2.2.2 a0)]⟩) w.1 w.2 (fun q0 q1 => go (q0, q1))
def ps_a30_2 : List (Pat RT) := (.flat (.rs .impl_Share) :: .flat .q :: .flat .q :: .flat (.os 0) :: .flat (.int .i64) :: .flat (.int .i64) :: (fq 45 []))
def os_a30_2 : List (OP RT) := [.row false .i64]
def conv_a30_2 (r : Raw den ps_a30_2 os_a30_2) : ((Sl S_impl_Share) × Nat × Int × Nat) × (Int × (Nat → Int)) := ((r.1.1, r.1.2.2.2.1, r.1.2.2.2.2.1, r.2.1.1), ((e5 r.1).1, r.2.1.2))
def back_a30_2 (c : (Sl S_impl_Share) × Nat × Int × Nat) (w : Int × (Nat → Int)) : St RT den := ⟨((.rs c.1.z .impl_Share c.1.n c.1.f) :: .q :: .q :: (.os 0 c.2.1) :: (ii c.2.2.1) :: (ii w.1) :: (qs 45 [])), [(.row false .i64 c.2.2.2 w.2)]⟩
def Bk_a30_2 {ρ : Type} (fu : Nat) (c : (Sl S_impl_Share) × Nat × Int × Nat) (k : Ex → St RT den → Option ρ) (w : Int × (Nat → Int)) (go : (Int × (Nat → Int)) → Option ρ) : Option ρ := F_spec_l4Fill_B2 fu c.1 c.2.1 c.2.2.1 c.2.2.2 (fun a0 => k .ret ⟨((.rs c.1.z .impl_Share c.1.n c.1.f) :: .q :: (.os 0 c.2.1) :: (.os 0 c.2.1) :: (ii c.2.2.1) :: (qs 46 [])), [(.row false .i64 c.2.2.2 a0)]⟩) (fun a0 => k (.exit 2) ⟨((.rs c.1.z .impl_Share c.1.n c.1.f) :: .q :: .q :: (.os 0 c.2.1) :: (ii c.2.2.1) :: (qs 46 [])), [(.row false .i64 c.2.2.2 a0)]⟩) w.1 w.2 (fun q0 q1 => go (q0, q1))
def ps_a30_0 : List (Pat RT) := (.flat (.rs .impl_Share) :: .flat .q :: .flat .q :: .flat (.os 0) :: .flat (.int .i64) :: (fq 46 []))
def os_a30_0 : List (OP RT) := [.row false .i64]
def conv_a30_0 (r : Raw den ps_a30_0 os_a30_0) : ((Sl S_impl_Share) × Nat × Nat) × (Int × (Nat → Int)) := ((r.1.1, r.1.2.2.2.1, r.2.1.1), (r.1.2.2.2.2.1, r.2.1.2))
def back_a30_0 (c : (Sl S_impl_Share) × Nat × Nat) (w : Int × (Nat → Int)) : St RT den := ⟨((.rs c.1.z .impl_Share c.1.n c.1.f) :: .q :: .q :: (.os 0 c.2.1) :: (ii w.1) :: (qs 46 [])), [(.row false .i64 c.2.2 w.2)]⟩
def Bk_a30_0 {ρ : Type} (fu : Nat) (c : (Sl S_impl_Share) × Nat × Nat) (k : Ex → St RT den → Option ρ) (w : Int × (Nat → Int)) (go : (Int × (Nat → Int)) → Option ρ) : Option ρ := F_spec_l4Fill_B0 fu c.1 c.2.1 c.2.2 (fun a0 => k .ret ⟨(.q :: .q :: (.os 0 c.2.1) :: (.os 0 c.2.1) :: (qs 47 [])), [(.row false .i64 c.2.2 a0)]⟩) (fun a0 => k (.exit 0) ⟨(.q :: .q :: .q :: (.os 0 c.2.1) :: (qs 47 [])), [(.row false .i64 c.2.2 a0)]⟩) w.1 w.2 (fun q0 q1 => go (q0, q1))
def lp_a30 (fu : Nat) : Lp RT den ((Sl Int)) := ⟨fun b s k => match b with | 0 => handle ps_a30_0 os_a30_0 conv_a30_0 (Bk_a30_0 fu) fu s k | 2 => handle ps_a30_2 os_a30_2 conv_a30_2 (Bk_a30_2 fu) fu s k | 4 => handle ps_a30_4 os_a30_4 conv_a30_4 (Bk_a30_4 fu) fu s k | _ => none, inl0⟩
theorem ev_a30 (fu : Nat) (list_0 : (Sl S_impl_Share)) : evFun E (pc_a30 fu) msk_a30 (lp_a30 fu) out_sl_i64 58 [(.rs list_0.z .impl_Share list_0.n list_0.f)] = F_spec_l4Fill fu list_0 := by kernel_rfl
noncomputable def body_a30 : Code := Tryz.f58.body.getD .skip
noncomputable def lc_a30_0 : Code := ((loops 0 body_a30).getD 0 (0, .skip)).2
theorem round_a30_0 (fu : Nat) : RoundOk E (pc_a30 fu) msk_a30 (lp_a30 fu) 0 lc_a30_0 back_a30_0 0 100000 1 (Bk_a30_0 fu) := fun it k c w => by kernel_rfl
theorem lpok_a30_0 (fu : Nat) : LpAt E (pc_a30 fu) msk_a30 (lp_a30 fu) 0 0 100000 0 lc_a30_0 :=
 handle_ok (ps := ps_a30_0) (os := os_a30_0) (conv := conv_a30_0) (B := Bk_a30_0 fu) (fu := fu) back_a30_0 (fun raw => by kernel_rfl) 1 (fun c w => by kernel_rfl) (round_a30_0 fu)
noncomputable def lc_a30_2 : Code := ((loops 0 body_a30).getD 1 (0, .skip)).2
theorem round_a30_2 (fu : Nat) : RoundOk E (pc_a30 fu) msk_a30 (lp_a30 fu) 2 lc_a30_2 back_a30_2 2 100002 1 (Bk_a30_2 fu) := fun it k c w => by kernel_rfl
theorem lpok_a30_2 (fu : Nat) : LpAt E (pc_a30 fu) msk_a30 (lp_a30 fu) 2 2 100002 2 lc_a30_2 :=
 handle_ok (ps := ps_a30_2) (os := os_a30_2) (conv := conv_a30_2) (B := Bk_a30_2 fu) (fu := fu) back_a30_2 (fun raw => by kernel_rfl) 1 (fun c w => by kernel_rfl) (round_a30_2 fu)
noncomputable def lc_a30_4 : Code := ((loops 0 body_a30).getD 2 (0, .skip)).2
theorem round_a30_4 (fu : Nat) : RoundOk E (pc_a30 fu) msk_a30 (lp_a30 fu) 4 lc_a30_4 back_a30_4 4 100004 1 (Bk_a30_4 fu) := fun it k c w => by kernel_rfl
theorem lpok_a30_4 (fu : Nat) : LpAt E (pc_a30 fu) msk_a30 (lp_a30 fu) 4 4 100004 4 lc_a30_4 :=
 handle_ok (ps := ps_a30_4) (os := os_a30_4) (conv := conv_a30_4) (B := Bk_a30_4 fu) (fu := fu) back_a30_4 (fun raw => by kernel_rfl) 1 (fun c w => by kernel_rfl) (round_a30_4 fu)
theorem lpok_a30 (fu : Nat) : LpOk E (pc_a30 fu) 0 msk_a30 (lp_a30 fu) (loops 0 body_a30) := lp_nil (loop_all 3 (by kernel_rfl) fun i hi => match i, hi with
 | 0, _ => by
  have h : (loops 0 body_a30).getD 0 (0, .skip) = (0, lc_a30_0) := by kernel_rfl
  rw [h]; exact lpok_a30_0 fu
 | 1, _ => by
  have h : (loops 0 body_a30).getD 1 (0, .skip) = (2, lc_a30_2) := by kernel_rfl
  rw [h]; exact lpok_a30_2 fu
 | 2, _ => by
  have h : (loops 0 body_a30).getD 2 (0, .skip) = (4, lc_a30_4) := by kernel_rfl
  rw [h]; exact lpok_a30_4 fu
 | i + 3, hi => absurd hi (by omega)) (by kernel_rfl)
def S_a30 (fu : Nat) (xs : List (D RT den)) : Option (Out RT den) := match xs with | [.rs za0_0 .impl_Share na0_0 fa0_0] => some ⟨(Sl Int), F_spec_l4Fill fu (⟨za0_0, na0_0, fa0_0⟩ : (Sl S_impl_Share)), enc_sl_i64, fun _ => true⟩ | _ => none
theorem hpc_a30 (fu : Nat) : HpcOk E Tryz.prog (pcf_a30 fu) := by
 intro f xs o h
 unfold pcf_a30 at h
 split at h
 ·exact good_a23 fu xs o h
 ·exact good_a29 fu xs o h
 ·cases h
theorem goodv_a30 (fu : Nat) (list_0 : (Sl S_impl_Share)) (y : (Sl Int)) (hy : F_spec_l4Fill fu list_0 = some y) : Vm.Good E Tryz.prog 58 [(.rs list_0.z .impl_Share list_0.n list_0.f)] (enc_sl_i64 y) :=
 fun_good E_ok (pc_good (pc := pc_a30 fu) (hpc_a30 fu) hpx0) (fn := Tryz.f58) (by kernel_rfl) (by kernel_rfl) (by kernel_rfl) (lpok_a30 fu) (fun d hd => out_sl_i64_enc d _ hd) ((ev_a30 fu list_0).trans hy)
theorem good_a30 (fu : Nat) : GoodS E Tryz.prog 58 (S_a30 fu) := by
 intro xs o h y hy
 unfold S_a30 at h
 split at h
 ·rename_i za0_0 na0_0 fa0_0
  cases h
  exact goodv_a30 fu (⟨za0_0, na0_0, fa0_0⟩ : (Sl S_impl_Share)) y hy
 ·cases h
def F_spec_l14Tables_B0 {ρ : Type} (fu : Nat) (c0_0 : Int) (c0_1 : (Sl S_impl_Backend)) (c0_2 : (Sl S_impl_Vip)) (k0 : Nat → Nat → (Nat → (Sl Int)) → Option ρ) (out3_3 : Nat) (i4_4 : Int) (on0_5 : Nat) (of0_6 : (Nat → (Sl Int))) (go : Nat → Int → Nat → (Nat → (Sl Int)) → Option ρ) : Option ρ :=
 (bif (decide (i4_4 < ((c0_2.n : Nat) : Int))) then ((F_spec_l5Shares fu (⟨c0_0, c0_1, c0_2⟩ : S_impl_Config) i4_4).bind fun y44 => ((F_spec_l4Fill fu y44).bind fun y51 => (bif (decide ((out3_3 + 1) ≤ 9223372036854775807) &&
  decide ((out3_3 + 1) * 24 ≤ 140737488355328)) then (go (out3_3 + 1) (IntKind.wrap .i64 (i4_4 + 1)) (out3_3 + 1) (fun i => if i < out3_3 then (of0_6 i) else ((fun i => ([y51] : List ((Sl Int))).getD i (dflt .sl_i64)) (i - out3_3)))) else
  none))) else (k0 out3_3 on0_5 of0_6))
def F_spec_l14Tables (fu : Nat) (c_0 : S_impl_Config) : Option ((Sl (Sl Int))) :=
 (L (fun w0 go0 => F_spec_l14Tables_B0 fu c_0.Version c_0.Backends c_0.Vips (fun z70 z71 z72 => (some (⟨none, z70, z72⟩ : (Sl (Sl Int))))) w0.1 w0.2.1 w0.2.2.1 w0.2.2.2 (fun q0 q1 q2 q3 =>
  go0 (q0, q1, q2, q3))) fu ((0, 0, 0, (fun _ => dflt .sl_i64)) : Nat × Int × Nat × (Nat → (Sl Int))))
def pcf_a31 (fu f : Nat) (xs : List (D RT den)) : Option (Out RT den) := match f with | 58 => S_a30 fu xs | 59 => S_a22 fu xs | _ => none
def pc_a31 (fu : Nat) : Pc RT den := ⟨pcf_a31 fu, fun _ => false, fun _ => false, pcd0, pcd0, pcd0, pcx0⟩
def msk_a31 (b : Nat) : List Nat := match b with | 0 => (1 :: 2 :: (rg 5 18 [])) | 100000 => (0 :: 1 :: (rg 4 19 [])) | 300000 => [3] | _ => []
def ps_a31_0 : List (Pat RT) := (.rptr [(.int .i64), (.rs .impl_Backend), (.rs .impl_Vip)] :: .flat .q :: .flat .q :: .flat (.os 0) :: .flat (.int .i64) :: (fq 18 []))
def os_a31_0 : List (OP RT) := [.row false .sl_i64]
def conv_a31_0 (r : Raw den ps_a31_0 os_a31_0) : (Int × (Sl S_impl_Backend) × (Sl S_impl_Vip)) × (Nat × Int × Nat × (Nat → (Sl Int))) := ((r.1.1.1, r.1.1.2.1, r.1.1.2.2.1), (r.1.2.2.2.1, r.1.2.2.2.2.1, r.2.1.1, r.2.1.2))
def back_a31_0 (c : Int × (Sl S_impl_Backend) × (Sl S_impl_Vip)) (w : Nat × Int × Nat × (Nat → (Sl Int))) : St RT den := ⟨((.rptr [(ii c.1), (.rs c.2.1.z .impl_Backend c.2.1.n c.2.1.f), (.rs c.2.2.z .impl_Vip c.2.2.n c.2.2.f)]) :: .q :: .q :: (.os 0 w.1) :: (ii w.2.1) :: (qs 18 [])), [(.row false .sl_i64 w.2.2.1 w.2.2.2)]⟩
def Bk_a31_0 {ρ : Type} (fu : Nat) (c : Int × (Sl S_impl_Backend) × (Sl S_impl_Vip)) (k : Ex → St RT den → Option ρ) (w : Nat × Int × Nat × (Nat → (Sl Int))) (go : (Nat × Int × Nat × (Nat → (Sl Int))) → Option ρ) : Option ρ := F_spec_l14Tables_B0 fu c.1 c.2.1 c.2.2 (fun a0 a1 a2 => k (.exit 0) ⟨(.q :: .q :: .q :: (.os 0 a0) :: (qs 19 [])), [(.row false .sl_i64 a1 a2)]⟩) w.1 w.2.1 w.2.2.1 w.2.2.2 (fun q0 q1 q2 q3 => go (q0, q1, q2, q3))
def lp_a31 (fu : Nat) : Lp RT den ((Sl (Sl Int))) := ⟨fun b s k => match b with | 0 => handle ps_a31_0 os_a31_0 conv_a31_0 (Bk_a31_0 fu) fu s k | _ => none, inl0⟩
theorem ev_a31 (fu : Nat) (c_0 : S_impl_Config) : evFun E (pc_a31 fu) msk_a31 (lp_a31 fu) out_sl_sl_i64 29 [(.rptr [(ii c_0.Version), (.rs c_0.Backends.z .impl_Backend c_0.Backends.n c_0.Backends.f), (.rs c_0.Vips.z .impl_Vip c_0.Vips.n c_0.Vips.f)])] = F_spec_l14Tables fu c_0 := by kernel_rfl
noncomputable def body_a31 : Code := Tryz.f29.body.getD .skip
noncomputable def lc_a31_0 : Code := ((loops 0 body_a31).getD 0 (0, .skip)).2
theorem round_a31_0 (fu : Nat) : RoundOk E (pc_a31 fu) msk_a31 (lp_a31 fu) 0 lc_a31_0 back_a31_0 0 100000 1 (Bk_a31_0 fu) := fun it k c w => by kernel_rfl
theorem lpok_a31_0 (fu : Nat) : LpAt E (pc_a31 fu) msk_a31 (lp_a31 fu) 0 0 100000 0 lc_a31_0 :=
 handle_ok (ps := ps_a31_0) (os := os_a31_0) (conv := conv_a31_0) (B := Bk_a31_0 fu) (fu := fu) back_a31_0 (fun raw => by kernel_rfl) 1 (fun c w => by kernel_rfl) (round_a31_0 fu)
theorem lpok_a31 (fu : Nat) : LpOk E (pc_a31 fu) 0 msk_a31 (lp_a31 fu) (loops 0 body_a31) := lp_nil (loop_all 1 (by kernel_rfl) fun i hi => match i, hi with
 | 0, _ => by
  have h : (loops 0 body_a31).getD 0 (0, .skip) = (0, lc_a31_0) := by kernel_rfl
  rw [h]; exact lpok_a31_0 fu
 | i + 1, hi => absurd hi (by omega)) (by kernel_rfl)
def S_a31 (fu : Nat) (xs : List (D RT den)) : Option (Out RT den) := match xs with | [.rptr (.int .i64 a0_1 :: .rs za0_2 .impl_Backend na0_2 fa0_2 :: .rs za0_3 .impl_Vip na0_3 fa0_3 :: ra0)] => some ⟨(Sl (Sl Int)), F_spec_l14Tables fu (⟨a0_1, (⟨za0_2, na0_2, fa0_2⟩ : (Sl S_impl_Backend)), (⟨za0_3, na0_3, fa0_3⟩ : (Sl S_impl_Vip))⟩ : S_impl_Config), enc_sl_sl_i64, fun _ => true⟩ | _ => none
theorem hpc_a31 (fu : Nat) : HpcOk E Tryz.prog (pcf_a31 fu) := by
 intro f xs o h
 unfold pcf_a31 at h
 split at h
 ·exact good_a30 fu xs o h
 ·exact good_a22 fu xs o h
 ·cases h
theorem goodv_a31 (fu : Nat) (c_0 : S_impl_Config) (y : (Sl (Sl Int))) (hy : F_spec_l14Tables fu c_0 = some y) : Vm.Good E Tryz.prog 29 [(.rptr [(ii c_0.Version), (.rs c_0.Backends.z .impl_Backend c_0.Backends.n c_0.Backends.f), (.rs c_0.Vips.z .impl_Vip c_0.Vips.n c_0.Vips.f)])] (enc_sl_sl_i64 y) :=
 fun_good E_ok (pc_good (pc := pc_a31 fu) (hpc_a31 fu) hpx0) (fn := Tryz.f29) (by kernel_rfl) (by kernel_rfl) (by kernel_rfl) (lpok_a31 fu) (fun d hd => out_sl_sl_i64_enc d _ hd) ((ev_a31 fu c_0).trans hy)
theorem good_a31 (fu : Nat) : GoodS E Tryz.prog 29 (S_a31 fu) := by
 intro xs o h y hy
 unfold S_a31 at h
 split at h
 ·rename_i a0_1 za0_2 na0_2 fa0_2 za0_3 na0_3 fa0_3 ra0
  cases h
  exact (goodv_a31 fu (⟨a0_1, (⟨za0_2, na0_2, fa0_2⟩ : (Sl S_impl_Backend)), (⟨za0_3, na0_3, fa0_3⟩ : (Sl S_impl_Vip))⟩ : S_impl_Config) y hy).sub ⟨Sub.of_eq ra0 rfl, trivial⟩
 ·cases h
def F_spec_l1In (fu : Nat) (v_0 low_1 high_2 : Int) : Option (Bool) :=
 (((bif (decide (v_0 ≥ low_1)) then (some (decide (v_0 ≤ high_2))) else (some false)) : Option Bool).bind fun m76 => (some m76))
def pc_a32 (fu : Nat) : Pc RT den := ⟨pcf0, fun _ => false, fun _ => false, pcd0, pcd0, pcd0, pcx0⟩
def msk_a32 (b : Nat) : List Nat := match b with | 200001 => [6] | _ => []
def lp_a32 (fu : Nat) : Lp RT den (Bool) := ⟨fun b s k => none, inl0⟩
theorem ev_a32 (fu : Nat) (v_0 low_1 high_2 : Int) : evFun E (pc_a32 fu) msk_a32 (lp_a32 fu) out_bo 55 [(ii v_0), (ii low_1), (ii high_2)] = F_spec_l1In fu v_0 low_1 high_2 := by kernel_rfl
noncomputable def body_a32 : Code := Tryz.f55.body.getD .skip
theorem lpok_a32 (fu : Nat) : LpOk E (pc_a32 fu) 0 msk_a32 (lp_a32 fu) (loops 0 body_a32) := lp_nil (loop_nil (by kernel_rfl)) (by kernel_rfl)
def S_a32 (fu : Nat) (xs : List (D RT den)) : Option (Out RT den) := match xs with | [.int .i64 a0_0, .int .i64 a1_0, .int .i64 a2_0] => some ⟨Bool, F_spec_l1In fu a0_0 a1_0 a2_0, enc_bo, fun _ => true⟩ | _ => none
theorem goodv_a32 (fu : Nat) (v_0 low_1 high_2 : Int) (y : Bool) (hy : F_spec_l1In fu v_0 low_1 high_2 = some y) : Vm.Good E Tryz.prog 55 [(ii v_0), (ii low_1), (ii high_2)] (enc_bo y) :=
 fun_good E_ok (pc_good (pc := pc_a32 fu) hpc0 hpx0) (fn := Tryz.f55) (by kernel_rfl) (by kernel_rfl) (by kernel_rfl) (lpok_a32 fu) (fun d hd => out_bo_enc d _ hd) ((ev_a32 fu v_0 low_1 high_2).trans hy)
theorem good_a32 (fu : Nat) : GoodS E Tryz.prog 55 (S_a32 fu) := by
 intro xs o h y hy
 unfold S_a32 at h
 split at h
 ·rename_i a0_0 a1_0 a2_0
  cases h
  exact goodv_a32 fu a0_0 a1_0 a2_0 y hy
 ·cases h
def F_spec_l2Address (fu : Nat) (a_0 : Int) : Option (Bool) :=
 ((F_spec_l1In fu a_0 0 4294967295).bind fun y75 => (some y75))
def pcf_a33 (fu f : Nat) (xs : List (D RT den)) : Option (Out RT den) := match f with | 55 => S_a32 fu xs | _ => none
def pc_a33 (fu : Nat) : Pc RT den := ⟨pcf_a33 fu, fun _ => false, fun _ => false, pcd0, pcd0, pcd0, pcx0⟩
def msk_a33 (b : Nat) : List Nat := []
def lp_a33 (fu : Nat) : Lp RT den (Bool) := ⟨fun b s k => none, inl0⟩
theorem ev_a33 (fu : Nat) (a_0 : Int) : evFun E (pc_a33 fu) msk_a33 (lp_a33 fu) out_bo 26 [(ii a_0)] = F_spec_l2Address fu a_0 := by kernel_rfl
noncomputable def body_a33 : Code := Tryz.f26.body.getD .skip
theorem lpok_a33 (fu : Nat) : LpOk E (pc_a33 fu) 0 msk_a33 (lp_a33 fu) (loops 0 body_a33) := lp_nil (loop_nil (by kernel_rfl)) (by kernel_rfl)
def S_a33 (fu : Nat) (xs : List (D RT den)) : Option (Out RT den) := match xs with | [.int .i64 a0_0] => some ⟨Bool, F_spec_l2Address fu a0_0, enc_bo, fun _ => true⟩ | _ => none
theorem hpc_a33 (fu : Nat) : HpcOk E Tryz.prog (pcf_a33 fu) := by
 intro f xs o h
 unfold pcf_a33 at h
 split at h
 ·exact good_a32 fu xs o h
 ·cases h
theorem goodv_a33 (fu : Nat) (a_0 : Int) (y : Bool) (hy : F_spec_l2Address fu a_0 = some y) : Vm.Good E Tryz.prog 26 [(ii a_0)] (enc_bo y) :=
 fun_good E_ok (pc_good (pc := pc_a33 fu) (hpc_a33 fu) hpx0) (fn := Tryz.f26) (by kernel_rfl) (by kernel_rfl) (by kernel_rfl) (lpok_a33 fu) (fun d hd => out_bo_enc d _ hd) ((ev_a33 fu a_0).trans hy)
theorem good_a33 (fu : Nat) : GoodS E Tryz.prog 26 (S_a33 fu) := by
 intro xs o h y hy
 unfold S_a33 at h
 split at h
 ·rename_i a0_0
  cases h
  exact goodv_a33 fu a0_0 y hy
 ·cases h
def F_spec_l14Now (fu : Nat) (n_0 : Int) : Option (Bool) :=
 ((F_spec_l1In fu n_0 0 1000000000).bind fun y77 => (some y77))
def pcf_a34 (fu f : Nat) (xs : List (D RT den)) : Option (Out RT den) := match f with | 55 => S_a32 fu xs | _ => none
def pc_a34 (fu : Nat) : Pc RT den := ⟨pcf_a34 fu, fun _ => false, fun _ => false, pcd0, pcd0, pcd0, pcx0⟩
def msk_a34 (b : Nat) : List Nat := []
def lp_a34 (fu : Nat) : Lp RT den (Bool) := ⟨fun b s k => none, inl0⟩
theorem ev_a34 (fu : Nat) (n_0 : Int) : evFun E (pc_a34 fu) msk_a34 (lp_a34 fu) out_bo 27 [(ii n_0)] = F_spec_l14Now fu n_0 := by kernel_rfl
noncomputable def body_a34 : Code := Tryz.f27.body.getD .skip
theorem lpok_a34 (fu : Nat) : LpOk E (pc_a34 fu) 0 msk_a34 (lp_a34 fu) (loops 0 body_a34) := lp_nil (loop_nil (by kernel_rfl)) (by kernel_rfl)
def S_a34 (fu : Nat) (xs : List (D RT den)) : Option (Out RT den) := match xs with | [.int .i64 a0_0] => some ⟨Bool, F_spec_l14Now fu a0_0, enc_bo, fun _ => true⟩ | _ => none
theorem hpc_a34 (fu : Nat) : HpcOk E Tryz.prog (pcf_a34 fu) := by
 intro f xs o h
 unfold pcf_a34 at h
 split at h
 ·exact good_a32 fu xs o h
 ·cases h
theorem goodv_a34 (fu : Nat) (n_0 : Int) (y : Bool) (hy : F_spec_l14Now fu n_0 = some y) : Vm.Good E Tryz.prog 27 [(ii n_0)] (enc_bo y) :=
 fun_good E_ok (pc_good (pc := pc_a34 fu) (hpc_a34 fu) hpx0) (fn := Tryz.f27) (by kernel_rfl) (by kernel_rfl) (by kernel_rfl) (lpok_a34 fu) (fun d hd => out_bo_enc d _ hd) ((ev_a34 fu n_0).trans hy)
theorem good_a34 (fu : Nat) : GoodS E Tryz.prog 27 (S_a34 fu) := by
 intro xs o h y hy
 unfold S_a34 at h
 split at h
 ·rename_i a0_0
  cases h
  exact goodv_a34 fu a0_0 y hy
 ·cases h
def F_spec_l5Version (fu : Nat) (v_0 : Int) : Option (Bool) :=
 ((F_spec_l1In fu v_0 0 1000000).bind fun y84 => (some y84))
def pcf_a35 (fu f : Nat) (xs : List (D RT den)) : Option (Out RT den) := match f with | 55 => S_a32 fu xs | _ => none
def pc_a35 (fu : Nat) : Pc RT den := ⟨pcf_a35 fu, fun _ => false, fun _ => false, pcd0, pcd0, pcd0, pcx0⟩
def msk_a35 (b : Nat) : List Nat := []
def lp_a35 (fu : Nat) : Lp RT den (Bool) := ⟨fun b s k => none, inl0⟩
theorem ev_a35 (fu : Nat) (v_0 : Int) : evFun E (pc_a35 fu) msk_a35 (lp_a35 fu) out_bo 80 [(ii v_0)] = F_spec_l5Version fu v_0 := by kernel_rfl
noncomputable def body_a35 : Code := Tryz.f80.body.getD .skip
theorem lpok_a35 (fu : Nat) : LpOk E (pc_a35 fu) 0 msk_a35 (lp_a35 fu) (loops 0 body_a35) := lp_nil (loop_nil (by kernel_rfl)) (by kernel_rfl)
def S_a35 (fu : Nat) (xs : List (D RT den)) : Option (Out RT den) := match xs with | [.int .i64 a0_0] => some ⟨Bool, F_spec_l5Version fu a0_0, enc_bo, fun _ => true⟩ | _ => none
theorem hpc_a35 (fu : Nat) : HpcOk E Tryz.prog (pcf_a35 fu) := by
 intro f xs o h
 unfold pcf_a35 at h
 split at h
 ·exact good_a32 fu xs o h
 ·cases h
theorem goodv_a35 (fu : Nat) (v_0 : Int) (y : Bool) (hy : F_spec_l5Version fu v_0 = some y) : Vm.Good E Tryz.prog 80 [(ii v_0)] (enc_bo y) :=
 fun_good E_ok (pc_good (pc := pc_a35 fu) (hpc_a35 fu) hpx0) (fn := Tryz.f80) (by kernel_rfl) (by kernel_rfl) (by kernel_rfl) (lpok_a35 fu) (fun d hd => out_bo_enc d _ hd) ((ev_a35 fu v_0).trans hy)
theorem good_a35 (fu : Nat) : GoodS E Tryz.prog 80 (S_a35 fu) := by
 intro xs o h y hy
 unfold S_a35 at h
 split at h
 ·rename_i a0_0
  cases h
  exact goodv_a35 fu a0_0 y hy
 ·cases h
def F_spec_l3Name (fu : Nat) (name_0 : Int) : Option (Bool) :=
 ((F_spec_l1In fu name_0 1 999).bind fun y90 => (some y90))
def pcf_a36 (fu f : Nat) (xs : List (D RT den)) : Option (Out RT den) := match f with | 55 => S_a32 fu xs | _ => none
def pc_a36 (fu : Nat) : Pc RT den := ⟨pcf_a36 fu, fun _ => false, fun _ => false, pcd0, pcd0, pcd0, pcx0⟩
def msk_a36 (b : Nat) : List Nat := []
def lp_a36 (fu : Nat) : Lp RT den (Bool) := ⟨fun b s k => none, inl0⟩
theorem ev_a36 (fu : Nat) (name_0 : Int) : evFun E (pc_a36 fu) msk_a36 (lp_a36 fu) out_bo 107 [(ii name_0)] = F_spec_l3Name fu name_0 := by kernel_rfl
noncomputable def body_a36 : Code := Tryz.f107.body.getD .skip
theorem lpok_a36 (fu : Nat) : LpOk E (pc_a36 fu) 0 msk_a36 (lp_a36 fu) (loops 0 body_a36) := lp_nil (loop_nil (by kernel_rfl)) (by kernel_rfl)
def S_a36 (fu : Nat) (xs : List (D RT den)) : Option (Out RT den) := match xs with | [.int .i64 a0_0] => some ⟨Bool, F_spec_l3Name fu a0_0, enc_bo, fun _ => true⟩ | _ => none
theorem hpc_a36 (fu : Nat) : HpcOk E Tryz.prog (pcf_a36 fu) := by
 intro f xs o h
 unfold pcf_a36 at h
 split at h
 ·exact good_a32 fu xs o h
 ·cases h
theorem goodv_a36 (fu : Nat) (name_0 : Int) (y : Bool) (hy : F_spec_l3Name fu name_0 = some y) : Vm.Good E Tryz.prog 107 [(ii name_0)] (enc_bo y) :=
 fun_good E_ok (pc_good (pc := pc_a36 fu) (hpc_a36 fu) hpx0) (fn := Tryz.f107) (by kernel_rfl) (by kernel_rfl) (by kernel_rfl) (lpok_a36 fu) (fun d hd => out_bo_enc d _ hd) ((ev_a36 fu name_0).trans hy)
theorem good_a36 (fu : Nat) : GoodS E Tryz.prog 107 (S_a36 fu) := by
 intro xs o h y hy
 unfold S_a36 at h
 split at h
 ·rename_i a0_0
  cases h
  exact goodv_a36 fu a0_0 y hy
 ·cases h
def F_spec_l5Backend (fu : Nat) (b_0 : S_impl_Backend) : Option (Bool) :=
 ((((F_spec_l3Name fu b_0.Name).bind fun y85 => (bif y85 then ((F_spec_l2Address fu b_0.Address).bind fun y86 => (bif y86 then ((F_spec_l1In fu b_0.Weight 0 9).bind fun y87 => (bif y87 then
  ((F_spec_l1In fu b_0.Stage 1 3).bind fun y88 => (some y88)) else (some false))) else (some false))) else (some false))) : Option Bool).bind fun m89 => (some m89))
def pcf_a37 (fu f : Nat) (xs : List (D RT den)) : Option (Out RT den) := match f with | 26 => S_a33 fu xs | 55 => S_a32 fu xs | 107 => S_a36 fu xs | _ => none
def pc_a37 (fu : Nat) : Pc RT den := ⟨pcf_a37 fu, fun _ => false, fun _ => false, pcd0, pcd0, pcd0, pcx0⟩
def msk_a37 (b : Nat) : List Nat := match b with | 200001 => [2] | _ => []
def lp_a37 (fu : Nat) : Lp RT den (Bool) := ⟨fun b s k => none, inl0⟩
theorem ev_a37 (fu : Nat) (b_0 : S_impl_Backend) : evFun E (pc_a37 fu) msk_a37 (lp_a37 fu) out_bo 81 [(.agg [(ii b_0.Name), (ii b_0.Address), (ii b_0.Weight), (ii b_0.Stage), (.bool b_0.Up)])] = F_spec_l5Backend fu b_0 := by kernel_rfl
noncomputable def body_a37 : Code := Tryz.f81.body.getD .skip
theorem lpok_a37 (fu : Nat) : LpOk E (pc_a37 fu) 0 msk_a37 (lp_a37 fu) (loops 0 body_a37) := lp_nil (loop_nil (by kernel_rfl)) (by kernel_rfl)
def S_a37 (fu : Nat) (xs : List (D RT den)) : Option (Out RT den) := match xs with | [.agg [.int .i64 a0_1, .int .i64 a0_2, .int .i64 a0_3, .int .i64 a0_4, .bool a0_5]] => some ⟨Bool, F_spec_l5Backend fu (⟨a0_1, a0_2, a0_3, a0_4, a0_5⟩ : S_impl_Backend), enc_bo, fun _ => true⟩ | _ => none
theorem hpc_a37 (fu : Nat) : HpcOk E Tryz.prog (pcf_a37 fu) := by
 intro f xs o h
 unfold pcf_a37 at h
 split at h
 ·exact good_a33 fu xs o h
 ·exact good_a32 fu xs o h
 ·exact good_a36 fu xs o h
 ·cases h
theorem goodv_a37 (fu : Nat) (b_0 : S_impl_Backend) (y : Bool) (hy : F_spec_l5Backend fu b_0 = some y) : Vm.Good E Tryz.prog 81 [(.agg [(ii b_0.Name), (ii b_0.Address), (ii b_0.Weight), (ii b_0.Stage), (.bool b_0.Up)])] (enc_bo y) :=
 fun_good E_ok (pc_good (pc := pc_a37 fu) (hpc_a37 fu) hpx0) (fn := Tryz.f81) (by kernel_rfl) (by kernel_rfl) (by kernel_rfl) (lpok_a37 fu) (fun d hd => out_bo_enc d _ hd) ((ev_a37 fu b_0).trans hy)
theorem good_a37 (fu : Nat) : GoodS E Tryz.prog 81 (S_a37 fu) := by
 intro xs o h y hy
 unfold S_a37 at h
 split at h
 ·rename_i a0_1 a0_2 a0_3 a0_4 a0_5
  cases h
  exact goodv_a37 fu (⟨a0_1, a0_2, a0_3, a0_4, a0_5⟩ : S_impl_Backend) y hy
 ·cases h
def F_spec_l2Port (fu : Nat) (p_0 : Int) : Option (Bool) :=
 ((F_spec_l1In fu p_0 0 65535).bind fun y98 => (some y98))
def pcf_a38 (fu f : Nat) (xs : List (D RT den)) : Option (Out RT den) := match f with | 55 => S_a32 fu xs | _ => none
def pc_a38 (fu : Nat) : Pc RT den := ⟨pcf_a38 fu, fun _ => false, fun _ => false, pcd0, pcd0, pcd0, pcx0⟩
def msk_a38 (b : Nat) : List Nat := []
def lp_a38 (fu : Nat) : Lp RT den (Bool) := ⟨fun b s k => none, inl0⟩
theorem ev_a38 (fu : Nat) (p_0 : Int) : evFun E (pc_a38 fu) msk_a38 (lp_a38 fu) out_bo 86 [(ii p_0)] = F_spec_l2Port fu p_0 := by kernel_rfl
noncomputable def body_a38 : Code := Tryz.f86.body.getD .skip
theorem lpok_a38 (fu : Nat) : LpOk E (pc_a38 fu) 0 msk_a38 (lp_a38 fu) (loops 0 body_a38) := lp_nil (loop_nil (by kernel_rfl)) (by kernel_rfl)
def S_a38 (fu : Nat) (xs : List (D RT den)) : Option (Out RT den) := match xs with | [.int .i64 a0_0] => some ⟨Bool, F_spec_l2Port fu a0_0, enc_bo, fun _ => true⟩ | _ => none
theorem hpc_a38 (fu : Nat) : HpcOk E Tryz.prog (pcf_a38 fu) := by
 intro f xs o h
 unfold pcf_a38 at h
 split at h
 ·exact good_a32 fu xs o h
 ·cases h
theorem goodv_a38 (fu : Nat) (p_0 : Int) (y : Bool) (hy : F_spec_l2Port fu p_0 = some y) : Vm.Good E Tryz.prog 86 [(ii p_0)] (enc_bo y) :=
 fun_good E_ok (pc_good (pc := pc_a38 fu) (hpc_a38 fu) hpx0) (fn := Tryz.f86) (by kernel_rfl) (by kernel_rfl) (by kernel_rfl) (lpok_a38 fu) (fun d hd => out_bo_enc d _ hd) ((ev_a38 fu p_0).trans hy)
theorem good_a38 (fu : Nat) : GoodS E Tryz.prog 86 (S_a38 fu) := by
 intro xs o h y hy
 unfold S_a38 at h
 split at h
 ·rename_i a0_0
  cases h
  exact goodv_a38 fu a0_0 y hy
 ·cases h
def F_spec_l5Proto (fu : Nat) (p_0 : Int) : Option (Bool) :=
 (((bif (p_0 == 6) then (some true) else (some (p_0 == 17))) : Option Bool).bind fun m99 => (some m99))
def pc_a39 (fu : Nat) : Pc RT den := ⟨pcf0, fun _ => false, fun _ => false, pcd0, pcd0, pcd0, pcx0⟩
def msk_a39 (b : Nat) : List Nat := match b with | 200001 => [2] | _ => []
def lp_a39 (fu : Nat) : Lp RT den (Bool) := ⟨fun b s k => none, inl0⟩
theorem ev_a39 (fu : Nat) (p_0 : Int) : evFun E (pc_a39 fu) msk_a39 (lp_a39 fu) out_bo 108 [(ii p_0)] = F_spec_l5Proto fu p_0 := by kernel_rfl
noncomputable def body_a39 : Code := Tryz.f108.body.getD .skip
theorem lpok_a39 (fu : Nat) : LpOk E (pc_a39 fu) 0 msk_a39 (lp_a39 fu) (loops 0 body_a39) := lp_nil (loop_nil (by kernel_rfl)) (by kernel_rfl)
def S_a39 (fu : Nat) (xs : List (D RT den)) : Option (Out RT den) := match xs with | [.int .i64 a0_0] => some ⟨Bool, F_spec_l5Proto fu a0_0, enc_bo, fun _ => true⟩ | _ => none
theorem goodv_a39 (fu : Nat) (p_0 : Int) (y : Bool) (hy : F_spec_l5Proto fu p_0 = some y) : Vm.Good E Tryz.prog 108 [(ii p_0)] (enc_bo y) :=
 fun_good E_ok (pc_good (pc := pc_a39 fu) hpc0 hpx0) (fn := Tryz.f108) (by kernel_rfl) (by kernel_rfl) (by kernel_rfl) (lpok_a39 fu) (fun d hd => out_bo_enc d _ hd) ((ev_a39 fu p_0).trans hy)
theorem good_a39 (fu : Nat) : GoodS E Tryz.prog 108 (S_a39 fu) := by
 intro xs o h y hy
 unfold S_a39 at h
 split at h
 ·rename_i a0_0
  cases h
  exact goodv_a39 fu a0_0 y hy
 ·cases h
def F_spec_l5Behind (fu : Nat) (a_0 b_1 : S_impl_Vip) : Option (Bool) :=
 (bif (a_0.Address != b_1.Address) then (some (decide (a_0.Address < b_1.Address))) else (bif (a_0.Port != b_1.Port) then (some (decide (a_0.Port < b_1.Port))) else (some (decide (a_0.Proto < b_1.Proto)))))
def pc_b0 (fu : Nat) : Pc RT den := ⟨pcf0, fun _ => false, fun _ => false, pcd0, pcd0, pcd0, pcx0⟩
def msk_b0 (b : Nat) : List Nat := []
def lp_b0 (fu : Nat) : Lp RT den (Bool) := ⟨fun b s k => none, inl0⟩
theorem ev_b0 (fu : Nat) (a_0 b_1 : S_impl_Vip) : evFun E (pc_b0 fu) msk_b0 (lp_b0 fu) out_bo 109 [(.agg [(ii a_0.Address), (ii a_0.Port), (ii a_0.Proto), (.rs a_0.Names.z .i64 a_0.Names.n a_0.Names.f)]), (.agg [(ii b_1.Address), (ii b_1.Port), (ii b_1.Proto), (.rs b_1.Names.z .i64 b_1.Names.n b_1.Names.f)])] = F_spec_l5Behind fu a_0 b_1 := by kernel_rfl
noncomputable def body_b0 : Code := Tryz.f109.body.getD .skip
theorem lpok_b0 (fu : Nat) : LpOk E (pc_b0 fu) 0 msk_b0 (lp_b0 fu) (loops 0 body_b0) := lp_nil (loop_nil (by kernel_rfl)) (by kernel_rfl)
def S_b0 (fu : Nat) (xs : List (D RT den)) : Option (Out RT den) := match xs with | [.agg [.int .i64 a0_1, .int .i64 a0_2, .int .i64 a0_3, .rs za0_4 .i64 na0_4 fa0_4], .agg [.int .i64 a1_1, .int .i64 a1_2, .int .i64 a1_3, .rs za1_4 .i64 na1_4 fa1_4]] => some ⟨Bool, F_spec_l5Behind fu (⟨a0_1, a0_2, a0_3, (⟨za0_4, na0_4, fa0_4⟩ : (Sl Int))⟩ : S_impl_Vip) (⟨a1_1, a1_2, a1_3, (⟨za1_4, na1_4, fa1_4⟩ : (Sl Int))⟩ : S_impl_Vip), enc_bo, fun _ => true⟩ | _ => none
theorem goodv_b0 (fu : Nat) (a_0 b_1 : S_impl_Vip) (y : Bool) (hy : F_spec_l5Behind fu a_0 b_1 = some y) : Vm.Good E Tryz.prog 109 [(.agg [(ii a_0.Address), (ii a_0.Port), (ii a_0.Proto), (.rs a_0.Names.z .i64 a_0.Names.n a_0.Names.f)]), (.agg [(ii b_1.Address), (ii b_1.Port), (ii b_1.Proto), (.rs b_1.Names.z .i64 b_1.Names.n b_1.Names.f)])] (enc_bo y) :=
 fun_good E_ok (pc_good (pc := pc_b0 fu) hpc0 hpx0) (fn := Tryz.f109) (by kernel_rfl) (by kernel_rfl) (by kernel_rfl) (lpok_b0 fu) (fun d hd => out_bo_enc d _ hd) ((ev_b0 fu a_0 b_1).trans hy)
theorem good_b0 (fu : Nat) : GoodS E Tryz.prog 109 (S_b0 fu) := by
 intro xs o h y hy
 unfold S_b0 at h
 split at h
 ·rename_i a0_1 a0_2 a0_3 za0_4 na0_4 fa0_4 a1_1 a1_2 a1_3 za1_4 na1_4 fa1_4
  cases h
  exact goodv_b0 fu (⟨a0_1, a0_2, a0_3, (⟨za0_4, na0_4, fa0_4⟩ : (Sl Int))⟩ : S_impl_Vip) (⟨a1_1, a1_2, a1_3, (⟨za1_4, na1_4, fa1_4⟩ : (Sl Int))⟩ : S_impl_Vip) y hy
 ·cases h
def F_spec_l5Vip_B0 {ρ : Type} (fu : Nat) (c0_0 : Int) (c0_1 : (Sl S_impl_Backend)) (c0_2 : (Sl S_impl_Vip)) (o0_4 o0_5 o0_6 : Int) (o0_7 : (Sl Int)) (k0 : Option ρ) (k1 : Option ρ) (i6_3 : Int) (go : Int → Option ρ) : Option ρ :=
 (bif (decide (i6_3 < ((o0_7.n : Nat) : Int))) then ((bif (decide (0 ≤ i6_3) && decide ((Int.toNat i6_3) < o0_7.n)) then some () else none : Option Unit).bind fun _ =>
  ((F_spec_l5At fu (⟨c0_0, c0_1, c0_2⟩ : S_impl_Config) (o0_7.f (Int.toNat i6_3))).bind fun y97 => (bif (decide (y97 < 0)) then k0 else (go (IntKind.wrap .i64 (i6_3 + 1)))))) else
  k1)
def F_spec_l5Vip_B2 {ρ : Type} (fu : Nat) (o0_1 o0_2 o0_3 : Int) (o0_4 : (Sl Int)) (k0 : Option ρ) (k1 : Option ρ) (i7_0 : Int) (go : Int → Option ρ) : Option ρ :=
 (bif (decide (i7_0 < ((o0_4.n : Nat) : Int))) then ((bif (decide (0 ≤ i7_0) && decide ((Int.toNat i7_0) < o0_4.n)) then some () else none : Option Unit).bind fun _ => ((bif (decide (0 ≤ (IntKind.wrap .i64 (i7_0 - 1))) &&
  decide ((Int.toNat (IntKind.wrap .i64 (i7_0 - 1))) < o0_4.n)) then some () else none : Option Unit).bind fun _ => (bif (decide ((o0_4.f (Int.toNat i7_0)) ≤ (o0_4.f (Int.toNat (IntKind.wrap .i64 (i7_0 - 1)))))) then
  k0 else (go (IntKind.wrap .i64 (i7_0 + 1)))))) else k1)
def F_spec_l5Vip (fu : Nat) (c_0 : S_impl_Config) (at_1 : Int) : Option (Int) :=
 ((bif (decide (0 ≤ at_1) && decide ((Int.toNat at_1) < c_0.Vips.n)) then some () else none : Option Unit).bind fun _ => ((((F_spec_l2Address fu (c_0.Vips.f (Int.toNat at_1)).Address).bind fun y91 =>
  (bif (!y91) then (some true) else ((F_spec_l2Port fu (c_0.Vips.f (Int.toNat at_1)).Port).bind fun y92 => (bif (!y92) then (some true) else ((F_spec_l5Proto fu (c_0.Vips.f (Int.toNat at_1)).Proto).bind fun y93 =>
  (some (!y93))))))) : Option Bool).bind fun m94 => (bif m94 then (some 3) else (((bif (decide (at_1 > 0)) then ((bif (decide (0 ≤ (IntKind.wrap .i64 (at_1 - 1))) && decide ((Int.toNat (IntKind.wrap .i64 (at_1 - 1))) < c_0.Vips.n)) then
  some () else none : Option Unit).bind fun _ => ((F_spec_l5Behind fu (c_0.Vips.f (Int.toNat (IntKind.wrap .i64 (at_1 - 1)))) (c_0.Vips.f (Int.toNat at_1))).bind fun y95 => (some (!y95)))) else
  (some false)) : Option Bool).bind fun m96 => (bif m96 then (some 1) else (L (fun w0 go0 => F_spec_l5Vip_B0 fu c_0.Version c_0.Backends c_0.Vips ((c_0.Vips.f (Int.toNat at_1)).Address) ((c_0.Vips.f (Int.toNat at_1)).Port) ((c_0.Vips.f (Int.toNat at_1)).Proto) ((c_0.Vips.f (Int.toNat at_1)).Names) (some 4) (L (fun w2 go2 =>
  F_spec_l5Vip_B2 fu ((c_0.Vips.f (Int.toNat at_1)).Address) ((c_0.Vips.f (Int.toNat at_1)).Port) ((c_0.Vips.f (Int.toNat at_1)).Proto) ((c_0.Vips.f (Int.toNat at_1)).Names) (some 1) (some 0) w2 go2) fu (1 : Int)) w0 go0) fu (0 : Int)))))))
def pcf_b1 (fu f : Nat) (xs : List (D RT den)) : Option (Out RT den) := match f with | 26 => S_a33 fu xs | 85 => S_a21 fu xs | 86 => S_a38 fu xs | 108 => S_a39 fu xs | 109 => S_b0 fu xs | _ => none
def pc_b1 (fu : Nat) : Pc RT den := ⟨pcf_b1 fu, fun _ => false, fun _ => false, pcd0, pcd0, pcd0, pcx0⟩
def msk_b1 (b : Nat) : List Nat := match b with | 0 => (1 :: 2 :: 3 :: 4 :: (rg 7 73 [])) | 100000 => (0 :: 1 :: 2 :: 3 :: (rg 6 74 [])) | 2 => (rg 0 5 (6 :: (rg 8 72 []))) | 100002 => (0 :: 1 :: 2 :: 3 :: (rg 5 75 [])) | 200002 => [30] | 200004 => [45] | _ => []
def ps_b1_0 : List (Pat RT) := (.rptr [(.int .i64), (.rs .impl_Backend), (.rs .impl_Vip)] :: (fq 4 (.flat (.ref 0 0) :: .flat (.int .i64) :: (fq 73 []))))
def os_b1_0 : List (OP RT) := [.box false [(.int .i64), (.int .i64), (.int .i64), (.rs .i64)]]
def conv_b1_0 (r : Raw den ps_b1_0 os_b1_0) : (Yb1) × (Int) := ((r.1.1.1, r.1.1.2.1, r.1.1.2.2.1, r.2.1.1, r.2.1.2.1, r.2.1.2.2.1, r.2.1.2.2.2.1), (e5 r.1).2.1)
def back_b1_0 (c : Yb1) (w : Int) : St RT den := ⟨((.rptr [(ii c.1), (.rs c.2.1.z .impl_Backend c.2.1.n c.2.1.f), (.rs c.2.2.1.z .impl_Vip c.2.2.1.n c.2.2.1.f)]) :: (qs 4 ((.ref 0 0) :: (ii w) :: (qs 73 [])))), [(.box false [(ii c.2.2.2.1), (ii c.2.2.2.2.1), (ii (e5 c).1), (.rs (e5 c).2.z .i64 (e5 c).2.n (e5 c).2.f)])]⟩
def Bk_b1_0 {ρ : Type} (fu : Nat) (c : Yb1) (k : Ex → St RT den → Option ρ) (w : Int) (go : (Int) → Option ρ) : Option ρ := F_spec_l5Vip_B0 fu c.1 c.2.1 c.2.2.1 c.2.2.2.1 c.2.2.2.2.1 (e5 c).1 (e5 c).2 (k .ret ⟨(qs 4 ((ii 4) :: (.ref 0 0) :: (qs 74 []))), [(.box false [(ii c.2.2.2.1), (ii c.2.2.2.2.1), (ii (e5 c).1), (.rs (e5 c).2.z .i64 (e5 c).2.n (e5 c).2.f)])]⟩) (k (.exit 0) ⟨(qs 5 ((.ref 0 0) :: (qs 74 []))), [(.box false [(ii c.2.2.2.1), (ii c.2.2.2.2.1), (ii (e5 c).1), (.rs (e5 c).2.z .i64 (e5 c).2.n (e5 c).2.f)])]⟩) w go
def ps_b1_2 : List (Pat RT) := (fq 5 (.flat (.ref 0 0) :: .flat .q :: .flat (.int .i64) :: (fq 72 [])))
def os_b1_2 : List (OP RT) := [.box false [(.int .i64), (.int .i64), (.int .i64), (.rs .i64)]]
def conv_b1_2 (r : Raw den ps_b1_2 os_b1_2) : (Int × Int × Int × (Sl Int)) × (Int) := ((r.2.1.1, r.2.1.2.1, r.2.1.2.2.1, r.2.1.2.2.2.1), (e5 r.1).2.2.1)
def back_b1_2 (c : Int × Int × Int × (Sl Int)) (w : Int) : St RT den := ⟨(qs 5 ((.ref 0 0) :: .q :: (ii w) :: (qs 72 []))), [(.box false [(ii c.1), (ii c.2.1), (ii c.2.2.1), (.rs c.2.2.2.z .i64 c.2.2.2.n c.2.2.2.f)])]⟩
def Bk_b1_2 {ρ : Type} (fu : Nat) (c : Int × Int × Int × (Sl Int)) (k : Ex → St RT den → Option ρ) (w : Int) (go : (Int) → Option ρ) : Option ρ := F_spec_l5Vip_B2 fu c.1 c.2.1 c.2.2.1 c.2.2.2 (k .ret ⟨(qs 4 ((ii 1) :: (qs 75 []))), [(.box false [(ii c.1), (ii c.2.1), (ii c.2.2.1), (.rs c.2.2.2.z .i64 c.2.2.2.n c.2.2.2.f)])]⟩) (k (.exit 2) ⟨(qs 80 []), [(.box false [(ii c.1), (ii c.2.1), (ii c.2.2.1), (.rs c.2.2.2.z .i64 c.2.2.2.n c.2.2.2.f)])]⟩) w go
def lp_b1 (fu : Nat) : Lp RT den (Int) := ⟨fun b s k => match b with | 0 => handle ps_b1_0 os_b1_0 conv_b1_0 (Bk_b1_0 fu) fu s k | 2 => handle ps_b1_2 os_b1_2 conv_b1_2 (Bk_b1_2 fu) fu s k | _ => none, inl0⟩
theorem ev_b1 (fu : Nat) (c_0 : S_impl_Config) (at_1 : Int) : evFun E (pc_b1 fu) msk_b1 (lp_b1 fu) out_i64 82 [(.rptr [(ii c_0.Version), (.rs c_0.Backends.z .impl_Backend c_0.Backends.n c_0.Backends.f), (.rs c_0.Vips.z .impl_Vip c_0.Vips.n c_0.Vips.f)]), (ii at_1)] = F_spec_l5Vip fu c_0 at_1 := by kernel_rfl
noncomputable def body_b1 : Code := Tryz.f82.body.getD .skip
noncomputable def lc_b1_0 : Code := ((loops 0 body_b1).getD 0 (0, .skip)).2
theorem round_b1_0 (fu : Nat) : RoundOk E (pc_b1 fu) msk_b1 (lp_b1 fu) 0 lc_b1_0 back_b1_0 0 100000 1 (Bk_b1_0 fu) := fun it k c w => by kernel_rfl
theorem lpok_b1_0 (fu : Nat) : LpAt E (pc_b1 fu) msk_b1 (lp_b1 fu) 0 0 100000 0 lc_b1_0 :=
 handle_ok (ps := ps_b1_0) (os := os_b1_0) (conv := conv_b1_0) (B := Bk_b1_0 fu) (fu := fu) back_b1_0 (fun raw => by kernel_rfl) 1 (fun c w => by kernel_rfl) (round_b1_0 fu)
noncomputable def lc_b1_2 : Code := ((loops 0 body_b1).getD 1 (0, .skip)).2
theorem round_b1_2 (fu : Nat) : RoundOk E (pc_b1 fu) msk_b1 (lp_b1 fu) 2 lc_b1_2 back_b1_2 2 100002 1 (Bk_b1_2 fu) := fun it k c w => by kernel_rfl
theorem lpok_b1_2 (fu : Nat) : LpAt E (pc_b1 fu) msk_b1 (lp_b1 fu) 2 2 100002 2 lc_b1_2 :=
 handle_ok (ps := ps_b1_2) (os := os_b1_2) (conv := conv_b1_2) (B := Bk_b1_2 fu) (fu := fu) back_b1_2 (fun raw => by kernel_rfl) 1 (fun c w => by kernel_rfl) (round_b1_2 fu)
theorem lpok_b1 (fu : Nat) : LpOk E (pc_b1 fu) 0 msk_b1 (lp_b1 fu) (loops 0 body_b1) := lp_nil (loop_all 2 (by kernel_rfl) fun i hi => match i, hi with
 | 0, _ => by
  have h : (loops 0 body_b1).getD 0 (0, .skip) = (0, lc_b1_0) := by kernel_rfl
  rw [h]; exact lpok_b1_0 fu
 | 1, _ => by
  have h : (loops 0 body_b1).getD 1 (0, .skip) = (2, lc_b1_2) := by kernel_rfl
  rw [h]; exact lpok_b1_2 fu
 | i + 2, hi => absurd hi (by omega)) (by kernel_rfl)
def S_b1 (fu : Nat) (xs : List (D RT den)) : Option (Out RT den) := match xs with | [.rptr (.int .i64 a0_1 :: .rs za0_2 .impl_Backend na0_2 fa0_2 :: .rs za0_3 .impl_Vip na0_3 fa0_3 :: ra0), .int .i64 a1_0] => some ⟨Int, F_spec_l5Vip fu (⟨a0_1, (⟨za0_2, na0_2, fa0_2⟩ : (Sl S_impl_Backend)), (⟨za0_3, na0_3, fa0_3⟩ : (Sl S_impl_Vip))⟩ : S_impl_Config) a1_0, enc_i64, fun _ => true⟩ | _ => none
theorem hpc_b1 (fu : Nat) : HpcOk E Tryz.prog (pcf_b1 fu) := by
 intro f xs o h
 unfold pcf_b1 at h
 split at h
 ·exact good_a33 fu xs o h
 ·exact good_a21 fu xs o h
 ·exact good_a38 fu xs o h
 ·exact good_a39 fu xs o h
 ·exact good_b0 fu xs o h
 ·cases h
theorem goodv_b1 (fu : Nat) (c_0 : S_impl_Config) (at_1 y : Int) (hy : F_spec_l5Vip fu c_0 at_1 = some y) : Vm.Good E Tryz.prog 82 [(.rptr [(ii c_0.Version), (.rs c_0.Backends.z .impl_Backend c_0.Backends.n c_0.Backends.f), (.rs c_0.Vips.z .impl_Vip c_0.Vips.n c_0.Vips.f)]), (ii at_1)] (enc_i64 y) :=
 fun_good E_ok (pc_good (pc := pc_b1 fu) (hpc_b1 fu) hpx0) (fn := Tryz.f82) (by kernel_rfl) (by kernel_rfl) (by kernel_rfl) (lpok_b1 fu) (fun d hd => out_i64_enc d _ hd) ((ev_b1 fu c_0 at_1).trans hy)
theorem good_b1 (fu : Nat) : GoodS E Tryz.prog 82 (S_b1 fu) := by
 intro xs o h y hy
 unfold S_b1 at h
 split at h
 ·rename_i a0_1 za0_2 na0_2 fa0_2 za0_3 na0_3 fa0_3 ra0 a1_0
  cases h
  exact (goodv_b1 fu (⟨a0_1, (⟨za0_2, na0_2, fa0_2⟩ : (Sl S_impl_Backend)), (⟨za0_3, na0_3, fa0_3⟩ : (Sl S_impl_Vip))⟩ : S_impl_Config) a1_0 y hy).sub ⟨Sub.of_eq ra0 rfl, .refl _, trivial⟩
 ·cases h
end Go.Proofs.YtcmfekgdlaffkaaGreatDoor.Px
