/- The functions' evaluated forms, each a proved summary. Conditions: none. -/
import Derived.Test.YtcmfekgdlaffkaaGreatDoorPxHand
namespace Go.Proofs.YtcmfekgdlaffkaaGreatDoor.Px
open Go Go.RowKit Go.Proofs Vm
set_option linter.unusedVariables false
set_option linter.unusedSimpArgs false
set_option maxRecDepth 100000
def F_laws_toBackend (fu : Nat) (a_0 : S_impl_Backend) : Option (S_impl_Backend) :=
 (some a_0)
def pc_a0 (fu : Nat) : Pc RT den := ⟨pcf0, fun _ => false, fun _ => false, pcd0, pcd0, pcd0, pcx0⟩
def msk_a0 (b : Nat) : List Nat := []
def lp_a0 (fu : Nat) : Lp RT den (S_impl_Backend) := ⟨fun b s k => none, inl0⟩
theorem ev_a0 (fu : Nat) (a_0 : S_impl_Backend) : evFun E (pc_a0 fu) msk_a0 (lp_a0 fu) out_impl_Backend 89 [(.agg [(ii a_0.Name), (ii a_0.Address), (ii a_0.Weight), (ii a_0.Stage), (.bool a_0.Up)])] = F_laws_toBackend fu a_0 := by kernel_rfl
noncomputable def body_a0 : Code := Tryz.f89.body.getD .skip
theorem lpok_a0 (fu : Nat) : LpOk E (pc_a0 fu) 0 msk_a0 (lp_a0 fu) (loops 0 body_a0) := lp_nil (loop_nil (by kernel_rfl)) (by kernel_rfl)
def S_a0 (fu : Nat) (xs : List (D RT den)) : Option (Out RT den) := match xs with | [.agg [.int .i64 a0_1, .int .i64 a0_2, .int .i64 a0_3, .int .i64 a0_4, .bool a0_5]] => some ⟨S_impl_Backend, F_laws_toBackend fu (⟨a0_1, a0_2, a0_3, a0_4, a0_5⟩ : S_impl_Backend), enc_impl_Backend, fun _ => true⟩ | _ => none
theorem goodv_a0 (fu : Nat) (a_0 y : S_impl_Backend) (hy : F_laws_toBackend fu a_0 = some y) : Vm.Good E Tryz.prog 89 [(.agg [(ii a_0.Name), (ii a_0.Address), (ii a_0.Weight), (ii a_0.Stage), (.bool a_0.Up)])] (enc_impl_Backend y) :=
 fun_good E_ok (pc_good (pc := pc_a0 fu) hpc0 hpx0) (fn := Tryz.f89) (by kernel_rfl) (by kernel_rfl) (by kernel_rfl) (lpok_a0 fu) (fun d hd => out_impl_Backend_enc d _ hd) ((ev_a0 fu a_0).trans hy)
theorem good_a0 (fu : Nat) : GoodS E Tryz.prog 89 (S_a0 fu) := by
 intro xs o h y hy
 unfold S_a0 at h
 split at h
 ·rename_i a0_1 a0_2 a0_3 a0_4 a0_5
  cases h
  exact goodv_a0 fu (⟨a0_1, a0_2, a0_3, a0_4, a0_5⟩ : S_impl_Backend) y hy
 ·cases h
def F_laws_toBackendS_B0 {ρ : Type} (fu : Nat) (a0_0 : (Sl S_impl_Backend)) (out3_1 on0_3 : Nat) (k0 : (Nat → S_impl_Backend) → Option ρ) (i4_2 : Int) (of0_4 : (Nat → S_impl_Backend)) (go : Int → (Nat → S_impl_Backend) → Option ρ) : Option ρ :=
 (bif (decide (i4_2 < ((a0_0.n : Nat) : Int))) then ((bif (decide (0 ≤ i4_2) && decide ((Int.toNat i4_2) < a0_0.n)) then some () else none : Option Unit).bind fun _ =>
  ((F_laws_toBackend fu (a0_0.f (Int.toNat i4_2))).bind fun y6 => ((bif (decide (0 ≤ i4_2) && decide ((Int.toNat i4_2) < out3_1)) then some () else none : Option Unit).bind fun _ =>
  (go (IntKind.wrap .i64 (i4_2 + 1)) (fun j => if j = (Int.toNat i4_2) then y6 else of0_4 j))))) else (k0 of0_4))
def F_laws_toBackendS (fu : Nat) (a_0 : (Sl S_impl_Backend)) : Option ((Sl S_impl_Backend)) :=
 (bif (decide (0 ≤ ((a_0.n : Nat) : Int)) && (decide (((a_0.n : Nat) : Int) = ((a_0.n : Nat) : Int)) && (decide ((40 : Int) * ((a_0.n : Nat) : Int) ≤ 281474976710656) && decide (((a_0.n : Nat) : Int) ≤ 9223372036854775807)))) then
  (L (fun w0 go0 => F_laws_toBackendS_B0 fu a_0 (Int.toNat ((a_0.n : Nat) : Int)) (Int.toNat ((a_0.n : Nat) : Int)) (fun z7 => (some (⟨none, (Int.toNat ((a_0.n : Nat) : Int)), z7⟩ : (Sl S_impl_Backend)))) w0.1 w0.2 (fun q0 q1 =>
  go0 (q0, q1))) fu ((0, (fun _ => (⟨0, 0, 0, 0, false⟩ : S_impl_Backend))) : Int × (Nat → S_impl_Backend))) else none)
def pcf_a1 (fu f : Nat) (xs : List (D RT den)) : Option (Out RT den) := match f with | 89 => S_a0 fu xs | _ => none
def pc_a1 (fu : Nat) : Pc RT den := ⟨pcf_a1 fu, fun _ => false, fun _ => false, pcd0, pcd0, pcd0, pcx0⟩
def msk_a1 (b : Nat) : List Nat := match b with | 0 => (1 :: 2 :: (rg 5 18 [])) | 100000 => (0 :: 1 :: (rg 4 19 [])) | _ => []
def ps_a1_0 : List (Pat RT) := (.flat (.rs .impl_Backend) :: .flat .q :: .flat .q :: .flat (.os 0) :: .flat (.int .i64) :: (fq 18 []))
def os_a1_0 : List (OP RT) := [.row false .impl_Backend]
def conv_a1_0 (r : Raw den ps_a1_0 os_a1_0) : ((Sl S_impl_Backend) × Nat × Nat) × (Int × (Nat → S_impl_Backend)) := ((r.1.1, r.1.2.2.2.1, r.2.1.1), (r.1.2.2.2.2.1, r.2.1.2))
def back_a1_0 (c : (Sl S_impl_Backend) × Nat × Nat) (w : Int × (Nat → S_impl_Backend)) : St RT den := ⟨((.rs c.1.z .impl_Backend c.1.n c.1.f) :: .q :: .q :: (.os 0 c.2.1) :: (ii w.1) :: (qs 18 [])), [(.row false .impl_Backend c.2.2 w.2)]⟩
def Bk_a1_0 {ρ : Type} (fu : Nat) (c : (Sl S_impl_Backend) × Nat × Nat) (k : Ex → St RT den → Option ρ) (w : Int × (Nat → S_impl_Backend)) (go : (Int × (Nat → S_impl_Backend)) → Option ρ) : Option ρ := F_laws_toBackendS_B0 fu c.1 c.2.1 c.2.2 (fun a0 => k (.exit 0) ⟨(.q :: .q :: .q :: (.os 0 c.2.1) :: (qs 19 [])), [(.row false .impl_Backend c.2.2 a0)]⟩) w.1 w.2 (fun q0 q1 => go (q0, q1))
def lp_a1 (fu : Nat) : Lp RT den ((Sl S_impl_Backend)) := ⟨fun b s k => match b with | 0 => handle ps_a1_0 os_a1_0 conv_a1_0 (Bk_a1_0 fu) fu s k | _ => none, inl0⟩
theorem ev_a1 (fu : Nat) (a_0 : (Sl S_impl_Backend)) : evFun E (pc_a1 fu) msk_a1 (lp_a1 fu) out_sl_impl_Backend 63 [(.rs a_0.z .impl_Backend a_0.n a_0.f)] = F_laws_toBackendS fu a_0 := by kernel_rfl
noncomputable def body_a1 : Code := Tryz.f63.body.getD .skip
noncomputable def lc_a1_0 : Code := ((loops 0 body_a1).getD 0 (0, .skip)).2
theorem round_a1_0 (fu : Nat) : RoundOk E (pc_a1 fu) msk_a1 (lp_a1 fu) 0 lc_a1_0 back_a1_0 0 100000 1 (Bk_a1_0 fu) := fun it k c w => by kernel_rfl
theorem lpok_a1_0 (fu : Nat) : LpAt E (pc_a1 fu) msk_a1 (lp_a1 fu) 0 0 100000 0 lc_a1_0 :=
 handle_ok (ps := ps_a1_0) (os := os_a1_0) (conv := conv_a1_0) (B := Bk_a1_0 fu) (fu := fu) back_a1_0 (fun raw => by kernel_rfl) 1 (fun c w => by kernel_rfl) (round_a1_0 fu)
theorem lpok_a1 (fu : Nat) : LpOk E (pc_a1 fu) 0 msk_a1 (lp_a1 fu) (loops 0 body_a1) := lp_nil (loop_all 1 (by kernel_rfl) fun i hi => match i, hi with
 | 0, _ => by
  have h : (loops 0 body_a1).getD 0 (0, .skip) = (0, lc_a1_0) := by kernel_rfl
  rw [h]; exact lpok_a1_0 fu
 | i + 1, hi => absurd hi (by omega)) (by kernel_rfl)
def S_a1 (fu : Nat) (xs : List (D RT den)) : Option (Out RT den) := match xs with | [.rs za0_0 .impl_Backend na0_0 fa0_0] => some ⟨(Sl S_impl_Backend), F_laws_toBackendS fu (⟨za0_0, na0_0, fa0_0⟩ : (Sl S_impl_Backend)), enc_sl_impl_Backend, fun _ => true⟩ | _ => none
theorem hpc_a1 (fu : Nat) : HpcOk E Tryz.prog (pcf_a1 fu) := by
 intro f xs o h
 unfold pcf_a1 at h
 split at h
 ·exact good_a0 fu xs o h
 ·cases h
theorem goodv_a1 (fu : Nat) (a_0 y : (Sl S_impl_Backend)) (hy : F_laws_toBackendS fu a_0 = some y) : Vm.Good E Tryz.prog 63 [(.rs a_0.z .impl_Backend a_0.n a_0.f)] (enc_sl_impl_Backend y) :=
 fun_good E_ok (pc_good (pc := pc_a1 fu) (hpc_a1 fu) hpx0) (fn := Tryz.f63) (by kernel_rfl) (by kernel_rfl) (by kernel_rfl) (lpok_a1 fu) (fun d hd => out_sl_impl_Backend_enc d _ hd) ((ev_a1 fu a_0).trans hy)
theorem good_a1 (fu : Nat) : GoodS E Tryz.prog 63 (S_a1 fu) := by
 intro xs o h y hy
 unfold S_a1 at h
 split at h
 ·rename_i za0_0 na0_0 fa0_0
  cases h
  exact goodv_a1 fu (⟨za0_0, na0_0, fa0_0⟩ : (Sl S_impl_Backend)) y hy
 ·cases h
def F_laws_toInt64S_B0 {ρ : Type} (fu : Nat) (a0_0 : (Sl Int)) (out3_1 on0_3 : Nat) (k0 : (Nat → Int) → Option ρ) (i4_2 : Int) (of0_4 : (Nat → Int)) (go : Int → (Nat → Int) → Option ρ) : Option ρ :=
 (bif (decide (i4_2 < ((a0_0.n : Nat) : Int))) then ((bif (decide (0 ≤ i4_2) && decide ((Int.toNat i4_2) < a0_0.n)) then some () else none : Option Unit).bind fun _ => ((bif (decide (0 ≤ i4_2) &&
  decide ((Int.toNat i4_2) < out3_1)) then some () else none : Option Unit).bind fun _ => (go (IntKind.wrap .i64 (i4_2 + 1)) (fun j => if j = (Int.toNat i4_2) then (a0_0.f (Int.toNat i4_2)) else
  of0_4 j)))) else (k0 of0_4))
def F_laws_toInt64S (fu : Nat) (a_0 : (Sl Int)) : Option ((Sl Int)) :=
 (bif (decide (0 ≤ ((a_0.n : Nat) : Int)) && (decide (((a_0.n : Nat) : Int) = ((a_0.n : Nat) : Int)) && (decide ((8 : Int) * ((a_0.n : Nat) : Int) ≤ 281474976710656) && decide (((a_0.n : Nat) : Int) ≤ 9223372036854775807)))) then
  (L (fun w0 go0 => F_laws_toInt64S_B0 fu a_0 (Int.toNat ((a_0.n : Nat) : Int)) (Int.toNat ((a_0.n : Nat) : Int)) (fun z11 => (some (⟨none, (Int.toNat ((a_0.n : Nat) : Int)), z11⟩ : (Sl Int)))) w0.1 w0.2 (fun q0 q1 =>
  go0 (q0, q1))) fu ((0, (fun _ => 0)) : Int × (Nat → Int))) else none)
def pc_a2 (fu : Nat) : Pc RT den := ⟨pcf0, fun _ => false, fun _ => false, pcd0, pcd0, pcd0, pcx0⟩
def msk_a2 (b : Nat) : List Nat := match b with | 0 => (1 :: 2 :: (rg 5 17 [])) | 100000 => (0 :: 1 :: (rg 4 18 [])) | _ => []
def ps_a2_0 : List (Pat RT) := (.flat (.rs .i64) :: .flat .q :: .flat .q :: .flat (.os 0) :: .flat (.int .i64) :: (fq 17 []))
def os_a2_0 : List (OP RT) := [.row false .i64]
def conv_a2_0 (r : Raw den ps_a2_0 os_a2_0) : ((Sl Int) × Nat × Nat) × (Int × (Nat → Int)) := ((r.1.1, r.1.2.2.2.1, r.2.1.1), (r.1.2.2.2.2.1, r.2.1.2))
def back_a2_0 (c : (Sl Int) × Nat × Nat) (w : Int × (Nat → Int)) : St RT den := ⟨((.rs c.1.z .i64 c.1.n c.1.f) :: .q :: .q :: (.os 0 c.2.1) :: (ii w.1) :: (qs 17 [])), [(.row false .i64 c.2.2 w.2)]⟩
def Bk_a2_0 {ρ : Type} (fu : Nat) (c : (Sl Int) × Nat × Nat) (k : Ex → St RT den → Option ρ) (w : Int × (Nat → Int)) (go : (Int × (Nat → Int)) → Option ρ) : Option ρ := F_laws_toInt64S_B0 fu c.1 c.2.1 c.2.2 (fun a0 => k (.exit 0) ⟨(.q :: .q :: .q :: (.os 0 c.2.1) :: (qs 18 [])), [(.row false .i64 c.2.2 a0)]⟩) w.1 w.2 (fun q0 q1 => go (q0, q1))
def lp_a2 (fu : Nat) : Lp RT den ((Sl Int)) := ⟨fun b s k => match b with | 0 => handle ps_a2_0 os_a2_0 conv_a2_0 (Bk_a2_0 fu) fu s k | _ => none, inl0⟩
theorem ev_a2 (fu : Nat) (a_0 : (Sl Int)) : evFun E (pc_a2 fu) msk_a2 (lp_a2 fu) out_sl_i64 35 [(.rs a_0.z .i64 a_0.n a_0.f)] = F_laws_toInt64S fu a_0 := by kernel_rfl
noncomputable def body_a2 : Code := Tryz.f35.body.getD .skip
noncomputable def lc_a2_0 : Code := ((loops 0 body_a2).getD 0 (0, .skip)).2
theorem round_a2_0 (fu : Nat) : RoundOk E (pc_a2 fu) msk_a2 (lp_a2 fu) 0 lc_a2_0 back_a2_0 0 100000 1 (Bk_a2_0 fu) := fun it k c w => by kernel_rfl
theorem lpok_a2_0 (fu : Nat) : LpAt E (pc_a2 fu) msk_a2 (lp_a2 fu) 0 0 100000 0 lc_a2_0 :=
 handle_ok (ps := ps_a2_0) (os := os_a2_0) (conv := conv_a2_0) (B := Bk_a2_0 fu) (fu := fu) back_a2_0 (fun raw => by kernel_rfl) 1 (fun c w => by kernel_rfl) (round_a2_0 fu)
theorem lpok_a2 (fu : Nat) : LpOk E (pc_a2 fu) 0 msk_a2 (lp_a2 fu) (loops 0 body_a2) := lp_nil (loop_all 1 (by kernel_rfl) fun i hi => match i, hi with
 | 0, _ => by
  have h : (loops 0 body_a2).getD 0 (0, .skip) = (0, lc_a2_0) := by kernel_rfl
  rw [h]; exact lpok_a2_0 fu
 | i + 1, hi => absurd hi (by omega)) (by kernel_rfl)
def S_a2 (fu : Nat) (xs : List (D RT den)) : Option (Out RT den) := match xs with | [.rs za0_0 .i64 na0_0 fa0_0] => some ⟨(Sl Int), F_laws_toInt64S fu (⟨za0_0, na0_0, fa0_0⟩ : (Sl Int)), enc_sl_i64, fun _ => true⟩ | _ => none
theorem goodv_a2 (fu : Nat) (a_0 y : (Sl Int)) (hy : F_laws_toInt64S fu a_0 = some y) : Vm.Good E Tryz.prog 35 [(.rs a_0.z .i64 a_0.n a_0.f)] (enc_sl_i64 y) :=
 fun_good E_ok (pc_good (pc := pc_a2 fu) hpc0 hpx0) (fn := Tryz.f35) (by kernel_rfl) (by kernel_rfl) (by kernel_rfl) (lpok_a2 fu) (fun d hd => out_sl_i64_enc d _ hd) ((ev_a2 fu a_0).trans hy)
theorem good_a2 (fu : Nat) : GoodS E Tryz.prog 35 (S_a2 fu) := by
 intro xs o h y hy
 unfold S_a2 at h
 split at h
 ·rename_i za0_0 na0_0 fa0_0
  cases h
  exact goodv_a2 fu (⟨za0_0, na0_0, fa0_0⟩ : (Sl Int)) y hy
 ·cases h
def F_laws_toVip (fu : Nat) (a_0 : S_impl_Vip) : Option (S_impl_Vip) :=
 ((F_laws_toInt64S fu a_0.Names).bind fun y10 => (some (⟨a_0.Address, a_0.Port, a_0.Proto, y10⟩ : S_impl_Vip)))
def pcf_a3 (fu f : Nat) (xs : List (D RT den)) : Option (Out RT den) := match f with | 35 => S_a2 fu xs | _ => none
def pc_a3 (fu : Nat) : Pc RT den := ⟨pcf_a3 fu, fun _ => false, fun _ => false, pcd0, pcd0, pcd0, pcx0⟩
def msk_a3 (b : Nat) : List Nat := []
def lp_a3 (fu : Nat) : Lp RT den (S_impl_Vip) := ⟨fun b s k => none, inl0⟩
theorem ev_a3 (fu : Nat) (a_0 : S_impl_Vip) : evFun E (pc_a3 fu) msk_a3 (lp_a3 fu) out_impl_Vip 90 [(.agg [(ii a_0.Address), (ii a_0.Port), (ii a_0.Proto), (.rs a_0.Names.z .i64 a_0.Names.n a_0.Names.f)])] = F_laws_toVip fu a_0 := by kernel_rfl
noncomputable def body_a3 : Code := Tryz.f90.body.getD .skip
theorem lpok_a3 (fu : Nat) : LpOk E (pc_a3 fu) 0 msk_a3 (lp_a3 fu) (loops 0 body_a3) := lp_nil (loop_nil (by kernel_rfl)) (by kernel_rfl)
def S_a3 (fu : Nat) (xs : List (D RT den)) : Option (Out RT den) := match xs with | [.agg [.int .i64 a0_1, .int .i64 a0_2, .int .i64 a0_3, .rs za0_4 .i64 na0_4 fa0_4]] => some ⟨S_impl_Vip, F_laws_toVip fu (⟨a0_1, a0_2, a0_3, (⟨za0_4, na0_4, fa0_4⟩ : (Sl Int))⟩ : S_impl_Vip), enc_impl_Vip, fun _ => true⟩ | _ => none
theorem hpc_a3 (fu : Nat) : HpcOk E Tryz.prog (pcf_a3 fu) := by
 intro f xs o h
 unfold pcf_a3 at h
 split at h
 ·exact good_a2 fu xs o h
 ·cases h
theorem goodv_a3 (fu : Nat) (a_0 y : S_impl_Vip) (hy : F_laws_toVip fu a_0 = some y) : Vm.Good E Tryz.prog 90 [(.agg [(ii a_0.Address), (ii a_0.Port), (ii a_0.Proto), (.rs a_0.Names.z .i64 a_0.Names.n a_0.Names.f)])] (enc_impl_Vip y) :=
 fun_good E_ok (pc_good (pc := pc_a3 fu) (hpc_a3 fu) hpx0) (fn := Tryz.f90) (by kernel_rfl) (by kernel_rfl) (by kernel_rfl) (lpok_a3 fu) (fun d hd => out_impl_Vip_enc d _ hd) ((ev_a3 fu a_0).trans hy)
theorem good_a3 (fu : Nat) : GoodS E Tryz.prog 90 (S_a3 fu) := by
 intro xs o h y hy
 unfold S_a3 at h
 split at h
 ·rename_i a0_1 a0_2 a0_3 za0_4 na0_4 fa0_4
  cases h
  exact goodv_a3 fu (⟨a0_1, a0_2, a0_3, (⟨za0_4, na0_4, fa0_4⟩ : (Sl Int))⟩ : S_impl_Vip) y hy
 ·cases h
def F_laws_toVipS_B0 {ρ : Type} (fu : Nat) (a0_0 : (Sl S_impl_Vip)) (out3_1 on0_3 : Nat) (k0 : (Nat → S_impl_Vip) → Option ρ) (i4_2 : Int) (of0_4 : (Nat → S_impl_Vip)) (go : Int → (Nat → S_impl_Vip) → Option ρ) : Option ρ :=
 (bif (decide (i4_2 < ((a0_0.n : Nat) : Int))) then ((bif (decide (0 ≤ i4_2) && decide ((Int.toNat i4_2) < a0_0.n)) then some () else none : Option Unit).bind fun _ =>
  ((F_laws_toVip fu (a0_0.f (Int.toNat i4_2))).bind fun y9 => ((bif (decide (0 ≤ i4_2) && decide ((Int.toNat i4_2) < out3_1)) then some () else none : Option Unit).bind fun _ =>
  (go (IntKind.wrap .i64 (i4_2 + 1)) (fun j => if j = (Int.toNat i4_2) then y9 else of0_4 j))))) else (k0 of0_4))
def F_laws_toVipS (fu : Nat) (a_0 : (Sl S_impl_Vip)) : Option ((Sl S_impl_Vip)) :=
 (bif (decide (0 ≤ ((a_0.n : Nat) : Int)) && (decide (((a_0.n : Nat) : Int) = ((a_0.n : Nat) : Int)) && (decide ((48 : Int) * ((a_0.n : Nat) : Int) ≤ 281474976710656) && decide (((a_0.n : Nat) : Int) ≤ 9223372036854775807)))) then
  (L (fun w0 go0 => F_laws_toVipS_B0 fu a_0 (Int.toNat ((a_0.n : Nat) : Int)) (Int.toNat ((a_0.n : Nat) : Int)) (fun z12 => (some (⟨none, (Int.toNat ((a_0.n : Nat) : Int)), z12⟩ : (Sl S_impl_Vip)))) w0.1 w0.2 (fun q0 q1 =>
  go0 (q0, q1))) fu ((0, (fun _ => (⟨0, 0, 0, (⟨(some true), 0, (fun _ => dflt .i64)⟩ : (Sl Int))⟩ : S_impl_Vip))) : Int × (Nat → S_impl_Vip))) else none)
def pcf_a4 (fu f : Nat) (xs : List (D RT den)) : Option (Out RT den) := match f with | 90 => S_a3 fu xs | _ => none
def pc_a4 (fu : Nat) : Pc RT den := ⟨pcf_a4 fu, fun _ => false, fun _ => false, pcd0, pcd0, pcd0, pcx0⟩
def msk_a4 (b : Nat) : List Nat := match b with | 0 => (1 :: 2 :: (rg 5 18 [])) | 100000 => (0 :: 1 :: (rg 4 19 [])) | _ => []
def ps_a4_0 : List (Pat RT) := (.flat (.rs .impl_Vip) :: .flat .q :: .flat .q :: .flat (.os 0) :: .flat (.int .i64) :: (fq 18 []))
def os_a4_0 : List (OP RT) := [.row false .impl_Vip]
def conv_a4_0 (r : Raw den ps_a4_0 os_a4_0) : ((Sl S_impl_Vip) × Nat × Nat) × (Int × (Nat → S_impl_Vip)) := ((r.1.1, r.1.2.2.2.1, r.2.1.1), (r.1.2.2.2.2.1, r.2.1.2))
def back_a4_0 (c : (Sl S_impl_Vip) × Nat × Nat) (w : Int × (Nat → S_impl_Vip)) : St RT den := ⟨((.rs c.1.z .impl_Vip c.1.n c.1.f) :: .q :: .q :: (.os 0 c.2.1) :: (ii w.1) :: (qs 18 [])), [(.row false .impl_Vip c.2.2 w.2)]⟩
def Bk_a4_0 {ρ : Type} (fu : Nat) (c : (Sl S_impl_Vip) × Nat × Nat) (k : Ex → St RT den → Option ρ) (w : Int × (Nat → S_impl_Vip)) (go : (Int × (Nat → S_impl_Vip)) → Option ρ) : Option ρ := F_laws_toVipS_B0 fu c.1 c.2.1 c.2.2 (fun a0 => k (.exit 0) ⟨(.q :: .q :: .q :: (.os 0 c.2.1) :: (qs 19 [])), [(.row false .impl_Vip c.2.2 a0)]⟩) w.1 w.2 (fun q0 q1 => go (q0, q1))
def lp_a4 (fu : Nat) : Lp RT den ((Sl S_impl_Vip)) := ⟨fun b s k => match b with | 0 => handle ps_a4_0 os_a4_0 conv_a4_0 (Bk_a4_0 fu) fu s k | _ => none, inl0⟩
theorem ev_a4 (fu : Nat) (a_0 : (Sl S_impl_Vip)) : evFun E (pc_a4 fu) msk_a4 (lp_a4 fu) out_sl_impl_Vip 64 [(.rs a_0.z .impl_Vip a_0.n a_0.f)] = F_laws_toVipS fu a_0 := by kernel_rfl
noncomputable def body_a4 : Code := Tryz.f64.body.getD .skip
noncomputable def lc_a4_0 : Code := ((loops 0 body_a4).getD 0 (0, .skip)).2
theorem round_a4_0 (fu : Nat) : RoundOk E (pc_a4 fu) msk_a4 (lp_a4 fu) 0 lc_a4_0 back_a4_0 0 100000 1 (Bk_a4_0 fu) := fun it k c w => by kernel_rfl
theorem lpok_a4_0 (fu : Nat) : LpAt E (pc_a4 fu) msk_a4 (lp_a4 fu) 0 0 100000 0 lc_a4_0 :=
 handle_ok (ps := ps_a4_0) (os := os_a4_0) (conv := conv_a4_0) (B := Bk_a4_0 fu) (fu := fu) back_a4_0 (fun raw => by kernel_rfl) 1 (fun c w => by kernel_rfl) (round_a4_0 fu)
theorem lpok_a4 (fu : Nat) : LpOk E (pc_a4 fu) 0 msk_a4 (lp_a4 fu) (loops 0 body_a4) := lp_nil (loop_all 1 (by kernel_rfl) fun i hi => match i, hi with
 | 0, _ => by
  have h : (loops 0 body_a4).getD 0 (0, .skip) = (0, lc_a4_0) := by kernel_rfl
  rw [h]; exact lpok_a4_0 fu
 | i + 1, hi => absurd hi (by omega)) (by kernel_rfl)
def S_a4 (fu : Nat) (xs : List (D RT den)) : Option (Out RT den) := match xs with | [.rs za0_0 .impl_Vip na0_0 fa0_0] => some ⟨(Sl S_impl_Vip), F_laws_toVipS fu (⟨za0_0, na0_0, fa0_0⟩ : (Sl S_impl_Vip)), enc_sl_impl_Vip, fun _ => true⟩ | _ => none
theorem hpc_a4 (fu : Nat) : HpcOk E Tryz.prog (pcf_a4 fu) := by
 intro f xs o h
 unfold pcf_a4 at h
 split at h
 ·exact good_a3 fu xs o h
 ·cases h
theorem goodv_a4 (fu : Nat) (a_0 y : (Sl S_impl_Vip)) (hy : F_laws_toVipS fu a_0 = some y) : Vm.Good E Tryz.prog 64 [(.rs a_0.z .impl_Vip a_0.n a_0.f)] (enc_sl_impl_Vip y) :=
 fun_good E_ok (pc_good (pc := pc_a4 fu) (hpc_a4 fu) hpx0) (fn := Tryz.f64) (by kernel_rfl) (by kernel_rfl) (by kernel_rfl) (lpok_a4 fu) (fun d hd => out_sl_impl_Vip_enc d _ hd) ((ev_a4 fu a_0).trans hy)
theorem good_a4 (fu : Nat) : GoodS E Tryz.prog 64 (S_a4 fu) := by
 intro xs o h y hy
 unfold S_a4 at h
 split at h
 ·rename_i za0_0 na0_0 fa0_0
  cases h
  exact goodv_a4 fu (⟨za0_0, na0_0, fa0_0⟩ : (Sl S_impl_Vip)) y hy
 ·cases h
def F_laws_toConfig (fu : Nat) (a_0 : S_laws_Config) : Option (S_impl_Config) :=
 ((F_laws_toBackendS fu a_0.Backends).bind fun y5 => ((F_laws_toVipS fu a_0.Vips).bind fun y8 => (some (⟨a_0.Version, y5, y8⟩ : S_impl_Config))))
def pcf_a5 (fu f : Nat) (xs : List (D RT den)) : Option (Out RT den) := match f with | 63 => S_a1 fu xs | 64 => S_a4 fu xs | _ => none
def pc_a5 (fu : Nat) : Pc RT den := ⟨pcf_a5 fu, fun _ => false, fun _ => false, pcd0, pcd0, pcd0, pcx0⟩
def msk_a5 (b : Nat) : List Nat := []
def lp_a5 (fu : Nat) : Lp RT den (S_impl_Config) := ⟨fun b s k => none, inl0⟩
theorem ev_a5 (fu : Nat) (a_0 : S_laws_Config) : evFun E (pc_a5 fu) msk_a5 (lp_a5 fu) out_impl_Config 34 [(.agg [(ii a_0.Version), (.rs a_0.Backends.z .impl_Backend a_0.Backends.n a_0.Backends.f), (.rs a_0.Vips.z .impl_Vip a_0.Vips.n a_0.Vips.f)])] = F_laws_toConfig fu a_0 := by kernel_rfl
noncomputable def body_a5 : Code := Tryz.f34.body.getD .skip
theorem lpok_a5 (fu : Nat) : LpOk E (pc_a5 fu) 0 msk_a5 (lp_a5 fu) (loops 0 body_a5) := lp_nil (loop_nil (by kernel_rfl)) (by kernel_rfl)
def S_a5 (fu : Nat) (xs : List (D RT den)) : Option (Out RT den) := match xs with | [.agg [.int .i64 a0_1, .rs za0_2 .impl_Backend na0_2 fa0_2, .rs za0_3 .impl_Vip na0_3 fa0_3]] => some ⟨S_impl_Config, F_laws_toConfig fu (⟨a0_1, (⟨za0_2, na0_2, fa0_2⟩ : (Sl S_impl_Backend)), (⟨za0_3, na0_3, fa0_3⟩ : (Sl S_impl_Vip))⟩ : S_laws_Config), enc_impl_Config, fun _ => true⟩ | _ => none
theorem hpc_a5 (fu : Nat) : HpcOk E Tryz.prog (pcf_a5 fu) := by
 intro f xs o h
 unfold pcf_a5 at h
 split at h
 ·exact good_a1 fu xs o h
 ·exact good_a4 fu xs o h
 ·cases h
theorem goodv_a5 (fu : Nat) (a_0 : S_laws_Config) (y : S_impl_Config) (hy : F_laws_toConfig fu a_0 = some y) : Vm.Good E Tryz.prog 34 [(.agg [(ii a_0.Version), (.rs a_0.Backends.z .impl_Backend a_0.Backends.n a_0.Backends.f), (.rs a_0.Vips.z .impl_Vip a_0.Vips.n a_0.Vips.f)])] (enc_impl_Config y) :=
 fun_good E_ok (pc_good (pc := pc_a5 fu) (hpc_a5 fu) hpx0) (fn := Tryz.f34) (by kernel_rfl) (by kernel_rfl) (by kernel_rfl) (lpok_a5 fu) (fun d hd => out_impl_Config_enc d _ hd) ((ev_a5 fu a_0).trans hy)
theorem good_a5 (fu : Nat) : GoodS E Tryz.prog 34 (S_a5 fu) := by
 intro xs o h y hy
 unfold S_a5 at h
 split at h
 ·rename_i a0_1 za0_2 na0_2 fa0_2 za0_3 na0_3 fa0_3
  cases h
  exact goodv_a5 fu (⟨a0_1, (⟨za0_2, na0_2, fa0_2⟩ : (Sl S_impl_Backend)), (⟨za0_3, na0_3, fa0_3⟩ : (Sl S_impl_Vip))⟩ : S_laws_Config) y hy
 ·cases h
def F_laws_toWatch (fu : Nat) (a_0 : S_laws_Watch) : Option (S_impl_Watch) :=
 ((F_laws_toConfig fu a_0.Config).bind fun y4 => (some (⟨a_0.Ready, y4⟩ : S_impl_Watch)))
def pcf_a6 (fu f : Nat) (xs : List (D RT den)) : Option (Out RT den) := match f with | 34 => S_a5 fu xs | _ => none
def pc_a6 (fu : Nat) : Pc RT den := ⟨pcf_a6 fu, fun _ => false, fun _ => false, pcd0, pcd0, pcd0, pcx0⟩
def msk_a6 (b : Nat) : List Nat := []
def lp_a6 (fu : Nat) : Lp RT den (S_impl_Watch) := ⟨fun b s k => none, inl0⟩
theorem ev_a6 (fu : Nat) (a_0 : S_laws_Watch) : evFun E (pc_a6 fu) msk_a6 (lp_a6 fu) out_impl_Watch 16 [(.agg [(.bool a_0.Ready), (ii a_0.Config.Version), (.rs a_0.Config.Backends.z .impl_Backend a_0.Config.Backends.n a_0.Config.Backends.f), (.rs a_0.Config.Vips.z .impl_Vip a_0.Config.Vips.n a_0.Config.Vips.f)])] = F_laws_toWatch fu a_0 := by kernel_rfl
noncomputable def body_a6 : Code := Tryz.f16.body.getD .skip
theorem lpok_a6 (fu : Nat) : LpOk E (pc_a6 fu) 0 msk_a6 (lp_a6 fu) (loops 0 body_a6) := lp_nil (loop_nil (by kernel_rfl)) (by kernel_rfl)
def S_a6 (fu : Nat) (xs : List (D RT den)) : Option (Out RT den) := match xs with | [.agg [.bool a0_1, .int .i64 a0_3, .rs za0_4 .impl_Backend na0_4 fa0_4, .rs za0_5 .impl_Vip na0_5 fa0_5]] => some ⟨S_impl_Watch, F_laws_toWatch fu (⟨a0_1, (⟨a0_3, (⟨za0_4, na0_4, fa0_4⟩ : (Sl S_impl_Backend)), (⟨za0_5, na0_5, fa0_5⟩ : (Sl S_impl_Vip))⟩ : S_laws_Config)⟩ : S_laws_Watch), enc_impl_Watch, fun _ => true⟩ | _ => none
theorem hpc_a6 (fu : Nat) : HpcOk E Tryz.prog (pcf_a6 fu) := by
 intro f xs o h
 unfold pcf_a6 at h
 split at h
 ·exact good_a5 fu xs o h
 ·cases h
theorem goodv_a6 (fu : Nat) (a_0 : S_laws_Watch) (y : S_impl_Watch) (hy : F_laws_toWatch fu a_0 = some y) : Vm.Good E Tryz.prog 16 [(.agg [(.bool a_0.Ready), (ii a_0.Config.Version), (.rs a_0.Config.Backends.z .impl_Backend a_0.Config.Backends.n a_0.Config.Backends.f), (.rs a_0.Config.Vips.z .impl_Vip a_0.Config.Vips.n a_0.Config.Vips.f)])] (enc_impl_Watch y) :=
 fun_good E_ok (pc_good (pc := pc_a6 fu) (hpc_a6 fu) hpx0) (fn := Tryz.f16) (by kernel_rfl) (by kernel_rfl) (by kernel_rfl) (lpok_a6 fu) (fun d hd => out_impl_Watch_enc d _ hd) ((ev_a6 fu a_0).trans hy)
theorem good_a6 (fu : Nat) : GoodS E Tryz.prog 16 (S_a6 fu) := by
 intro xs o h y hy
 unfold S_a6 at h
 split at h
 ·rename_i a0_1 a0_3 za0_4 na0_4 fa0_4 za0_5 na0_5 fa0_5
  cases h
  exact goodv_a6 fu (⟨a0_1, (⟨a0_3, (⟨za0_4, na0_4, fa0_4⟩ : (Sl S_impl_Backend)), (⟨za0_5, na0_5, fa0_5⟩ : (Sl S_impl_Vip))⟩ : S_laws_Config)⟩ : S_laws_Watch) y hy
 ·cases h
def F_laws_toInt64SS_B0 {ρ : Type} (fu : Nat) (a0_0 : (Sl (Sl Int))) (out3_1 on0_3 : Nat) (k0 : (Nat → (Sl Int)) → Option ρ) (i4_2 : Int) (of0_4 : (Nat → (Sl Int))) (go : Int → (Nat → (Sl Int)) → Option ρ) : Option ρ :=
 (bif (decide (i4_2 < ((a0_0.n : Nat) : Int))) then ((bif (decide (0 ≤ i4_2) && decide ((Int.toNat i4_2) < a0_0.n)) then some () else none : Option Unit).bind fun _ =>
  ((F_laws_toInt64S fu (a0_0.f (Int.toNat i4_2))).bind fun y14 => ((bif (decide (0 ≤ i4_2) && decide ((Int.toNat i4_2) < out3_1)) then some () else none : Option Unit).bind fun _ =>
  (go (IntKind.wrap .i64 (i4_2 + 1)) (fun j => if j = (Int.toNat i4_2) then y14 else of0_4 j))))) else (k0 of0_4))
def F_laws_toInt64SS (fu : Nat) (a_0 : (Sl (Sl Int))) : Option ((Sl (Sl Int))) :=
 (bif (decide (0 ≤ ((a_0.n : Nat) : Int)) && (decide (((a_0.n : Nat) : Int) = ((a_0.n : Nat) : Int)) && (decide ((24 : Int) * ((a_0.n : Nat) : Int) ≤ 281474976710656) && decide (((a_0.n : Nat) : Int) ≤ 9223372036854775807)))) then
  (L (fun w0 go0 => F_laws_toInt64SS_B0 fu a_0 (Int.toNat ((a_0.n : Nat) : Int)) (Int.toNat ((a_0.n : Nat) : Int)) (fun z15 => (some (⟨none, (Int.toNat ((a_0.n : Nat) : Int)),
  z15⟩ : (Sl (Sl Int))))) w0.1 w0.2 (fun q0 q1 => go0 (q0, q1))) fu ((0, (fun _ => (⟨(some true), 0, (fun _ => dflt .i64)⟩ : (Sl Int)))) : Int × (Nat → (Sl Int)))) else none)
def pcf_a7 (fu f : Nat) (xs : List (D RT den)) : Option (Out RT den) := match f with | 35 => S_a2 fu xs | _ => none
def pc_a7 (fu : Nat) : Pc RT den := ⟨pcf_a7 fu, fun _ => false, fun _ => false, pcd0, pcd0, pcd0, pcx0⟩
def msk_a7 (b : Nat) : List Nat := match b with | 0 => (1 :: 2 :: (rg 5 18 [])) | 100000 => (0 :: 1 :: (rg 4 19 [])) | _ => []
def ps_a7_0 : List (Pat RT) := (.flat (.rs .sl_i64) :: .flat .q :: .flat .q :: .flat (.os 0) :: .flat (.int .i64) :: (fq 18 []))
def os_a7_0 : List (OP RT) := [.row false .sl_i64]
def conv_a7_0 (r : Raw den ps_a7_0 os_a7_0) : ((Sl (Sl Int)) × Nat × Nat) × (Int × (Nat → (Sl Int))) := ((r.1.1, r.1.2.2.2.1, r.2.1.1), (r.1.2.2.2.2.1, r.2.1.2))
def back_a7_0 (c : (Sl (Sl Int)) × Nat × Nat) (w : Int × (Nat → (Sl Int))) : St RT den := ⟨((.rs c.1.z .sl_i64 c.1.n c.1.f) :: .q :: .q :: (.os 0 c.2.1) :: (ii w.1) :: (qs 18 [])), [(.row false .sl_i64 c.2.2 w.2)]⟩
def Bk_a7_0 {ρ : Type} (fu : Nat) (c : (Sl (Sl Int)) × Nat × Nat) (k : Ex → St RT den → Option ρ) (w : Int × (Nat → (Sl Int))) (go : (Int × (Nat → (Sl Int))) → Option ρ) : Option ρ := F_laws_toInt64SS_B0 fu c.1 c.2.1 c.2.2 (fun a0 => k (.exit 0) ⟨(.q :: .q :: .q :: (.os 0 c.2.1) :: (qs 19 [])), [(.row false .sl_i64 c.2.2 a0)]⟩) w.1 w.2 (fun q0 q1 => go (q0, q1))
def lp_a7 (fu : Nat) : Lp RT den ((Sl (Sl Int))) := ⟨fun b s k => match b with | 0 => handle ps_a7_0 os_a7_0 conv_a7_0 (Bk_a7_0 fu) fu s k | _ => none, inl0⟩
theorem ev_a7 (fu : Nat) (a_0 : (Sl (Sl Int))) : evFun E (pc_a7 fu) msk_a7 (lp_a7 fu) out_sl_sl_i64 17 [(.rs a_0.z .sl_i64 a_0.n a_0.f)] = F_laws_toInt64SS fu a_0 := by kernel_rfl
noncomputable def body_a7 : Code := Tryz.f17.body.getD .skip
noncomputable def lc_a7_0 : Code := ((loops 0 body_a7).getD 0 (0, .skip)).2
theorem round_a7_0 (fu : Nat) : RoundOk E (pc_a7 fu) msk_a7 (lp_a7 fu) 0 lc_a7_0 back_a7_0 0 100000 1 (Bk_a7_0 fu) := fun it k c w => by kernel_rfl
theorem lpok_a7_0 (fu : Nat) : LpAt E (pc_a7 fu) msk_a7 (lp_a7 fu) 0 0 100000 0 lc_a7_0 :=
 handle_ok (ps := ps_a7_0) (os := os_a7_0) (conv := conv_a7_0) (B := Bk_a7_0 fu) (fu := fu) back_a7_0 (fun raw => by kernel_rfl) 1 (fun c w => by kernel_rfl) (round_a7_0 fu)
theorem lpok_a7 (fu : Nat) : LpOk E (pc_a7 fu) 0 msk_a7 (lp_a7 fu) (loops 0 body_a7) := lp_nil (loop_all 1 (by kernel_rfl) fun i hi => match i, hi with
 | 0, _ => by
  have h : (loops 0 body_a7).getD 0 (0, .skip) = (0, lc_a7_0) := by kernel_rfl
  rw [h]; exact lpok_a7_0 fu
 | i + 1, hi => absurd hi (by omega)) (by kernel_rfl)
def S_a7 (fu : Nat) (xs : List (D RT den)) : Option (Out RT den) := match xs with | [.rs za0_0 .sl_i64 na0_0 fa0_0] => some ⟨(Sl (Sl Int)), F_laws_toInt64SS fu (⟨za0_0, na0_0, fa0_0⟩ : (Sl (Sl Int))), enc_sl_sl_i64, fun _ => true⟩ | _ => none
theorem hpc_a7 (fu : Nat) : HpcOk E Tryz.prog (pcf_a7 fu) := by
 intro f xs o h
 unfold pcf_a7 at h
 split at h
 ·exact good_a2 fu xs o h
 ·cases h
theorem goodv_a7 (fu : Nat) (a_0 : (Sl (Sl Int))) (y : (Sl (Sl Int))) (hy : F_laws_toInt64SS fu a_0 = some y) : Vm.Good E Tryz.prog 17 [(.rs a_0.z .sl_i64 a_0.n a_0.f)] (enc_sl_sl_i64 y) :=
 fun_good E_ok (pc_good (pc := pc_a7 fu) (hpc_a7 fu) hpx0) (fn := Tryz.f17) (by kernel_rfl) (by kernel_rfl) (by kernel_rfl) (lpok_a7 fu) (fun d hd => out_sl_sl_i64_enc d _ hd) ((ev_a7 fu a_0).trans hy)
theorem good_a7 (fu : Nat) : GoodS E Tryz.prog 17 (S_a7 fu) := by
 intro xs o h y hy
 unfold S_a7 at h
 split at h
 ·rename_i za0_0 na0_0 fa0_0
  cases h
  exact goodv_a7 fu (⟨za0_0, na0_0, fa0_0⟩ : (Sl (Sl Int))) y hy
 ·cases h
def F_laws_toFlow (fu : Nat) (a_0 : S_impl_Flow) : Option (S_impl_Flow) :=
 (some a_0)
def pc_a8 (fu : Nat) : Pc RT den := ⟨pcf0, fun _ => false, fun _ => false, pcd0, pcd0, pcd0, pcx0⟩
def msk_a8 (b : Nat) : List Nat := []
def lp_a8 (fu : Nat) : Lp RT den (S_impl_Flow) := ⟨fun b s k => none, inl0⟩
theorem ev_a8 (fu : Nat) (a_0 : S_impl_Flow) : evFun E (pc_a8 fu) msk_a8 (lp_a8 fu) out_impl_Flow 65 [(.agg [(ii a_0.From), (ii a_0.To), (ii a_0.Proto), (ii a_0.FromP), (ii a_0.ToP)])] = F_laws_toFlow fu a_0 := by kernel_rfl
noncomputable def body_a8 : Code := Tryz.f65.body.getD .skip
theorem lpok_a8 (fu : Nat) : LpOk E (pc_a8 fu) 0 msk_a8 (lp_a8 fu) (loops 0 body_a8) := lp_nil (loop_nil (by kernel_rfl)) (by kernel_rfl)
def S_a8 (fu : Nat) (xs : List (D RT den)) : Option (Out RT den) := match xs with | [.agg [.int .i64 a0_1, .int .i64 a0_2, .int .i64 a0_3, .int .i64 a0_4, .int .i64 a0_5]] => some ⟨S_impl_Flow, F_laws_toFlow fu (⟨a0_1, a0_2, a0_3, a0_4, a0_5⟩ : S_impl_Flow), enc_impl_Flow, fun _ => true⟩ | _ => none
theorem goodv_a8 (fu : Nat) (a_0 y : S_impl_Flow) (hy : F_laws_toFlow fu a_0 = some y) : Vm.Good E Tryz.prog 65 [(.agg [(ii a_0.From), (ii a_0.To), (ii a_0.Proto), (ii a_0.FromP), (ii a_0.ToP)])] (enc_impl_Flow y) :=
 fun_good E_ok (pc_good (pc := pc_a8 fu) hpc0 hpx0) (fn := Tryz.f65) (by kernel_rfl) (by kernel_rfl) (by kernel_rfl) (lpok_a8 fu) (fun d hd => out_impl_Flow_enc d _ hd) ((ev_a8 fu a_0).trans hy)
theorem good_a8 (fu : Nat) : GoodS E Tryz.prog 65 (S_a8 fu) := by
 intro xs o h y hy
 unfold S_a8 at h
 split at h
 ·rename_i a0_1 a0_2 a0_3 a0_4 a0_5
  cases h
  exact goodv_a8 fu (⟨a0_1, a0_2, a0_3, a0_4, a0_5⟩ : S_impl_Flow) y hy
 ·cases h
def F_laws_toHeld (fu : Nat) (a_0 : S_laws_Held) : Option (S_impl_Held) :=
 ((F_laws_toFlow fu a_0.Flow).bind fun y19 => (some (⟨y19, a_0.Name, a_0.Seen⟩ : S_impl_Held)))
def pcf_a9 (fu f : Nat) (xs : List (D RT den)) : Option (Out RT den) := match f with | 65 => S_a8 fu xs | _ => none
def pc_a9 (fu : Nat) : Pc RT den := ⟨pcf_a9 fu, fun _ => false, fun _ => false, pcd0, pcd0, pcd0, pcx0⟩
def msk_a9 (b : Nat) : List Nat := []
def lp_a9 (fu : Nat) : Lp RT den (S_impl_Held) := ⟨fun b s k => none, inl0⟩
theorem ev_a9 (fu : Nat) (a_0 : S_laws_Held) : evFun E (pc_a9 fu) msk_a9 (lp_a9 fu) out_impl_Held 36 [(.agg [(ii a_0.Flow.From), (ii a_0.Flow.To), (ii a_0.Flow.Proto), (ii a_0.Flow.FromP), (ii a_0.Flow.ToP), (ii a_0.Name), (ii a_0.Seen)])] = F_laws_toHeld fu a_0 := by kernel_rfl
noncomputable def body_a9 : Code := Tryz.f36.body.getD .skip
theorem lpok_a9 (fu : Nat) : LpOk E (pc_a9 fu) 0 msk_a9 (lp_a9 fu) (loops 0 body_a9) := lp_nil (loop_nil (by kernel_rfl)) (by kernel_rfl)
def S_a9 (fu : Nat) (xs : List (D RT den)) : Option (Out RT den) := match xs with | [.agg [.int .i64 a0_2, .int .i64 a0_3, .int .i64 a0_4, .int .i64 a0_5, .int .i64 a0_6, .int .i64 a0_7, .int .i64 a0_8]] => some ⟨S_impl_Held, F_laws_toHeld fu (⟨(⟨a0_2, a0_3, a0_4, a0_5, a0_6⟩ : S_impl_Flow), a0_7, a0_8⟩ : S_laws_Held), enc_impl_Held, fun _ => true⟩ | _ => none
theorem hpc_a9 (fu : Nat) : HpcOk E Tryz.prog (pcf_a9 fu) := by
 intro f xs o h
 unfold pcf_a9 at h
 split at h
 ·exact good_a8 fu xs o h
 ·cases h
theorem goodv_a9 (fu : Nat) (a_0 : S_laws_Held) (y : S_impl_Held) (hy : F_laws_toHeld fu a_0 = some y) : Vm.Good E Tryz.prog 36 [(.agg [(ii a_0.Flow.From), (ii a_0.Flow.To), (ii a_0.Flow.Proto), (ii a_0.Flow.FromP), (ii a_0.Flow.ToP), (ii a_0.Name), (ii a_0.Seen)])] (enc_impl_Held y) :=
 fun_good E_ok (pc_good (pc := pc_a9 fu) (hpc_a9 fu) hpx0) (fn := Tryz.f36) (by kernel_rfl) (by kernel_rfl) (by kernel_rfl) (lpok_a9 fu) (fun d hd => out_impl_Held_enc d _ hd) ((ev_a9 fu a_0).trans hy)
theorem good_a9 (fu : Nat) : GoodS E Tryz.prog 36 (S_a9 fu) := by
 intro xs o h y hy
 unfold S_a9 at h
 split at h
 ·rename_i a0_2 a0_3 a0_4 a0_5 a0_6 a0_7 a0_8
  cases h
  exact goodv_a9 fu (⟨(⟨a0_2, a0_3, a0_4, a0_5, a0_6⟩ : S_impl_Flow), a0_7, a0_8⟩ : S_laws_Held) y hy
 ·cases h
def F_laws_toHeldS_B0 {ρ : Type} (fu : Nat) (a0_0 : (Sl S_laws_Held)) (out3_1 on0_3 : Nat) (k0 : (Nat → S_impl_Held) → Option ρ) (i4_2 : Int) (of0_4 : (Nat → S_impl_Held)) (go : Int → (Nat → S_impl_Held) → Option ρ) : Option ρ :=
 (bif (decide (i4_2 < ((a0_0.n : Nat) : Int))) then ((bif (decide (0 ≤ i4_2) && decide ((Int.toNat i4_2) < a0_0.n)) then some () else none : Option Unit).bind fun _ =>
  ((F_laws_toHeld fu (a0_0.f (Int.toNat i4_2))).bind fun y17 => ((bif (decide (0 ≤ i4_2) && decide ((Int.toNat i4_2) < out3_1)) then some () else none : Option Unit).bind fun _ =>
  (go (IntKind.wrap .i64 (i4_2 + 1)) (fun j => if j = (Int.toNat i4_2) then y17 else of0_4 j))))) else (k0 of0_4))
def F_laws_toHeldS (fu : Nat) (a_0 : (Sl S_laws_Held)) : Option ((Sl S_impl_Held)) :=
 (bif (decide (0 ≤ ((a_0.n : Nat) : Int)) && (decide (((a_0.n : Nat) : Int) = ((a_0.n : Nat) : Int)) && (decide ((56 : Int) * ((a_0.n : Nat) : Int) ≤ 281474976710656) && decide (((a_0.n : Nat) : Int) ≤ 9223372036854775807)))) then
  (L (fun w0 go0 => F_laws_toHeldS_B0 fu a_0 (Int.toNat ((a_0.n : Nat) : Int)) (Int.toNat ((a_0.n : Nat) : Int)) (fun z18 => (some (⟨none, (Int.toNat ((a_0.n : Nat) : Int)), z18⟩ : (Sl S_impl_Held)))) w0.1 w0.2 (fun q0 q1 =>
  go0 (q0, q1))) fu ((0, (fun _ => (⟨(⟨0, 0, 0, 0, 0⟩ : S_impl_Flow), 0, 0⟩ : S_impl_Held))) : Int × (Nat → S_impl_Held))) else none)
def pcf_a10 (fu f : Nat) (xs : List (D RT den)) : Option (Out RT den) := match f with | 36 => S_a9 fu xs | _ => none
def pc_a10 (fu : Nat) : Pc RT den := ⟨pcf_a10 fu, fun _ => false, fun _ => false, pcd0, pcd0, pcd0, pcx0⟩
def msk_a10 (b : Nat) : List Nat := match b with | 0 => (1 :: 2 :: (rg 5 18 [])) | 100000 => (0 :: 1 :: (rg 4 19 [])) | _ => []
def ps_a10_0 : List (Pat RT) := (.flat (.rs .laws_Held) :: .flat .q :: .flat .q :: .flat (.os 0) :: .flat (.int .i64) :: (fq 18 []))
def os_a10_0 : List (OP RT) := [.row false .impl_Held]
def conv_a10_0 (r : Raw den ps_a10_0 os_a10_0) : ((Sl S_laws_Held) × Nat × Nat) × (Int × (Nat → S_impl_Held)) := ((r.1.1, r.1.2.2.2.1, r.2.1.1), (r.1.2.2.2.2.1, r.2.1.2))
def back_a10_0 (c : (Sl S_laws_Held) × Nat × Nat) (w : Int × (Nat → S_impl_Held)) : St RT den := ⟨((.rs c.1.z .laws_Held c.1.n c.1.f) :: .q :: .q :: (.os 0 c.2.1) :: (ii w.1) :: (qs 18 [])), [(.row false .impl_Held c.2.2 w.2)]⟩
def Bk_a10_0 {ρ : Type} (fu : Nat) (c : (Sl S_laws_Held) × Nat × Nat) (k : Ex → St RT den → Option ρ) (w : Int × (Nat → S_impl_Held)) (go : (Int × (Nat → S_impl_Held)) → Option ρ) : Option ρ := F_laws_toHeldS_B0 fu c.1 c.2.1 c.2.2 (fun a0 => k (.exit 0) ⟨(.q :: .q :: .q :: (.os 0 c.2.1) :: (qs 19 [])), [(.row false .impl_Held c.2.2 a0)]⟩) w.1 w.2 (fun q0 q1 => go (q0, q1))
def lp_a10 (fu : Nat) : Lp RT den ((Sl S_impl_Held)) := ⟨fun b s k => match b with | 0 => handle ps_a10_0 os_a10_0 conv_a10_0 (Bk_a10_0 fu) fu s k | _ => none, inl0⟩
theorem ev_a10 (fu : Nat) (a_0 : (Sl S_laws_Held)) : evFun E (pc_a10 fu) msk_a10 (lp_a10 fu) out_sl_impl_Held 18 [(.rs a_0.z .laws_Held a_0.n a_0.f)] = F_laws_toHeldS fu a_0 := by kernel_rfl
noncomputable def body_a10 : Code := Tryz.f18.body.getD .skip
noncomputable def lc_a10_0 : Code := ((loops 0 body_a10).getD 0 (0, .skip)).2
theorem round_a10_0 (fu : Nat) : RoundOk E (pc_a10 fu) msk_a10 (lp_a10 fu) 0 lc_a10_0 back_a10_0 0 100000 1 (Bk_a10_0 fu) := fun it k c w => by kernel_rfl
theorem lpok_a10_0 (fu : Nat) : LpAt E (pc_a10 fu) msk_a10 (lp_a10 fu) 0 0 100000 0 lc_a10_0 :=
 handle_ok (ps := ps_a10_0) (os := os_a10_0) (conv := conv_a10_0) (B := Bk_a10_0 fu) (fu := fu) back_a10_0 (fun raw => by kernel_rfl) 1 (fun c w => by kernel_rfl) (round_a10_0 fu)
theorem lpok_a10 (fu : Nat) : LpOk E (pc_a10 fu) 0 msk_a10 (lp_a10 fu) (loops 0 body_a10) := lp_nil (loop_all 1 (by kernel_rfl) fun i hi => match i, hi with
 | 0, _ => by
  have h : (loops 0 body_a10).getD 0 (0, .skip) = (0, lc_a10_0) := by kernel_rfl
  rw [h]; exact lpok_a10_0 fu
 | i + 1, hi => absurd hi (by omega)) (by kernel_rfl)
def S_a10 (fu : Nat) (xs : List (D RT den)) : Option (Out RT den) := match xs with | [.rs za0_0 .laws_Held na0_0 fa0_0] => some ⟨(Sl S_impl_Held), F_laws_toHeldS fu (⟨za0_0, na0_0, fa0_0⟩ : (Sl S_laws_Held)), enc_sl_impl_Held, fun _ => true⟩ | _ => none
theorem hpc_a10 (fu : Nat) : HpcOk E Tryz.prog (pcf_a10 fu) := by
 intro f xs o h
 unfold pcf_a10 at h
 split at h
 ·exact good_a9 fu xs o h
 ·cases h
theorem goodv_a10 (fu : Nat) (a_0 : (Sl S_laws_Held)) (y : (Sl S_impl_Held)) (hy : F_laws_toHeldS fu a_0 = some y) : Vm.Good E Tryz.prog 18 [(.rs a_0.z .laws_Held a_0.n a_0.f)] (enc_sl_impl_Held y) :=
 fun_good E_ok (pc_good (pc := pc_a10 fu) (hpc_a10 fu) hpx0) (fn := Tryz.f18) (by kernel_rfl) (by kernel_rfl) (by kernel_rfl) (lpok_a10 fu) (fun d hd => out_sl_impl_Held_enc d _ hd) ((ev_a10 fu a_0).trans hy)
theorem good_a10 (fu : Nat) : GoodS E Tryz.prog 18 (S_a10 fu) := by
 intro xs o h y hy
 unfold S_a10 at h
 split at h
 ·rename_i za0_0 na0_0 fa0_0
  cases h
  exact goodv_a10 fu (⟨za0_0, na0_0, fa0_0⟩ : (Sl S_laws_Held)) y hy
 ·cases h
def F_laws_toMux (fu : Nat) (a_0 : S_laws_Mux) : Option (S_impl_Mux) :=
 ((F_laws_toWatch fu a_0.Watch).bind fun y3 => ((F_laws_toInt64SS fu a_0.Tables).bind fun y13 => ((F_laws_toHeldS fu a_0.Cache).bind fun y16 => (some (⟨a_0.Address, a_0.Now, y3,
  y13, y16⟩ : S_impl_Mux)))))
def pcf_a11 (fu f : Nat) (xs : List (D RT den)) : Option (Out RT den) := match f with | 16 => S_a6 fu xs | 17 => S_a7 fu xs | 18 => S_a10 fu xs | _ => none
def pc_a11 (fu : Nat) : Pc RT den := ⟨pcf_a11 fu, fun _ => false, fun _ => false, pcd0, pcd0, pcd0, pcx0⟩
def msk_a11 (b : Nat) : List Nat := []
def lp_a11 (fu : Nat) : Lp RT den (S_impl_Mux) := ⟨fun b s k => none, inl0⟩
theorem ev_a11 (fu : Nat) (a_0 : S_laws_Mux) : evFun E (pc_a11 fu) msk_a11 (lp_a11 fu) out_impl_Mux 6 [(.agg [(ii a_0.Address), (ii a_0.Now), (.bool a_0.Watch.Ready), (ii a_0.Watch.Config.Version), (.rs a_0.Watch.Config.Backends.z .impl_Backend a_0.Watch.Config.Backends.n a_0.Watch.Config.Backends.f), (.rs a_0.Watch.Config.Vips.z .impl_Vip a_0.Watch.Config.Vips.n a_0.Watch.Config.Vips.f), (.rs a_0.Tables.z .sl_i64 a_0.Tables.n a_0.Tables.f), (.rs a_0.Cache.z .laws_Held a_0.Cache.n a_0.Cache.f)])] = F_laws_toMux fu a_0 := by kernel_rfl
noncomputable def body_a11 : Code := Tryz.f6.body.getD .skip
theorem lpok_a11 (fu : Nat) : LpOk E (pc_a11 fu) 0 msk_a11 (lp_a11 fu) (loops 0 body_a11) := lp_nil (loop_nil (by kernel_rfl)) (by kernel_rfl)
def S_a11 (fu : Nat) (xs : List (D RT den)) : Option (Out RT den) := match xs with | [.agg [.int .i64 a0_1, .int .i64 a0_2, .bool a0_4, .int .i64 a0_6, .rs za0_7 .impl_Backend na0_7 fa0_7, .rs za0_8 .impl_Vip na0_8 fa0_8, .rs za0_9 .sl_i64 na0_9 fa0_9, .rs za0_10 .laws_Held na0_10 fa0_10]] => some ⟨S_impl_Mux, F_laws_toMux fu (⟨a0_1, a0_2, (⟨a0_4, (⟨a0_6, (⟨za0_7, na0_7, fa0_7⟩ : (Sl S_impl_Backend)), (⟨za0_8, na0_8, fa0_8⟩ : (Sl S_impl_Vip))⟩ : S_laws_Config)⟩ : S_laws_Watch), (⟨za0_9, na0_9, fa0_9⟩ : (Sl (Sl Int))), (⟨za0_10, na0_10, fa0_10⟩ : (Sl S_laws_Held))⟩ : S_laws_Mux), enc_impl_Mux, fun _ => true⟩ | _ => none
theorem hpc_a11 (fu : Nat) : HpcOk E Tryz.prog (pcf_a11 fu) := by
 intro f xs o h
 unfold pcf_a11 at h
 split at h
 ·exact good_a6 fu xs o h
 ·exact good_a7 fu xs o h
 ·exact good_a10 fu xs o h
 ·cases h
theorem goodv_a11 (fu : Nat) (a_0 : S_laws_Mux) (y : S_impl_Mux) (hy : F_laws_toMux fu a_0 = some y) : Vm.Good E Tryz.prog 6 [(.agg [(ii a_0.Address), (ii a_0.Now), (.bool a_0.Watch.Ready), (ii a_0.Watch.Config.Version), (.rs a_0.Watch.Config.Backends.z .impl_Backend a_0.Watch.Config.Backends.n a_0.Watch.Config.Backends.f), (.rs a_0.Watch.Config.Vips.z .impl_Vip a_0.Watch.Config.Vips.n a_0.Watch.Config.Vips.f), (.rs a_0.Tables.z .sl_i64 a_0.Tables.n a_0.Tables.f), (.rs a_0.Cache.z .laws_Held a_0.Cache.n a_0.Cache.f)])] (enc_impl_Mux y) :=
 fun_good E_ok (pc_good (pc := pc_a11 fu) (hpc_a11 fu) hpx0) (fn := Tryz.f6) (by kernel_rfl) (by kernel_rfl) (by kernel_rfl) (lpok_a11 fu) (fun d hd => out_impl_Mux_enc d _ hd) ((ev_a11 fu a_0).trans hy)
theorem good_a11 (fu : Nat) : GoodS E Tryz.prog 6 (S_a11 fu) := by
 intro xs o h y hy
 unfold S_a11 at h
 split at h
 ·rename_i a0_1 a0_2 a0_4 a0_6 za0_7 na0_7 fa0_7 za0_8 na0_8 fa0_8 za0_9 na0_9 fa0_9 za0_10 na0_10 fa0_10
  cases h
  exact goodv_a11 fu (⟨a0_1, a0_2, (⟨a0_4, (⟨a0_6, (⟨za0_7, na0_7, fa0_7⟩ : (Sl S_impl_Backend)), (⟨za0_8, na0_8, fa0_8⟩ : (Sl S_impl_Vip))⟩ : S_laws_Config)⟩ : S_laws_Watch), (⟨za0_9, na0_9, fa0_9⟩ : (Sl (Sl Int))), (⟨za0_10, na0_10, fa0_10⟩ : (Sl S_laws_Held))⟩ : S_laws_Mux) y hy
 ·cases h
def F_laws_szBackendS (fu : Nat) (a_0 : (Sl S_impl_Backend)) (left_1 : Int) : Option (Int) :=
 (bif (decide ((IntKind.wrap .i64 (left_1 - ((a_0.n : Nat) : Int))) < 0)) then (some (-1)) else (some (IntKind.wrap .i64 (left_1 - ((a_0.n : Nat) : Int)))))
def pc_a12 (fu : Nat) : Pc RT den := ⟨pcf0, fun _ => false, fun _ => false, pcd0, pcd0, pcd0, pcx0⟩
def msk_a12 (b : Nat) : List Nat := []
def lp_a12 (fu : Nat) : Lp RT den (Int) := ⟨fun b s k => none, inl0⟩
theorem ev_a12 (fu : Nat) (a_0 : (Sl S_impl_Backend)) (left_1 : Int) : evFun E (pc_a12 fu) msk_a12 (lp_a12 fu) out_i64 53 [(.rs a_0.z .impl_Backend a_0.n a_0.f), (ii left_1)] = F_laws_szBackendS fu a_0 left_1 := by kernel_rfl
noncomputable def body_a12 : Code := Tryz.f53.body.getD .skip
theorem lpok_a12 (fu : Nat) : LpOk E (pc_a12 fu) 0 msk_a12 (lp_a12 fu) (loops 0 body_a12) := lp_nil (loop_nil (by kernel_rfl)) (by kernel_rfl)
def S_a12 (fu : Nat) (xs : List (D RT den)) : Option (Out RT den) := match xs with | [.rs za0_0 .impl_Backend na0_0 fa0_0, .int .i64 a1_0] => some ⟨Int, F_laws_szBackendS fu (⟨za0_0, na0_0, fa0_0⟩ : (Sl S_impl_Backend)) a1_0, enc_i64, fun _ => true⟩ | _ => none
theorem goodv_a12 (fu : Nat) (a_0 : (Sl S_impl_Backend)) (left_1 y : Int) (hy : F_laws_szBackendS fu a_0 left_1 = some y) : Vm.Good E Tryz.prog 53 [(.rs a_0.z .impl_Backend a_0.n a_0.f), (ii left_1)] (enc_i64 y) :=
 fun_good E_ok (pc_good (pc := pc_a12 fu) hpc0 hpx0) (fn := Tryz.f53) (by kernel_rfl) (by kernel_rfl) (by kernel_rfl) (lpok_a12 fu) (fun d hd => out_i64_enc d _ hd) ((ev_a12 fu a_0 left_1).trans hy)
theorem good_a12 (fu : Nat) : GoodS E Tryz.prog 53 (S_a12 fu) := by
 intro xs o h y hy
 unfold S_a12 at h
 split at h
 ·rename_i za0_0 na0_0 fa0_0 a1_0
  cases h
  exact goodv_a12 fu (⟨za0_0, na0_0, fa0_0⟩ : (Sl S_impl_Backend)) a1_0 y hy
 ·cases h
def F_laws_szInt64S (fu : Nat) (a_0 : (Sl Int)) (left_1 : Int) : Option (Int) :=
 (bif (decide ((IntKind.wrap .i64 (left_1 - ((a_0.n : Nat) : Int))) < 0)) then (some (-1)) else (some (IntKind.wrap .i64 (left_1 - ((a_0.n : Nat) : Int)))))
def pc_a13 (fu : Nat) : Pc RT den := ⟨pcf0, fun _ => false, fun _ => false, pcd0, pcd0, pcd0, pcx0⟩
def msk_a13 (b : Nat) : List Nat := []
def lp_a13 (fu : Nat) : Lp RT den (Int) := ⟨fun b s k => none, inl0⟩
theorem ev_a13 (fu : Nat) (a_0 : (Sl Int)) (left_1 : Int) : evFun E (pc_a13 fu) msk_a13 (lp_a13 fu) out_i64 25 [(.rs a_0.z .i64 a_0.n a_0.f), (ii left_1)] = F_laws_szInt64S fu a_0 left_1 := by kernel_rfl
noncomputable def body_a13 : Code := Tryz.f25.body.getD .skip
theorem lpok_a13 (fu : Nat) : LpOk E (pc_a13 fu) 0 msk_a13 (lp_a13 fu) (loops 0 body_a13) := lp_nil (loop_nil (by kernel_rfl)) (by kernel_rfl)
def S_a13 (fu : Nat) (xs : List (D RT den)) : Option (Out RT den) := match xs with | [.rs za0_0 .i64 na0_0 fa0_0, .int .i64 a1_0] => some ⟨Int, F_laws_szInt64S fu (⟨za0_0, na0_0, fa0_0⟩ : (Sl Int)) a1_0, enc_i64, fun _ => true⟩ | _ => none
theorem goodv_a13 (fu : Nat) (a_0 : (Sl Int)) (left_1 y : Int) (hy : F_laws_szInt64S fu a_0 left_1 = some y) : Vm.Good E Tryz.prog 25 [(.rs a_0.z .i64 a_0.n a_0.f), (ii left_1)] (enc_i64 y) :=
 fun_good E_ok (pc_good (pc := pc_a13 fu) hpc0 hpx0) (fn := Tryz.f25) (by kernel_rfl) (by kernel_rfl) (by kernel_rfl) (lpok_a13 fu) (fun d hd => out_i64_enc d _ hd) ((ev_a13 fu a_0 left_1).trans hy)
theorem good_a13 (fu : Nat) : GoodS E Tryz.prog 25 (S_a13 fu) := by
 intro xs o h y hy
 unfold S_a13 at h
 split at h
 ·rename_i za0_0 na0_0 fa0_0 a1_0
  cases h
  exact goodv_a13 fu (⟨za0_0, na0_0, fa0_0⟩ : (Sl Int)) a1_0 y hy
 ·cases h
def F_laws_szVip (fu : Nat) (a_0 : S_impl_Vip) (left_1 : Int) : Option (Int) :=
 ((F_laws_szInt64S fu a_0.Names left_1).bind fun y35 => (bif (decide (y35 < 0)) then (some (-1)) else (some y35)))
def pcf_a14 (fu f : Nat) (xs : List (D RT den)) : Option (Out RT den) := match f with | 25 => S_a13 fu xs | _ => none
def pc_a14 (fu : Nat) : Pc RT den := ⟨pcf_a14 fu, fun _ => false, fun _ => false, pcd0, pcd0, pcd0, pcx0⟩
def msk_a14 (b : Nat) : List Nat := []
def lp_a14 (fu : Nat) : Lp RT den (Int) := ⟨fun b s k => none, inl0⟩
theorem ev_a14 (fu : Nat) (a_0 : S_impl_Vip) (left_1 : Int) : evFun E (pc_a14 fu) msk_a14 (lp_a14 fu) out_i64 79 [(.agg [(ii a_0.Address), (ii a_0.Port), (ii a_0.Proto), (.rs a_0.Names.z .i64 a_0.Names.n a_0.Names.f)]), (ii left_1)] = F_laws_szVip fu a_0 left_1 := by kernel_rfl
noncomputable def body_a14 : Code := Tryz.f79.body.getD .skip
theorem lpok_a14 (fu : Nat) : LpOk E (pc_a14 fu) 0 msk_a14 (lp_a14 fu) (loops 0 body_a14) := lp_nil (loop_nil (by kernel_rfl)) (by kernel_rfl)
def S_a14 (fu : Nat) (xs : List (D RT den)) : Option (Out RT den) := match xs with | [.agg [.int .i64 a0_1, .int .i64 a0_2, .int .i64 a0_3, .rs za0_4 .i64 na0_4 fa0_4], .int .i64 a1_0] => some ⟨Int, F_laws_szVip fu (⟨a0_1, a0_2, a0_3, (⟨za0_4, na0_4, fa0_4⟩ : (Sl Int))⟩ : S_impl_Vip) a1_0, enc_i64, fun _ => true⟩ | _ => none
theorem hpc_a14 (fu : Nat) : HpcOk E Tryz.prog (pcf_a14 fu) := by
 intro f xs o h
 unfold pcf_a14 at h
 split at h
 ·exact good_a13 fu xs o h
 ·cases h
theorem goodv_a14 (fu : Nat) (a_0 : S_impl_Vip) (left_1 y : Int) (hy : F_laws_szVip fu a_0 left_1 = some y) : Vm.Good E Tryz.prog 79 [(.agg [(ii a_0.Address), (ii a_0.Port), (ii a_0.Proto), (.rs a_0.Names.z .i64 a_0.Names.n a_0.Names.f)]), (ii left_1)] (enc_i64 y) :=
 fun_good E_ok (pc_good (pc := pc_a14 fu) (hpc_a14 fu) hpx0) (fn := Tryz.f79) (by kernel_rfl) (by kernel_rfl) (by kernel_rfl) (lpok_a14 fu) (fun d hd => out_i64_enc d _ hd) ((ev_a14 fu a_0 left_1).trans hy)
theorem good_a14 (fu : Nat) : GoodS E Tryz.prog 79 (S_a14 fu) := by
 intro xs o h y hy
 unfold S_a14 at h
 split at h
 ·rename_i a0_1 a0_2 a0_3 za0_4 na0_4 fa0_4 a1_0
  cases h
  exact goodv_a14 fu (⟨a0_1, a0_2, a0_3, (⟨za0_4, na0_4, fa0_4⟩ : (Sl Int))⟩ : S_impl_Vip) a1_0 y hy
 ·cases h
def F_laws_szVipS_B0 {ρ : Type} (fu : Nat) (a0_0 : (Sl S_impl_Vip)) (k0 : Int → Option ρ) (k1 : Int → Option ρ) (left1_1 i5_2 : Int) (go : Int → Int → Option ρ) : Option ρ :=
 (bif (decide (i5_2 < ((a0_0.n : Nat) : Int))) then ((bif (decide (0 ≤ i5_2) && decide ((Int.toNat i5_2) < a0_0.n)) then some () else none : Option Unit).bind fun _ =>
  ((F_laws_szVip fu (a0_0.f (Int.toNat i5_2)) left1_1).bind fun y32 => (bif (decide (y32 < 0)) then (k0 y32) else (go y32 (IntKind.wrap .i64 (i5_2 + 1)))))) else (k1 left1_1))
def F_laws_szVipS (fu : Nat) (a_0 : (Sl S_impl_Vip)) (left_1 : Int) : Option (Int) :=
 (bif (decide ((IntKind.wrap .i64 (left_1 - ((a_0.n : Nat) : Int))) < 0)) then (some (-1)) else (L (fun w0 go0 => F_laws_szVipS_B0 fu a_0 (fun z33 => (some (-1))) (fun z34 => (some z34)) w0.1 w0.2 (fun q0 q1 =>
  go0 (q0, q1))) fu (((IntKind.wrap .i64 (left_1 - ((a_0.n : Nat) : Int))), 0) : Int × Int)))
def pcf_a15 (fu f : Nat) (xs : List (D RT den)) : Option (Out RT den) := match f with | 79 => S_a14 fu xs | _ => none
def pc_a15 (fu : Nat) : Pc RT den := ⟨pcf_a15 fu, fun _ => false, fun _ => false, pcd0, pcd0, pcd0, pcx0⟩
def msk_a15 (b : Nat) : List Nat := match b with | 0 => (2 :: 3 :: 4 :: (rg 6 21 [])) | 100000 => (0 :: 2 :: 3 :: (rg 5 22 [])) | _ => []
def ps_a15_0 : List (Pat RT) := (.flat (.rs .impl_Vip) :: .flat (.int .i64) :: .flat .q :: .flat .q :: .flat .q :: .flat (.int .i64) :: (fq 21 []))
def os_a15_0 : List (OP RT) := []
def conv_a15_0 (r : Raw den ps_a15_0 os_a15_0) : ((Sl S_impl_Vip)) × (Int × Int) := (r.1.1, (r.1.2.1, (e5 r.1).1))
def back_a15_0 (c : (Sl S_impl_Vip)) (w : Int × Int) : St RT den := ⟨((.rs c.z .impl_Vip c.n c.f) :: (ii w.1) :: .q :: .q :: .q :: (ii w.2) :: (qs 21 [])), []⟩
def Bk_a15_0 {ρ : Type} (fu : Nat) (c : (Sl S_impl_Vip)) (k : Ex → St RT den → Option ρ) (w : Int × Int) (go : (Int × Int) → Option ρ) : Option ρ := F_laws_szVipS_B0 fu c (fun a0 => k .ret ⟨(.q :: (ii a0) :: .q :: .q :: (ii (-1)) :: (qs 22 [])), []⟩) (fun a0 => k (.exit 0) ⟨(.q :: (ii a0) :: (qs 25 [])), []⟩) w.1 w.2 (fun q0 q1 => go (q0, q1))
def lp_a15 (fu : Nat) : Lp RT den (Int) := ⟨fun b s k => match b with | 0 => handle ps_a15_0 os_a15_0 conv_a15_0 (Bk_a15_0 fu) fu s k | _ => none, inl0⟩
theorem ev_a15 (fu : Nat) (a_0 : (Sl S_impl_Vip)) (left_1 : Int) : evFun E (pc_a15 fu) msk_a15 (lp_a15 fu) out_i64 54 [(.rs a_0.z .impl_Vip a_0.n a_0.f), (ii left_1)] = F_laws_szVipS fu a_0 left_1 := by kernel_rfl
noncomputable def body_a15 : Code := Tryz.f54.body.getD .skip
noncomputable def lc_a15_0 : Code := ((loops 0 body_a15).getD 0 (0, .skip)).2
theorem round_a15_0 (fu : Nat) : RoundOk E (pc_a15 fu) msk_a15 (lp_a15 fu) 0 lc_a15_0 back_a15_0 0 100000 0 (Bk_a15_0 fu) := fun it k c w => by kernel_rfl
theorem lpok_a15_0 (fu : Nat) : LpAt E (pc_a15 fu) msk_a15 (lp_a15 fu) 0 0 100000 0 lc_a15_0 :=
 handle_ok (ps := ps_a15_0) (os := os_a15_0) (conv := conv_a15_0) (B := Bk_a15_0 fu) (fu := fu) back_a15_0 (fun raw => by kernel_rfl) 0 (fun c w => by kernel_rfl) (round_a15_0 fu)
theorem lpok_a15 (fu : Nat) : LpOk E (pc_a15 fu) 0 msk_a15 (lp_a15 fu) (loops 0 body_a15) := lp_nil (loop_all 1 (by kernel_rfl) fun i hi => match i, hi with
 | 0, _ => by
  have h : (loops 0 body_a15).getD 0 (0, .skip) = (0, lc_a15_0) := by kernel_rfl
  rw [h]; exact lpok_a15_0 fu
 | i + 1, hi => absurd hi (by omega)) (by kernel_rfl)
def S_a15 (fu : Nat) (xs : List (D RT den)) : Option (Out RT den) := match xs with | [.rs za0_0 .impl_Vip na0_0 fa0_0, .int .i64 a1_0] => some ⟨Int, F_laws_szVipS fu (⟨za0_0, na0_0, fa0_0⟩ : (Sl S_impl_Vip)) a1_0, enc_i64, fun _ => true⟩ | _ => none
theorem hpc_a15 (fu : Nat) : HpcOk E Tryz.prog (pcf_a15 fu) := by
 intro f xs o h
 unfold pcf_a15 at h
 split at h
 ·exact good_a14 fu xs o h
 ·cases h
theorem goodv_a15 (fu : Nat) (a_0 : (Sl S_impl_Vip)) (left_1 y : Int) (hy : F_laws_szVipS fu a_0 left_1 = some y) : Vm.Good E Tryz.prog 54 [(.rs a_0.z .impl_Vip a_0.n a_0.f), (ii left_1)] (enc_i64 y) :=
 fun_good E_ok (pc_good (pc := pc_a15 fu) (hpc_a15 fu) hpx0) (fn := Tryz.f54) (by kernel_rfl) (by kernel_rfl) (by kernel_rfl) (lpok_a15 fu) (fun d hd => out_i64_enc d _ hd) ((ev_a15 fu a_0 left_1).trans hy)
theorem good_a15 (fu : Nat) : GoodS E Tryz.prog 54 (S_a15 fu) := by
 intro xs o h y hy
 unfold S_a15 at h
 split at h
 ·rename_i za0_0 na0_0 fa0_0 a1_0
  cases h
  exact goodv_a15 fu (⟨za0_0, na0_0, fa0_0⟩ : (Sl S_impl_Vip)) a1_0 y hy
 ·cases h
def F_laws_szConfig (fu : Nat) (a_0 : S_laws_Config) (left_1 : Int) : Option (Int) :=
 ((F_laws_szBackendS fu a_0.Backends left_1).bind fun y30 => (bif (decide (y30 < 0)) then (some (-1)) else ((F_laws_szVipS fu a_0.Vips y30).bind fun y31 => (bif (decide (y31 < 0)) then
  (some (-1)) else (some y31)))))
def pcf_a16 (fu f : Nat) (xs : List (D RT den)) : Option (Out RT den) := match f with | 53 => S_a12 fu xs | 54 => S_a15 fu xs | _ => none
def pc_a16 (fu : Nat) : Pc RT den := ⟨pcf_a16 fu, fun _ => false, fun _ => false, pcd0, pcd0, pcd0, pcx0⟩
def msk_a16 (b : Nat) : List Nat := []
def lp_a16 (fu : Nat) : Lp RT den (Int) := ⟨fun b s k => none, inl0⟩
theorem ev_a16 (fu : Nat) (a_0 : S_laws_Config) (left_1 : Int) : evFun E (pc_a16 fu) msk_a16 (lp_a16 fu) out_i64 24 [(.agg [(ii a_0.Version), (.rs a_0.Backends.z .impl_Backend a_0.Backends.n a_0.Backends.f), (.rs a_0.Vips.z .impl_Vip a_0.Vips.n a_0.Vips.f)]), (ii left_1)] = F_laws_szConfig fu a_0 left_1 := by kernel_rfl
noncomputable def body_a16 : Code := Tryz.f24.body.getD .skip
theorem lpok_a16 (fu : Nat) : LpOk E (pc_a16 fu) 0 msk_a16 (lp_a16 fu) (loops 0 body_a16) := lp_nil (loop_nil (by kernel_rfl)) (by kernel_rfl)
def S_a16 (fu : Nat) (xs : List (D RT den)) : Option (Out RT den) := match xs with | [.agg [.int .i64 a0_1, .rs za0_2 .impl_Backend na0_2 fa0_2, .rs za0_3 .impl_Vip na0_3 fa0_3], .int .i64 a1_0] => some ⟨Int, F_laws_szConfig fu (⟨a0_1, (⟨za0_2, na0_2, fa0_2⟩ : (Sl S_impl_Backend)), (⟨za0_3, na0_3, fa0_3⟩ : (Sl S_impl_Vip))⟩ : S_laws_Config) a1_0, enc_i64, fun _ => true⟩ | _ => none
theorem hpc_a16 (fu : Nat) : HpcOk E Tryz.prog (pcf_a16 fu) := by
 intro f xs o h
 unfold pcf_a16 at h
 split at h
 ·exact good_a12 fu xs o h
 ·exact good_a15 fu xs o h
 ·cases h
theorem goodv_a16 (fu : Nat) (a_0 : S_laws_Config) (left_1 y : Int) (hy : F_laws_szConfig fu a_0 left_1 = some y) : Vm.Good E Tryz.prog 24 [(.agg [(ii a_0.Version), (.rs a_0.Backends.z .impl_Backend a_0.Backends.n a_0.Backends.f), (.rs a_0.Vips.z .impl_Vip a_0.Vips.n a_0.Vips.f)]), (ii left_1)] (enc_i64 y) :=
 fun_good E_ok (pc_good (pc := pc_a16 fu) (hpc_a16 fu) hpx0) (fn := Tryz.f24) (by kernel_rfl) (by kernel_rfl) (by kernel_rfl) (lpok_a16 fu) (fun d hd => out_i64_enc d _ hd) ((ev_a16 fu a_0 left_1).trans hy)
theorem good_a16 (fu : Nat) : GoodS E Tryz.prog 24 (S_a16 fu) := by
 intro xs o h y hy
 unfold S_a16 at h
 split at h
 ·rename_i a0_1 za0_2 na0_2 fa0_2 za0_3 na0_3 fa0_3 a1_0
  cases h
  exact goodv_a16 fu (⟨a0_1, (⟨za0_2, na0_2, fa0_2⟩ : (Sl S_impl_Backend)), (⟨za0_3, na0_3, fa0_3⟩ : (Sl S_impl_Vip))⟩ : S_laws_Config) a1_0 y hy
 ·cases h
def F_laws_szWatch (fu : Nat) (a_0 : S_laws_Watch) (left_1 : Int) : Option (Int) :=
 ((F_laws_szConfig fu a_0.Config left_1).bind fun y29 => (bif (decide (y29 < 0)) then (some (-1)) else (some y29)))
def pcf_a17 (fu f : Nat) (xs : List (D RT den)) : Option (Out RT den) := match f with | 24 => S_a16 fu xs | _ => none
def pc_a17 (fu : Nat) : Pc RT den := ⟨pcf_a17 fu, fun _ => false, fun _ => false, pcd0, pcd0, pcd0, pcx0⟩
def msk_a17 (b : Nat) : List Nat := []
def lp_a17 (fu : Nat) : Lp RT den (Int) := ⟨fun b s k => none, inl0⟩
theorem ev_a17 (fu : Nat) (a_0 : S_laws_Watch) (left_1 : Int) : evFun E (pc_a17 fu) msk_a17 (lp_a17 fu) out_i64 10 [(.agg [(.bool a_0.Ready), (ii a_0.Config.Version), (.rs a_0.Config.Backends.z .impl_Backend a_0.Config.Backends.n a_0.Config.Backends.f), (.rs a_0.Config.Vips.z .impl_Vip a_0.Config.Vips.n a_0.Config.Vips.f)]), (ii left_1)] = F_laws_szWatch fu a_0 left_1 := by kernel_rfl
noncomputable def body_a17 : Code := Tryz.f10.body.getD .skip
theorem lpok_a17 (fu : Nat) : LpOk E (pc_a17 fu) 0 msk_a17 (lp_a17 fu) (loops 0 body_a17) := lp_nil (loop_nil (by kernel_rfl)) (by kernel_rfl)
def S_a17 (fu : Nat) (xs : List (D RT den)) : Option (Out RT den) := match xs with | [.agg [.bool a0_1, .int .i64 a0_3, .rs za0_4 .impl_Backend na0_4 fa0_4, .rs za0_5 .impl_Vip na0_5 fa0_5], .int .i64 a1_0] => some ⟨Int, F_laws_szWatch fu (⟨a0_1, (⟨a0_3, (⟨za0_4, na0_4, fa0_4⟩ : (Sl S_impl_Backend)), (⟨za0_5, na0_5, fa0_5⟩ : (Sl S_impl_Vip))⟩ : S_laws_Config)⟩ : S_laws_Watch) a1_0, enc_i64, fun _ => true⟩ | _ => none
theorem hpc_a17 (fu : Nat) : HpcOk E Tryz.prog (pcf_a17 fu) := by
 intro f xs o h
 unfold pcf_a17 at h
 split at h
 ·exact good_a16 fu xs o h
 ·cases h
theorem goodv_a17 (fu : Nat) (a_0 : S_laws_Watch) (left_1 y : Int) (hy : F_laws_szWatch fu a_0 left_1 = some y) : Vm.Good E Tryz.prog 10 [(.agg [(.bool a_0.Ready), (ii a_0.Config.Version), (.rs a_0.Config.Backends.z .impl_Backend a_0.Config.Backends.n a_0.Config.Backends.f), (.rs a_0.Config.Vips.z .impl_Vip a_0.Config.Vips.n a_0.Config.Vips.f)]), (ii left_1)] (enc_i64 y) :=
 fun_good E_ok (pc_good (pc := pc_a17 fu) (hpc_a17 fu) hpx0) (fn := Tryz.f10) (by kernel_rfl) (by kernel_rfl) (by kernel_rfl) (lpok_a17 fu) (fun d hd => out_i64_enc d _ hd) ((ev_a17 fu a_0 left_1).trans hy)
theorem good_a17 (fu : Nat) : GoodS E Tryz.prog 10 (S_a17 fu) := by
 intro xs o h y hy
 unfold S_a17 at h
 split at h
 ·rename_i a0_1 a0_3 za0_4 na0_4 fa0_4 za0_5 na0_5 fa0_5 a1_0
  cases h
  exact goodv_a17 fu (⟨a0_1, (⟨a0_3, (⟨za0_4, na0_4, fa0_4⟩ : (Sl S_impl_Backend)), (⟨za0_5, na0_5, fa0_5⟩ : (Sl S_impl_Vip))⟩ : S_laws_Config)⟩ : S_laws_Watch) a1_0 y hy
 ·cases h
def F_laws_szInt64SS_B0 {ρ : Type} (fu : Nat) (a0_0 : (Sl (Sl Int))) (k0 : Int → Option ρ) (k1 : Int → Option ρ) (left1_1 i5_2 : Int) (go : Int → Int → Option ρ) : Option ρ :=
 (bif (decide (i5_2 < ((a0_0.n : Nat) : Int))) then ((bif (decide (0 ≤ i5_2) && decide ((Int.toNat i5_2) < a0_0.n)) then some () else none : Option Unit).bind fun _ =>
  ((F_laws_szInt64S fu (a0_0.f (Int.toNat i5_2)) left1_1).bind fun y36 => (bif (decide (y36 < 0)) then (k0 y36) else (go y36 (IntKind.wrap .i64 (i5_2 + 1)))))) else (k1 left1_1))
def F_laws_szInt64SS (fu : Nat) (a_0 : (Sl (Sl Int))) (left_1 : Int) : Option (Int) :=
 (bif (decide ((IntKind.wrap .i64 (left_1 - ((a_0.n : Nat) : Int))) < 0)) then (some (-1)) else (L (fun w0 go0 => F_laws_szInt64SS_B0 fu a_0 (fun z37 => (some (-1))) (fun z38 =>
  (some z38)) w0.1 w0.2 (fun q0 q1 => go0 (q0, q1))) fu (((IntKind.wrap .i64 (left_1 - ((a_0.n : Nat) : Int))), 0) : Int × Int)))
def pcf_a18 (fu f : Nat) (xs : List (D RT den)) : Option (Out RT den) := match f with | 25 => S_a13 fu xs | _ => none
def pc_a18 (fu : Nat) : Pc RT den := ⟨pcf_a18 fu, fun _ => false, fun _ => false, pcd0, pcd0, pcd0, pcx0⟩
def msk_a18 (b : Nat) : List Nat := match b with | 0 => (2 :: 3 :: 4 :: (rg 6 21 [])) | 100000 => (0 :: 2 :: 3 :: (rg 5 22 [])) | _ => []
def ps_a18_0 : List (Pat RT) := (.flat (.rs .sl_i64) :: .flat (.int .i64) :: .flat .q :: .flat .q :: .flat .q :: .flat (.int .i64) :: (fq 21 []))
def os_a18_0 : List (OP RT) := []
def conv_a18_0 (r : Raw den ps_a18_0 os_a18_0) : ((Sl (Sl Int))) × (Int × Int) := (r.1.1, (r.1.2.1, (e5 r.1).1))
def back_a18_0 (c : (Sl (Sl Int))) (w : Int × Int) : St RT den := ⟨((.rs c.z .sl_i64 c.n c.f) :: (ii w.1) :: .q :: .q :: .q :: (ii w.2) :: (qs 21 [])), []⟩
def Bk_a18_0 {ρ : Type} (fu : Nat) (c : (Sl (Sl Int))) (k : Ex → St RT den → Option ρ) (w : Int × Int) (go : (Int × Int) → Option ρ) : Option ρ := F_laws_szInt64SS_B0 fu c (fun a0 => k .ret ⟨(.q :: (ii a0) :: .q :: .q :: (ii (-1)) :: (qs 22 [])), []⟩) (fun a0 => k (.exit 0) ⟨(.q :: (ii a0) :: (qs 25 [])), []⟩) w.1 w.2 (fun q0 q1 => go (q0, q1))
def lp_a18 (fu : Nat) : Lp RT den (Int) := ⟨fun b s k => match b with | 0 => handle ps_a18_0 os_a18_0 conv_a18_0 (Bk_a18_0 fu) fu s k | _ => none, inl0⟩
theorem ev_a18 (fu : Nat) (a_0 : (Sl (Sl Int))) (left_1 : Int) : evFun E (pc_a18 fu) msk_a18 (lp_a18 fu) out_i64 11 [(.rs a_0.z .sl_i64 a_0.n a_0.f), (ii left_1)] = F_laws_szInt64SS fu a_0 left_1 := by kernel_rfl
noncomputable def body_a18 : Code := Tryz.f11.body.getD .skip
noncomputable def lc_a18_0 : Code := ((loops 0 body_a18).getD 0 (0, .skip)).2
theorem round_a18_0 (fu : Nat) : RoundOk E (pc_a18 fu) msk_a18 (lp_a18 fu) 0 lc_a18_0 back_a18_0 0 100000 0 (Bk_a18_0 fu) := fun it k c w => by kernel_rfl
theorem lpok_a18_0 (fu : Nat) : LpAt E (pc_a18 fu) msk_a18 (lp_a18 fu) 0 0 100000 0 lc_a18_0 :=
 handle_ok (ps := ps_a18_0) (os := os_a18_0) (conv := conv_a18_0) (B := Bk_a18_0 fu) (fu := fu) back_a18_0 (fun raw => by kernel_rfl) 0 (fun c w => by kernel_rfl) (round_a18_0 fu)
theorem lpok_a18 (fu : Nat) : LpOk E (pc_a18 fu) 0 msk_a18 (lp_a18 fu) (loops 0 body_a18) := lp_nil (loop_all 1 (by kernel_rfl) fun i hi => match i, hi with
 | 0, _ => by
  have h : (loops 0 body_a18).getD 0 (0, .skip) = (0, lc_a18_0) := by kernel_rfl
  rw [h]; exact lpok_a18_0 fu
 | i + 1, hi => absurd hi (by omega)) (by kernel_rfl)
def S_a18 (fu : Nat) (xs : List (D RT den)) : Option (Out RT den) := match xs with | [.rs za0_0 .sl_i64 na0_0 fa0_0, .int .i64 a1_0] => some ⟨Int, F_laws_szInt64SS fu (⟨za0_0, na0_0, fa0_0⟩ : (Sl (Sl Int))) a1_0, enc_i64, fun _ => true⟩ | _ => none
theorem hpc_a18 (fu : Nat) : HpcOk E Tryz.prog (pcf_a18 fu) := by
 intro f xs o h
 unfold pcf_a18 at h
 split at h
 ·exact good_a13 fu xs o h
 ·cases h
theorem goodv_a18 (fu : Nat) (a_0 : (Sl (Sl Int))) (left_1 y : Int) (hy : F_laws_szInt64SS fu a_0 left_1 = some y) : Vm.Good E Tryz.prog 11 [(.rs a_0.z .sl_i64 a_0.n a_0.f), (ii left_1)] (enc_i64 y) :=
 fun_good E_ok (pc_good (pc := pc_a18 fu) (hpc_a18 fu) hpx0) (fn := Tryz.f11) (by kernel_rfl) (by kernel_rfl) (by kernel_rfl) (lpok_a18 fu) (fun d hd => out_i64_enc d _ hd) ((ev_a18 fu a_0 left_1).trans hy)
theorem good_a18 (fu : Nat) : GoodS E Tryz.prog 11 (S_a18 fu) := by
 intro xs o h y hy
 unfold S_a18 at h
 split at h
 ·rename_i za0_0 na0_0 fa0_0 a1_0
  cases h
  exact goodv_a18 fu (⟨za0_0, na0_0, fa0_0⟩ : (Sl (Sl Int))) a1_0 y hy
 ·cases h
def F_laws_szHeldS (fu : Nat) (a_0 : (Sl S_laws_Held)) (left_1 : Int) : Option (Int) :=
 (bif (decide ((IntKind.wrap .i64 (left_1 - ((a_0.n : Nat) : Int))) < 0)) then (some (-1)) else (some (IntKind.wrap .i64 (left_1 - ((a_0.n : Nat) : Int)))))
def pc_a19 (fu : Nat) : Pc RT den := ⟨pcf0, fun _ => false, fun _ => false, pcd0, pcd0, pcd0, pcx0⟩
def msk_a19 (b : Nat) : List Nat := []
def lp_a19 (fu : Nat) : Lp RT den (Int) := ⟨fun b s k => none, inl0⟩
theorem ev_a19 (fu : Nat) (a_0 : (Sl S_laws_Held)) (left_1 : Int) : evFun E (pc_a19 fu) msk_a19 (lp_a19 fu) out_i64 12 [(.rs a_0.z .laws_Held a_0.n a_0.f), (ii left_1)] = F_laws_szHeldS fu a_0 left_1 := by kernel_rfl
noncomputable def body_a19 : Code := Tryz.f12.body.getD .skip
theorem lpok_a19 (fu : Nat) : LpOk E (pc_a19 fu) 0 msk_a19 (lp_a19 fu) (loops 0 body_a19) := lp_nil (loop_nil (by kernel_rfl)) (by kernel_rfl)
def S_a19 (fu : Nat) (xs : List (D RT den)) : Option (Out RT den) := match xs with | [.rs za0_0 .laws_Held na0_0 fa0_0, .int .i64 a1_0] => some ⟨Int, F_laws_szHeldS fu (⟨za0_0, na0_0, fa0_0⟩ : (Sl S_laws_Held)) a1_0, enc_i64, fun _ => true⟩ | _ => none
theorem goodv_a19 (fu : Nat) (a_0 : (Sl S_laws_Held)) (left_1 y : Int) (hy : F_laws_szHeldS fu a_0 left_1 = some y) : Vm.Good E Tryz.prog 12 [(.rs a_0.z .laws_Held a_0.n a_0.f), (ii left_1)] (enc_i64 y) :=
 fun_good E_ok (pc_good (pc := pc_a19 fu) hpc0 hpx0) (fn := Tryz.f12) (by kernel_rfl) (by kernel_rfl) (by kernel_rfl) (lpok_a19 fu) (fun d hd => out_i64_enc d _ hd) ((ev_a19 fu a_0 left_1).trans hy)
theorem good_a19 (fu : Nat) : GoodS E Tryz.prog 12 (S_a19 fu) := by
 intro xs o h y hy
 unfold S_a19 at h
 split at h
 ·rename_i za0_0 na0_0 fa0_0 a1_0
  cases h
  exact goodv_a19 fu (⟨za0_0, na0_0, fa0_0⟩ : (Sl S_laws_Held)) a1_0 y hy
 ·cases h
def F_laws_szMux (fu : Nat) (a_0 : S_laws_Mux) (left_1 : Int) : Option (Int) :=
 ((F_laws_szWatch fu a_0.Watch left_1).bind fun y26 => (bif (decide (y26 < 0)) then (some (-1)) else ((F_laws_szInt64SS fu a_0.Tables y26).bind fun y27 => (bif (decide (y27 < 0)) then
  (some (-1)) else ((F_laws_szHeldS fu a_0.Cache y27).bind fun y28 => (bif (decide (y28 < 0)) then (some (-1)) else (some y28)))))))
def pcf_a20 (fu f : Nat) (xs : List (D RT den)) : Option (Out RT den) := match f with | 10 => S_a17 fu xs | 11 => S_a18 fu xs | 12 => S_a19 fu xs | _ => none
def pc_a20 (fu : Nat) : Pc RT den := ⟨pcf_a20 fu, fun _ => false, fun _ => false, pcd0, pcd0, pcd0, pcx0⟩
def msk_a20 (b : Nat) : List Nat := []
def lp_a20 (fu : Nat) : Lp RT den (Int) := ⟨fun b s k => none, inl0⟩
theorem ev_a20 (fu : Nat) (a_0 : S_laws_Mux) (left_1 : Int) : evFun E (pc_a20 fu) msk_a20 (lp_a20 fu) out_i64 4 [(.agg [(ii a_0.Address), (ii a_0.Now), (.bool a_0.Watch.Ready), (ii a_0.Watch.Config.Version), (.rs a_0.Watch.Config.Backends.z .impl_Backend a_0.Watch.Config.Backends.n a_0.Watch.Config.Backends.f), (.rs a_0.Watch.Config.Vips.z .impl_Vip a_0.Watch.Config.Vips.n a_0.Watch.Config.Vips.f), (.rs a_0.Tables.z .sl_i64 a_0.Tables.n a_0.Tables.f), (.rs a_0.Cache.z .laws_Held a_0.Cache.n a_0.Cache.f)]), (ii left_1)] = F_laws_szMux fu a_0 left_1 := by kernel_rfl
noncomputable def body_a20 : Code := Tryz.f4.body.getD .skip
theorem lpok_a20 (fu : Nat) : LpOk E (pc_a20 fu) 0 msk_a20 (lp_a20 fu) (loops 0 body_a20) := lp_nil (loop_nil (by kernel_rfl)) (by kernel_rfl)
def S_a20 (fu : Nat) (xs : List (D RT den)) : Option (Out RT den) := match xs with | [.agg [.int .i64 a0_1, .int .i64 a0_2, .bool a0_4, .int .i64 a0_6, .rs za0_7 .impl_Backend na0_7 fa0_7, .rs za0_8 .impl_Vip na0_8 fa0_8, .rs za0_9 .sl_i64 na0_9 fa0_9, .rs za0_10 .laws_Held na0_10 fa0_10], .int .i64 a1_0] => some ⟨Int, F_laws_szMux fu (⟨a0_1, a0_2, (⟨a0_4, (⟨a0_6, (⟨za0_7, na0_7, fa0_7⟩ : (Sl S_impl_Backend)), (⟨za0_8, na0_8, fa0_8⟩ : (Sl S_impl_Vip))⟩ : S_laws_Config)⟩ : S_laws_Watch), (⟨za0_9, na0_9, fa0_9⟩ : (Sl (Sl Int))), (⟨za0_10, na0_10, fa0_10⟩ : (Sl S_laws_Held))⟩ : S_laws_Mux) a1_0, enc_i64, fun _ => true⟩ | _ => none
theorem hpc_a20 (fu : Nat) : HpcOk E Tryz.prog (pcf_a20 fu) := by
 intro f xs o h
 unfold pcf_a20 at h
 split at h
 ·exact good_a17 fu xs o h
 ·exact good_a18 fu xs o h
 ·exact good_a19 fu xs o h
 ·cases h
theorem goodv_a20 (fu : Nat) (a_0 : S_laws_Mux) (left_1 y : Int) (hy : F_laws_szMux fu a_0 left_1 = some y) : Vm.Good E Tryz.prog 4 [(.agg [(ii a_0.Address), (ii a_0.Now), (.bool a_0.Watch.Ready), (ii a_0.Watch.Config.Version), (.rs a_0.Watch.Config.Backends.z .impl_Backend a_0.Watch.Config.Backends.n a_0.Watch.Config.Backends.f), (.rs a_0.Watch.Config.Vips.z .impl_Vip a_0.Watch.Config.Vips.n a_0.Watch.Config.Vips.f), (.rs a_0.Tables.z .sl_i64 a_0.Tables.n a_0.Tables.f), (.rs a_0.Cache.z .laws_Held a_0.Cache.n a_0.Cache.f)]), (ii left_1)] (enc_i64 y) :=
 fun_good E_ok (pc_good (pc := pc_a20 fu) (hpc_a20 fu) hpx0) (fn := Tryz.f4) (by kernel_rfl) (by kernel_rfl) (by kernel_rfl) (lpok_a20 fu) (fun d hd => out_i64_enc d _ hd) ((ev_a20 fu a_0 left_1).trans hy)
theorem good_a20 (fu : Nat) : GoodS E Tryz.prog 4 (S_a20 fu) := by
 intro xs o h y hy
 unfold S_a20 at h
 split at h
 ·rename_i a0_1 a0_2 a0_4 a0_6 za0_7 na0_7 fa0_7 za0_8 na0_8 fa0_8 za0_9 na0_9 fa0_9 za0_10 na0_10 fa0_10 a1_0
  cases h
  exact goodv_a20 fu (⟨a0_1, a0_2, (⟨a0_4, (⟨a0_6, (⟨za0_7, na0_7, fa0_7⟩ : (Sl S_impl_Backend)), (⟨za0_8, na0_8, fa0_8⟩ : (Sl S_impl_Vip))⟩ : S_laws_Config)⟩ : S_laws_Watch), (⟨za0_9, na0_9, fa0_9⟩ : (Sl (Sl Int))), (⟨za0_10, na0_10, fa0_10⟩ : (Sl S_laws_Held))⟩ : S_laws_Mux) a1_0 y hy
 ·cases h
def F_spec_l5At_B0 {ρ : Type} (fu : Nat) (c0_0 : Int) (c0_1 : (Sl S_impl_Backend)) (c0_2 : (Sl S_impl_Vip)) (name1_3 : Int) (k0 : Int → Option ρ) (k1 : Option ρ) (i5_4 : Int) (go : Int → Option ρ) : Option ρ :=
 (bif (decide (i5_4 < ((c0_1.n : Nat) : Int))) then ((bif (decide (0 ≤ i5_4) && decide ((Int.toNat i5_4) < c0_1.n)) then some () else none : Option Unit).bind fun _ => (bif ((c0_1.f (Int.toNat i5_4)).Name == name1_3) then
  (k0 i5_4) else (go (IntKind.wrap .i64 (i5_4 + 1))))) else k1)
def F_spec_l5At (fu : Nat) (c_0 : S_impl_Config) (name_1 : Int) : Option (Int) :=
 (L (fun w0 go0 => F_spec_l5At_B0 fu c_0.Version c_0.Backends c_0.Vips name_1 (fun z50 => (some z50)) (some (-1)) w0 go0) fu (0 : Int))
def pc_a21 (fu : Nat) : Pc RT den := ⟨pcf0, fun _ => false, fun _ => false, pcd0, pcd0, pcd0, pcx0⟩
def msk_a21 (b : Nat) : List Nat := match b with | 0 => (2 :: 3 :: 4 :: (rg 6 20 [])) | 100000 => (0 :: 1 :: 2 :: 3 :: (rg 5 21 [])) | _ => []
def ps_a21_0 : List (Pat RT) := (.rptr [(.int .i64), (.rs .impl_Backend), (.rs .impl_Vip)] :: .flat (.int .i64) :: .flat .q :: .flat .q :: .flat .q :: .flat (.int .i64) :: (fq 20 []))
def os_a21_0 : List (OP RT) := []
def conv_a21_0 (r : Raw den ps_a21_0 os_a21_0) : (Int × (Sl S_impl_Backend) × (Sl S_impl_Vip) × Int) × (Int) := ((r.1.1.1, r.1.1.2.1, r.1.1.2.2.1, r.1.2.1), (e5 r.1).1)
def back_a21_0 (c : Int × (Sl S_impl_Backend) × (Sl S_impl_Vip) × Int) (w : Int) : St RT den := ⟨((.rptr [(ii c.1), (.rs c.2.1.z .impl_Backend c.2.1.n c.2.1.f), (.rs c.2.2.1.z .impl_Vip c.2.2.1.n c.2.2.1.f)]) :: (ii c.2.2.2) :: .q :: .q :: .q :: (ii w) :: (qs 20 [])), []⟩
def Bk_a21_0 {ρ : Type} (fu : Nat) (c : Int × (Sl S_impl_Backend) × (Sl S_impl_Vip) × Int) (k : Ex → St RT den → Option ρ) (w : Int) (go : (Int) → Option ρ) : Option ρ := F_spec_l5At_B0 fu c.1 c.2.1 c.2.2.1 c.2.2.2 (fun a0 => k .ret ⟨(qs 4 ((ii a0) :: (qs 21 []))), []⟩) (k (.exit 0) ⟨(qs 26 []), []⟩) w go
def lp_a21 (fu : Nat) : Lp RT den (Int) := ⟨fun b s k => match b with | 0 => handle ps_a21_0 os_a21_0 conv_a21_0 (Bk_a21_0 fu) fu s k | _ => none, inl0⟩
theorem ev_a21 (fu : Nat) (c_0 : S_impl_Config) (name_1 : Int) : evFun E (pc_a21 fu) msk_a21 (lp_a21 fu) out_i64 85 [(.rptr [(ii c_0.Version), (.rs c_0.Backends.z .impl_Backend c_0.Backends.n c_0.Backends.f), (.rs c_0.Vips.z .impl_Vip c_0.Vips.n c_0.Vips.f)]), (ii name_1)] = F_spec_l5At fu c_0 name_1 := by kernel_rfl
noncomputable def body_a21 : Code := Tryz.f85.body.getD .skip
noncomputable def lc_a21_0 : Code := ((loops 0 body_a21).getD 0 (0, .skip)).2
theorem round_a21_0 (fu : Nat) : RoundOk E (pc_a21 fu) msk_a21 (lp_a21 fu) 0 lc_a21_0 back_a21_0 0 100000 0 (Bk_a21_0 fu) := fun it k c w => by kernel_rfl
theorem lpok_a21_0 (fu : Nat) : LpAt E (pc_a21 fu) msk_a21 (lp_a21 fu) 0 0 100000 0 lc_a21_0 :=
 handle_ok (ps := ps_a21_0) (os := os_a21_0) (conv := conv_a21_0) (B := Bk_a21_0 fu) (fu := fu) back_a21_0 (fun raw => by kernel_rfl) 0 (fun c w => by kernel_rfl) (round_a21_0 fu)
theorem lpok_a21 (fu : Nat) : LpOk E (pc_a21 fu) 0 msk_a21 (lp_a21 fu) (loops 0 body_a21) := lp_nil (loop_all 1 (by kernel_rfl) fun i hi => match i, hi with
 | 0, _ => by
  have h : (loops 0 body_a21).getD 0 (0, .skip) = (0, lc_a21_0) := by kernel_rfl
  rw [h]; exact lpok_a21_0 fu
 | i + 1, hi => absurd hi (by omega)) (by kernel_rfl)
def S_a21 (fu : Nat) (xs : List (D RT den)) : Option (Out RT den) := match xs with | [.rptr (.int .i64 a0_1 :: .rs za0_2 .impl_Backend na0_2 fa0_2 :: .rs za0_3 .impl_Vip na0_3 fa0_3 :: ra0), .int .i64 a1_0] => some ⟨Int, F_spec_l5At fu (⟨a0_1, (⟨za0_2, na0_2, fa0_2⟩ : (Sl S_impl_Backend)), (⟨za0_3, na0_3, fa0_3⟩ : (Sl S_impl_Vip))⟩ : S_impl_Config) a1_0, enc_i64, fun _ => true⟩ | _ => none
theorem goodv_a21 (fu : Nat) (c_0 : S_impl_Config) (name_1 y : Int) (hy : F_spec_l5At fu c_0 name_1 = some y) : Vm.Good E Tryz.prog 85 [(.rptr [(ii c_0.Version), (.rs c_0.Backends.z .impl_Backend c_0.Backends.n c_0.Backends.f), (.rs c_0.Vips.z .impl_Vip c_0.Vips.n c_0.Vips.f)]), (ii name_1)] (enc_i64 y) :=
 fun_good E_ok (pc_good (pc := pc_a21 fu) hpc0 hpx0) (fn := Tryz.f85) (by kernel_rfl) (by kernel_rfl) (by kernel_rfl) (lpok_a21 fu) (fun d hd => out_i64_enc d _ hd) ((ev_a21 fu c_0 name_1).trans hy)
theorem good_a21 (fu : Nat) : GoodS E Tryz.prog 85 (S_a21 fu) := by
 intro xs o h y hy
 unfold S_a21 at h
 split at h
 ·rename_i a0_1 za0_2 na0_2 fa0_2 za0_3 na0_3 fa0_3 ra0 a1_0
  cases h
  exact (goodv_a21 fu (⟨a0_1, (⟨za0_2, na0_2, fa0_2⟩ : (Sl S_impl_Backend)), (⟨za0_3, na0_3, fa0_3⟩ : (Sl S_impl_Vip))⟩ : S_impl_Config) a1_0 y hy).sub ⟨Sub.of_eq ra0 rfl, .refl _, trivial⟩
 ·cases h
end Go.Proofs.YtcmfekgdlaffkaaGreatDoor.Px
