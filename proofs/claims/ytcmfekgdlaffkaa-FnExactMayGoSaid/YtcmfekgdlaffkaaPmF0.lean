/- The functions' evaluated forms, each a proved summary. Conditions: none. -/
import Derived.Test.YtcmfekgdlaffkaaPmHand
namespace Go.Proofs.Ytcmfekgdlaffkaa.Pm
open Go Go.RowKit Go.Proofs Vm
set_option linter.unusedVariables false
set_option linter.unusedSimpArgs false
set_option maxRecDepth 100000
abbrev Ya0 : Type := Int × (Sl S_impl_Backend) × (Sl S_impl_Vip) × Int × Int × Int × (Sl Int)
abbrev Ya1 : Type := Int × Nat × Nat × Nat × (Nat → S_impl_Backend) × Nat × (Nat → S_impl_Vip)
def F_laws_toBackend (fu : Nat) (a_0 : S_impl_Backend) : Option (S_impl_Backend) :=
 (some a_0)
def pc_a0 (fu : Nat) : Pc RT den := ⟨pcf0, fun _ => false, fun _ => false, pcd0, pcd0, pcd0, pcx0⟩
def msk_a0 (b : Nat) : List Nat := []
def lp_a0 (fu : Nat) : Lp RT den (S_impl_Backend) := ⟨fun b s k => none, inl0⟩
theorem ev_a0 (fu : Nat) (a_0 : S_impl_Backend) : evFun E (pc_a0 fu) msk_a0 (lp_a0 fu) out_impl_Backend 107 [(.agg [(ii a_0.Name), (ii a_0.Address), (ii a_0.Weight), (ii a_0.Stage), (.bool a_0.Up)])] = F_laws_toBackend fu a_0 := by kernel_rfl
noncomputable def body_a0 : Code := Try.f107.body.getD .skip
theorem lpok_a0 (fu : Nat) : LpOk E (pc_a0 fu) 0 msk_a0 (lp_a0 fu) (loops 0 body_a0) := lp_nil (loop_nil (by kernel_rfl)) (by kernel_rfl)
def S_a0 (fu : Nat) (xs : List (D RT den)) : Option (Out RT den) := match xs with | [.agg [.int .i64 a0_1, .int .i64 a0_2, .int .i64 a0_3, .int .i64 a0_4, .bool a0_5]] => some ⟨S_impl_Backend, F_laws_toBackend fu (⟨a0_1, a0_2, a0_3, a0_4, a0_5⟩ : S_impl_Backend), enc_impl_Backend, fun _ => true⟩ | _ => none
theorem goodv_a0 (fu : Nat) (a_0 y : S_impl_Backend) (hy : F_laws_toBackend fu a_0 = some y) : Vm.Good E Try.prog 107 [(.agg [(ii a_0.Name), (ii a_0.Address), (ii a_0.Weight), (ii a_0.Stage), (.bool a_0.Up)])] (enc_impl_Backend y) :=
 fun_good E_ok (pc_good (pc := pc_a0 fu) hpc0 hpx0) (fn := Try.f107) (by kernel_rfl) (by kernel_rfl) (by kernel_rfl) (lpok_a0 fu) (fun d hd => out_impl_Backend_enc d _ hd) ((ev_a0 fu a_0).trans hy)
theorem good_a0 (fu : Nat) : GoodS E Try.prog 107 (S_a0 fu) := by
 intro xs o h y hy
 unfold S_a0 at h
 split at h
 ·rename_i a0_1 a0_2 a0_3 a0_4 a0_5
  cases h
  exact goodv_a0 fu (⟨a0_1, a0_2, a0_3, a0_4, a0_5⟩ : S_impl_Backend) y hy
 ·cases h
def F_laws_toBackendS_H_B0 {ρ : Type} (fu : Nat) (a0_0 : (Sl S_impl_Backend)) (out3_1 on0_3 : Nat) (k0 : (Nat → S_impl_Backend) → Option ρ) (i4_2 : Int) (of0_4 : (Nat → S_impl_Backend)) (go : Int → (Nat → S_impl_Backend) → Option ρ) : Option ρ :=
 (bif (decide (i4_2 < ((a0_0.n : Nat) : Int))) then ((bif (decide (0 ≤ i4_2) && decide ((Int.toNat i4_2) < a0_0.n)) then some () else none : Option Unit).bind fun _ =>
  ((F_laws_toBackend fu (a0_0.f (Int.toNat i4_2))).bind fun y4 => ((bif (decide (0 ≤ i4_2) && decide ((Int.toNat i4_2) < out3_1)) then some () else none : Option Unit).bind fun _ =>
  (go (IntKind.wrap .i64 (i4_2 + 1)) (fun j => if j = (Int.toNat i4_2) then y4 else of0_4 j))))) else (k0 of0_4))
def F_laws_toBackendS_H (fu : Nat) (a_0 : (Sl S_impl_Backend)) : Option ((Sl S_impl_Backend)) :=
 (bif (decide (0 ≤ ((a_0.n : Nat) : Int)) && (decide (((a_0.n : Nat) : Int) = ((a_0.n : Nat) : Int)) && (decide ((40 : Int) * ((a_0.n : Nat) : Int) ≤ 281474976710656) && decide (((a_0.n : Nat) : Int) ≤ 9223372036854775807)))) then
  (L (fun w0 go0 => F_laws_toBackendS_H_B0 fu a_0 (Int.toNat ((a_0.n : Nat) : Int)) (Int.toNat ((a_0.n : Nat) : Int)) (fun z5 => (some (⟨none, (Int.toNat ((a_0.n : Nat) : Int)),
  z5⟩ : (Sl S_impl_Backend)))) w0.1 w0.2 (fun q0 q1 => go0 (q0, q1))) fu ((0, (fun _ => (⟨0, 0, 0, 0, false⟩ : S_impl_Backend))) : Int × (Nat → S_impl_Backend))) else none)
def pcf_a1 (fu f : Nat) (xs : List (D RT den)) : Option (Out RT den) := match f with | 107 => S_a0 fu xs | _ => none
def pc_a1 (fu : Nat) : Pc RT den := ⟨pcf_a1 fu, fun _ => false, fun _ => false, pcd0, pcd0, pcd0, pcx0⟩
def msk_a1 (b : Nat) : List Nat := match b with | 0 => (1 :: 2 :: (rg 5 18 [])) | 100000 => (0 :: 1 :: (rg 4 19 [])) | _ => []
def ps_a1_0 : List (Pat RT) := (.flat (.rs .impl_Backend) :: .flat .q :: .flat .q :: .flat (.os 0) :: .flat (.int .i64) :: (fq 18 []))
def os_a1_0 : List (OP RT) := [.row false .impl_Backend]
def conv_a1_0 (r : Raw den ps_a1_0 os_a1_0) : ((Sl S_impl_Backend) × Nat × Nat) × (Int × (Nat → S_impl_Backend)) := ((r.1.1, r.1.2.2.2.1, r.2.1.1), (r.1.2.2.2.2.1, r.2.1.2))
def back_a1_0 (c : (Sl S_impl_Backend) × Nat × Nat) (w : Int × (Nat → S_impl_Backend)) : St RT den := ⟨((.rs c.1.z .impl_Backend c.1.n c.1.f) :: .q :: .q :: (.os 0 c.2.1) :: (ii w.1) :: (qs 18 [])), [(.row false .impl_Backend c.2.2 w.2)]⟩
def Bk_a1_0 {ρ : Type} (fu : Nat) (c : (Sl S_impl_Backend) × Nat × Nat) (k : Ex → St RT den → Option ρ) (w : Int × (Nat → S_impl_Backend)) (go : (Int × (Nat → S_impl_Backend)) → Option ρ) : Option ρ := F_laws_toBackendS_H_B0 fu c.1 c.2.1 c.2.2 (fun a0 => k (.exit 0) ⟨(.q :: .q :: .q :: (.os 0 c.2.1) :: (qs 19 [])), [(.row false .impl_Backend c.2.2 a0)]⟩) w.1 w.2 (fun q0 q1 => go (q0, q1))
def lp_a1 (fu : Nat) : Lp RT den ((Sl S_impl_Backend)) := ⟨fun b s k => match b with | 0 => handle ps_a1_0 os_a1_0 conv_a1_0 (Bk_a1_0 fu) fu s k | _ => none, inl0⟩
theorem ev_a1 (fu : Nat) (a_0 : (Sl S_impl_Backend)) : evFunX E false (pc_a1 fu) msk_a1 (lp_a1 fu) out_sl_impl_Backend_H 60 [(.rs a_0.z .impl_Backend a_0.n a_0.f)] [] = F_laws_toBackendS_H fu a_0 := by kernel_rfl
noncomputable def body_a1 : Code := Try.f60.body.getD .skip
noncomputable def lc_a1_0 : Code := ((loops 0 body_a1).getD 0 (0, .skip)).2
theorem round_a1_0 (fu : Nat) : RoundOk E (pc_a1 fu) msk_a1 (lp_a1 fu) 0 lc_a1_0 back_a1_0 0 100000 1 (Bk_a1_0 fu) := fun it k c w => by kernel_rfl
theorem lpok_a1_0 (fu : Nat) : LpAt E (pc_a1 fu) msk_a1 (lp_a1 fu) 0 0 100000 0 lc_a1_0 :=
 handle_ok (ps := ps_a1_0) (os := os_a1_0) (conv := conv_a1_0) (B := Bk_a1_0 fu) (fu := fu) back_a1_0 (fun raw => by kernel_rfl) 1 (fun c w => by kernel_rfl) (round_a1_0 fu)
theorem lpok_a1 (fu : Nat) : LpOk E (pc_a1 fu) 0 msk_a1 (lp_a1 fu) (loops 0 body_a1) := lp_nil (loop_all 1 (by kernel_rfl) fun i hi => match i, hi with
 | 0, _ => by
  have h : (loops 0 body_a1).getD 0 (0, .skip) = (0, lc_a1_0) := by kernel_rfl
  rw [h]; exact lpok_a1_0 fu
 | i + 1, hi => absurd hi (by omega)) (by kernel_rfl)
def S_a1 (fu : Nat) (xs : List (D RT den)) (ins : List (Ob RT den)) : Option (OutX RT den) := match xs, ins with | [.rs za0_0 .impl_Backend na0_0 fa0_0], [] => some ⟨(Sl S_impl_Backend), F_laws_toBackendS_H fu (⟨za0_0, na0_0, fa0_0⟩ : (Sl S_impl_Backend)), enc_sl_impl_Backend_H⟩ | _, _ => none
theorem hpc_a1 (fu : Nat) : HpcOk E Try.prog (pcf_a1 fu) := by
 intro f xs o h
 unfold pcf_a1 at h
 split at h
 ·exact good_a0 fu xs o h
 ·cases h
theorem goodv_a1 (fu : Nat) (a_0 y : (Sl S_impl_Backend)) (hy : F_laws_toBackendS_H fu a_0 = some y) : GoodX E Try.prog 60 [(.rs a_0.z .impl_Backend a_0.n a_0.f)] [] (enc_sl_impl_Backend_H y).1 (enc_sl_impl_Backend_H y).2 :=
 funX_good (ke := false) E_ok (pc_good (pc := pc_a1 fu) (hpc_a1 fu) hpx0) (fn := Try.f60) (by kernel_rfl) (by kernel_rfl) (by kernel_rfl) (lpok_a1 fu) (by kernel_rfl) (Nat.zero_le _) (fun d os hd => out_sl_impl_Backend_H_enc d os _ hd) ((ev_a1 fu a_0).trans hy)
theorem good_a1 (fu : Nat) : GoodSX E Try.prog 60 (S_a1 fu) := by
 intro xs ins o h y hy
 unfold S_a1 at h
 split at h
 ·rename_i za0_0 na0_0 fa0_0
  cases h
  exact goodv_a1 fu (⟨za0_0, na0_0, fa0_0⟩ : (Sl S_impl_Backend)) y hy
 ·cases h
def F_laws_toInt64S_H_B0 {ρ : Type} (fu : Nat) (a0_0 : (Sl Int)) (out3_1 on0_3 : Nat) (k0 : (Nat → Int) → Option ρ) (i4_2 : Int) (of0_4 : (Nat → Int)) (go : Int → (Nat → Int) → Option ρ) : Option ρ :=
 (bif (decide (i4_2 < ((a0_0.n : Nat) : Int))) then ((bif (decide (0 ≤ i4_2) && decide ((Int.toNat i4_2) < a0_0.n)) then some () else none : Option Unit).bind fun _ => ((bif (decide (0 ≤ i4_2) &&
  decide ((Int.toNat i4_2) < out3_1)) then some () else none : Option Unit).bind fun _ => (go (IntKind.wrap .i64 (i4_2 + 1)) (fun j => if j = (Int.toNat i4_2) then (a0_0.f (Int.toNat i4_2)) else
  of0_4 j)))) else (k0 of0_4))
def F_laws_toInt64S_H (fu : Nat) (a_0 : (Sl Int)) : Option ((Sl Int)) :=
 (bif (decide (0 ≤ ((a_0.n : Nat) : Int)) && (decide (((a_0.n : Nat) : Int) = ((a_0.n : Nat) : Int)) && (decide ((8 : Int) * ((a_0.n : Nat) : Int) ≤ 281474976710656) && decide (((a_0.n : Nat) : Int) ≤ 9223372036854775807)))) then
  (L (fun w0 go0 => F_laws_toInt64S_H_B0 fu a_0 (Int.toNat ((a_0.n : Nat) : Int)) (Int.toNat ((a_0.n : Nat) : Int)) (fun z8 => (some (⟨none, (Int.toNat ((a_0.n : Nat) : Int)), z8⟩ : (Sl Int)))) w0.1 w0.2 (fun q0 q1 =>
  go0 (q0, q1))) fu ((0, (fun _ => 0)) : Int × (Nat → Int))) else none)
def pc_a2 (fu : Nat) : Pc RT den := ⟨pcf0, fun _ => false, fun _ => false, pcd0, pcd0, pcd0, pcx0⟩
def msk_a2 (b : Nat) : List Nat := match b with | 0 => (1 :: 2 :: (rg 5 17 [])) | 100000 => (0 :: 1 :: (rg 4 18 [])) | _ => []
def ps_a2_0 : List (Pat RT) := (.flat (.rs .i64) :: .flat .q :: .flat .q :: .flat (.os 0) :: .flat (.int .i64) :: (fq 17 []))
def os_a2_0 : List (OP RT) := [.row false .i64]
def conv_a2_0 (r : Raw den ps_a2_0 os_a2_0) : ((Sl Int) × Nat × Nat) × (Int × (Nat → Int)) := ((r.1.1, r.1.2.2.2.1, r.2.1.1), (r.1.2.2.2.2.1, r.2.1.2))
def back_a2_0 (c : (Sl Int) × Nat × Nat) (w : Int × (Nat → Int)) : St RT den := ⟨((.rs c.1.z .i64 c.1.n c.1.f) :: .q :: .q :: (.os 0 c.2.1) :: (ii w.1) :: (qs 17 [])), [(.row false .i64 c.2.2 w.2)]⟩
def Bk_a2_0 {ρ : Type} (fu : Nat) (c : (Sl Int) × Nat × Nat) (k : Ex → St RT den → Option ρ) (w : Int × (Nat → Int)) (go : (Int × (Nat → Int)) → Option ρ) : Option ρ := F_laws_toInt64S_H_B0 fu c.1 c.2.1 c.2.2 (fun a0 => k (.exit 0) ⟨(.q :: .q :: .q :: (.os 0 c.2.1) :: (qs 18 [])), [(.row false .i64 c.2.2 a0)]⟩) w.1 w.2 (fun q0 q1 => go (q0, q1))
def lp_a2 (fu : Nat) : Lp RT den ((Sl Int)) := ⟨fun b s k => match b with | 0 => handle ps_a2_0 os_a2_0 conv_a2_0 (Bk_a2_0 fu) fu s k | _ => none, inl0⟩
theorem ev_a2 (fu : Nat) (a_0 : (Sl Int)) : evFunX E false (pc_a2 fu) msk_a2 (lp_a2 fu) out_sl_i64_H 133 [(.rs a_0.z .i64 a_0.n a_0.f)] [] = F_laws_toInt64S_H fu a_0 := by kernel_rfl
noncomputable def body_a2 : Code := Try.f133.body.getD .skip
noncomputable def lc_a2_0 : Code := ((loops 0 body_a2).getD 0 (0, .skip)).2
theorem round_a2_0 (fu : Nat) : RoundOk E (pc_a2 fu) msk_a2 (lp_a2 fu) 0 lc_a2_0 back_a2_0 0 100000 1 (Bk_a2_0 fu) := fun it k c w => by kernel_rfl
theorem lpok_a2_0 (fu : Nat) : LpAt E (pc_a2 fu) msk_a2 (lp_a2 fu) 0 0 100000 0 lc_a2_0 :=
 handle_ok (ps := ps_a2_0) (os := os_a2_0) (conv := conv_a2_0) (B := Bk_a2_0 fu) (fu := fu) back_a2_0 (fun raw => by kernel_rfl) 1 (fun c w => by kernel_rfl) (round_a2_0 fu)
theorem lpok_a2 (fu : Nat) : LpOk E (pc_a2 fu) 0 msk_a2 (lp_a2 fu) (loops 0 body_a2) := lp_nil (loop_all 1 (by kernel_rfl) fun i hi => match i, hi with
 | 0, _ => by
  have h : (loops 0 body_a2).getD 0 (0, .skip) = (0, lc_a2_0) := by kernel_rfl
  rw [h]; exact lpok_a2_0 fu
 | i + 1, hi => absurd hi (by omega)) (by kernel_rfl)
def S_a2 (fu : Nat) (xs : List (D RT den)) (ins : List (Ob RT den)) : Option (OutX RT den) := match xs, ins with | [.rs za0_0 .i64 na0_0 fa0_0], [] => some ⟨(Sl Int), F_laws_toInt64S_H fu (⟨za0_0, na0_0, fa0_0⟩ : (Sl Int)), enc_sl_i64_H⟩ | _, _ => none
theorem goodv_a2 (fu : Nat) (a_0 y : (Sl Int)) (hy : F_laws_toInt64S_H fu a_0 = some y) : GoodX E Try.prog 133 [(.rs a_0.z .i64 a_0.n a_0.f)] [] (enc_sl_i64_H y).1 (enc_sl_i64_H y).2 :=
 funX_good (ke := false) E_ok (pc_good (pc := pc_a2 fu) hpc0 hpx0) (fn := Try.f133) (by kernel_rfl) (by kernel_rfl) (by kernel_rfl) (lpok_a2 fu) (by kernel_rfl) (Nat.zero_le _) (fun d os hd => out_sl_i64_H_enc d os _ hd) ((ev_a2 fu a_0).trans hy)
theorem good_a2 (fu : Nat) : GoodSX E Try.prog 133 (S_a2 fu) := by
 intro xs ins o h y hy
 unfold S_a2 at h
 split at h
 ·rename_i za0_0 na0_0 fa0_0
  cases h
  exact goodv_a2 fu (⟨za0_0, na0_0, fa0_0⟩ : (Sl Int)) y hy
 ·cases h
def F_laws_toVip_H (fu : Nat) (a_0 : S_impl_Vip) : Option (S_impl_Vip) :=
 ((F_laws_toInt64S_H fu a_0.Names).bind fun y10 => (some (⟨a_0.Address, a_0.Port, a_0.Proto, (⟨none, y10.n, y10.f⟩ : (Sl Int))⟩ : S_impl_Vip)))
def pcx_a3 (fu f : Nat) (xs : List (D RT den)) (ins : List (Ob RT den)) : Option (OutX RT den) := match f with | 133 => S_a2 fu xs ins | _ => none
def pcd_a3 : Nat → Bool := fun _ => false
def pc_a3 (fu : Nat) : Pc RT den := ⟨pcf0, fun f => match f with | 133 => true | _ => false, fun _ => false, pcd_a3, pcd0, pcd0, pcx_a3 fu⟩
def msk_a3 (b : Nat) : List Nat := []
def lp_a3 (fu : Nat) : Lp RT den (S_impl_Vip) := ⟨fun b s k => none, inl0⟩
theorem ev_a3 (fu : Nat) (a_0 : S_impl_Vip) : evFunX E false (pc_a3 fu) msk_a3 (lp_a3 fu) out_impl_Vip_H 108 [(.agg [(ii a_0.Address), (ii a_0.Port), (ii a_0.Proto), (.rs a_0.Names.z .i64 a_0.Names.n a_0.Names.f)])] [] = F_laws_toVip_H fu a_0 := by kernel_rfl
noncomputable def body_a3 : Code := Try.f108.body.getD .skip
theorem lpok_a3 (fu : Nat) : LpOk E (pc_a3 fu) 0 msk_a3 (lp_a3 fu) (loops 0 body_a3) := lp_nil (loop_nil (by kernel_rfl)) (by kernel_rfl)
def S_a3 (fu : Nat) (xs : List (D RT den)) (ins : List (Ob RT den)) : Option (OutX RT den) := match xs, ins with | [.agg [.int .i64 a0_1, .int .i64 a0_2, .int .i64 a0_3, .rs za0_4 .i64 na0_4 fa0_4]], [] => some ⟨S_impl_Vip, F_laws_toVip_H fu (⟨a0_1, a0_2, a0_3, (⟨za0_4, na0_4, fa0_4⟩ : (Sl Int))⟩ : S_impl_Vip), enc_impl_Vip_H⟩ | _, _ => none
theorem hpx_a3 (fu : Nat) : HpxOk E Try.prog pcd_a3 pcd0 (pcx_a3 fu) := by
 intro f xs ins o h
 unfold pcx_a3 at h
 split at h
 ·exact good_a2 fu xs ins o h
 ·cases h
theorem goodv_a3 (fu : Nat) (a_0 y : S_impl_Vip) (hy : F_laws_toVip_H fu a_0 = some y) : GoodX E Try.prog 108 [(.agg [(ii a_0.Address), (ii a_0.Port), (ii a_0.Proto), (.rs a_0.Names.z .i64 a_0.Names.n a_0.Names.f)])] [] (enc_impl_Vip_H y).1 (enc_impl_Vip_H y).2 :=
 funX_good (ke := false) E_ok (pc_good (pc := pc_a3 fu) hpc0 (hpx_a3 fu)) (fn := Try.f108) (by kernel_rfl) (by kernel_rfl) (by kernel_rfl) (lpok_a3 fu) (by kernel_rfl) (Nat.zero_le _) (fun d os hd => out_impl_Vip_H_enc d os _ hd) ((ev_a3 fu a_0).trans hy)
theorem good_a3 (fu : Nat) : GoodSX E Try.prog 108 (S_a3 fu) := by
 intro xs ins o h y hy
 unfold S_a3 at h
 split at h
 ·rename_i a0_1 a0_2 a0_3 za0_4 na0_4 fa0_4
  cases h
  exact goodv_a3 fu (⟨a0_1, a0_2, a0_3, (⟨za0_4, na0_4, fa0_4⟩ : (Sl Int))⟩ : S_impl_Vip) y hy
 ·cases h
def F_laws_toVipS_U_B0 {ρ : Type} (fu : Nat) (a0_0 : (Sl S_impl_Vip)) (out3_1 on0_3 : Nat) (k0 : Nat → (Nat → S_impl_Vip) → Option ρ) (i4_2 : Int) (op0_4 : Nat) (of0_5 : (Nat → S_impl_Vip)) (go : Int → Nat → (Nat → S_impl_Vip) → Option ρ) : Option ρ :=
 (bif (decide (i4_2 < ((a0_0.n : Nat) : Int))) then ((bif (decide (0 ≤ i4_2) && decide ((Int.toNat i4_2) < a0_0.n)) then some () else none : Option Unit).bind fun _ =>
  ((F_laws_toVip_H fu (a0_0.f (Int.toNat i4_2))).bind fun y12 => ((bif (decide (0 ≤ i4_2) && decide ((Int.toNat i4_2) < out3_1)) then some () else none : Option Unit).bind fun _ =>
  (bif (decide ((Int.toNat i4_2) = op0_4)) then (go (IntKind.wrap .i64 (i4_2 + 1)) (op0_4 + 1) (fun j => if j = (Int.toNat i4_2) then (⟨y12.Address, y12.Port, y12.Proto, (⟨none,
  y12.Names.n, y12.Names.f⟩ : (Sl Int))⟩ : S_impl_Vip) else of0_5 j)) else none)))) else (k0 op0_4 of0_5))
def F_laws_toVipS_U (fu : Nat) (a_0 : (Sl S_impl_Vip)) : Option (Nat × Nat × (Nat → S_impl_Vip)) :=
 (bif (decide (0 ≤ ((a_0.n : Nat) : Int)) && (decide (((a_0.n : Nat) : Int) = ((a_0.n : Nat) : Int)) && (decide ((48 : Int) * ((a_0.n : Nat) : Int) ≤ 281474976710656) && decide (((a_0.n : Nat) : Int) ≤ 9223372036854775807)))) then
  (L (fun w0 go0 => F_laws_toVipS_U_B0 fu a_0 (Int.toNat ((a_0.n : Nat) : Int)) (Int.toNat ((a_0.n : Nat) : Int)) (fun z13 z14 => (bif (decide ((Int.toNat ((a_0.n : Nat) : Int)) ≤ z13) &&
  true) then (bif (decide ((Int.toNat ((a_0.n : Nat) : Int)) = (Int.toNat ((a_0.n : Nat) : Int))) && true) then (some ((Int.toNat ((a_0.n : Nat) : Int)), (Int.toNat ((a_0.n : Nat) : Int)),
  z14)) else none) else none)) w0.1 w0.2.1 w0.2.2 (fun q0 q1 q2 => go0 (q0, q1, q2))) fu ((0, 0, (fun _ => (⟨0, 0, 0, (⟨(some true), 0, (fun _ => dflt .i64)⟩ : (Sl Int))⟩ : S_impl_Vip))) : Int × Nat × (Nat → S_impl_Vip))) else
  none)
def pcx_a4 (fu f : Nat) (xs : List (D RT den)) (ins : List (Ob RT den)) : Option (OutX RT den) := match f with | 108 => S_a3 fu xs ins | _ => none
def pcd_a4 : Nat → Bool := fun _ => false
def pc_a4 (fu : Nat) : Pc RT den := ⟨pcf0, fun f => match f with | 108 => true | _ => false, fun _ => false, pcd_a4, pcd0, pcd0, pcx_a4 fu⟩
def msk_a4 (b : Nat) : List Nat := match b with | 0 => (1 :: 2 :: (rg 5 18 [])) | 100000 => (0 :: 1 :: (rg 4 19 [])) | 300000 => [5000000] | _ => []
def ps_a4_0 : List (Pat RT) := (.flat (.rs .impl_Vip) :: .flat .q :: .flat .q :: .flat (.os 0) :: .flat (.int .i64) :: (fq 18 []))
def os_a4_0 : List (OP RT) := [.deep false .impl_Vip]
def conv_a4_0 (r : Raw den ps_a4_0 os_a4_0) : ((Sl S_impl_Vip) × Nat × Nat) × (Int × Nat × (Nat → S_impl_Vip)) := ((r.1.1, r.1.2.2.2.1, r.2.1.1), (r.1.2.2.2.2.1, r.2.1.2.1, r.2.1.2.2))
def back_a4_0 (c : (Sl S_impl_Vip) × Nat × Nat) (w : Int × Nat × (Nat → S_impl_Vip)) : St RT den := ⟨((.rs c.1.z .impl_Vip c.1.n c.1.f) :: .q :: .q :: (.os 0 c.2.1) :: (ii w.1) :: (qs 18 [])), [(.deep false .impl_Vip c.2.2 w.2.1 w.2.2)]⟩
def Bk_a4_0 {ρ : Type} (fu : Nat) (c : (Sl S_impl_Vip) × Nat × Nat) (k : Ex → St RT den → Option ρ) (w : Int × Nat × (Nat → S_impl_Vip)) (go : (Int × Nat × (Nat → S_impl_Vip)) → Option ρ) : Option ρ := F_laws_toVipS_U_B0 fu c.1 c.2.1 c.2.2 (fun a0 a1 => k (.exit 0) ⟨(.q :: .q :: .q :: (.os 0 c.2.1) :: (qs 19 [])), [(.deep false .impl_Vip c.2.2 a0 a1)]⟩) w.1 w.2.1 w.2.2 (fun q0 q1 q2 => go (q0, q1, q2))
def lp_a4 (fu : Nat) : Lp RT den (Nat × Nat × (Nat → S_impl_Vip)) := ⟨fun b s k => match b with | 0 => handle ps_a4_0 os_a4_0 conv_a4_0 (Bk_a4_0 fu) fu s k | _ => none, inl0⟩
def pso_a4 : List (Pat RT) := [.flat (.os 0)]
def oso_a4 : List (OP RT) := [.deep false .impl_Vip]
def conv_a4 (r : Raw den pso_a4 oso_a4) : Nat × Nat × (Nat → S_impl_Vip) := (r.1.1, r.2.1.1, r.2.1.2.2)
def enc_a4 (y : Nat × Nat × (Nat → S_impl_Vip)) : D RT den × List (Ob RT den) := ((.os 0 y.1), [(.deep false .impl_Vip y.2.1 y.2.1 y.2.2)])
def chk_a4 (r : Raw den pso_a4 oso_a4) : Bool := (decide (r.2.1.2.1 = r.2.1.1) && true)
def raw_a4 (r : Raw den pso_a4 oso_a4) : St RT den := ⟨[(.os 0 r.1.1)], [(.deep false .impl_Vip r.2.1.1 r.2.1.2.1 r.2.1.2.2)]⟩
theorem chkd_a4 (r : Raw den pso_a4 oso_a4) (h : chk_a4 r = true) : raw_a4 r = ⟨[(enc_a4 (conv_a4 r)).1], (enc_a4 (conv_a4 r)).2⟩ := by
 simp only [chk_a4, Bool.and_eq_true, decide_eq_true_eq, and_true] at h
 simp only [raw_a4, enc_a4, conv_a4, h, e5, e10, e20, e40]
def out_a4 (d : D RT den) (os : List (Ob RT den)) : Option (Nat × Nat × (Nat → S_impl_Vip)) := (unSt pso_a4 oso_a4 ⟨[d], os⟩).bind fun v => bif chk_a4 v.1 then some (conv_a4 v.1) else none
theorem out_a4_enc (d : D RT den) (os : List (Ob RT den)) (y : Nat × Nat × (Nat → S_impl_Vip)) (h : out_a4 d os = some y) : d = (enc_a4 y).1 ∧ os = (enc_a4 y).2 :=
 outU (conv := conv_a4) (enc := enc_a4) (chk := chk_a4) (fun raw h => Eq.trans (by kernel_rfl) (chkd_a4 raw h)) h
theorem ev_a4 (fu : Nat) (a_0 : (Sl S_impl_Vip)) : evFunU E (pc_a4 fu) msk_a4 (lp_a4 fu) out_a4 61 [(.rs a_0.z .impl_Vip a_0.n a_0.f)] [] = F_laws_toVipS_U fu a_0 := by kernel_rfl
noncomputable def body_a4 : Code := Try.f61.body.getD .skip
noncomputable def lc_a4_0 : Code := ((loops 0 body_a4).getD 0 (0, .skip)).2
theorem round_a4_0 (fu : Nat) : RoundOk E (pc_a4 fu) msk_a4 (lp_a4 fu) 0 lc_a4_0 back_a4_0 0 100000 1 (Bk_a4_0 fu) := fun it k c w => by kernel_rfl
theorem lpok_a4_0 (fu : Nat) : LpAt E (pc_a4 fu) msk_a4 (lp_a4 fu) 0 0 100000 0 lc_a4_0 :=
 handle_ok (ps := ps_a4_0) (os := os_a4_0) (conv := conv_a4_0) (B := Bk_a4_0 fu) (fu := fu) back_a4_0 (fun raw => by kernel_rfl) 1 (fun c w => by kernel_rfl) (round_a4_0 fu)
theorem lpok_a4 (fu : Nat) : LpOk E (pc_a4 fu) 0 msk_a4 (lp_a4 fu) (loops 0 body_a4) := lp_nil (loop_all 1 (by kernel_rfl) fun i hi => match i, hi with
 | 0, _ => by
  have h : (loops 0 body_a4).getD 0 (0, .skip) = (0, lc_a4_0) := by kernel_rfl
  rw [h]; exact lpok_a4_0 fu
 | i + 1, hi => absurd hi (by omega)) (by kernel_rfl)
def S_a4 (fu : Nat) (xs : List (D RT den)) (ins : List (Ob RT den)) : Option (OutX RT den) := match xs, ins with | [.rs za0_0 .impl_Vip na0_0 fa0_0], [] => some ⟨Nat × Nat × (Nat → S_impl_Vip), F_laws_toVipS_U fu (⟨za0_0, na0_0, fa0_0⟩ : (Sl S_impl_Vip)), enc_a4⟩ | _, _ => none
theorem hpx_a4 (fu : Nat) : HpxOk E Try.prog pcd_a4 pcd0 (pcx_a4 fu) := by
 intro f xs ins o h
 unfold pcx_a4 at h
 split at h
 ·exact good_a3 fu xs ins o h
 ·cases h
theorem goodv_a4 (fu : Nat) (a_0 : (Sl S_impl_Vip)) (y : Nat × Nat × (Nat → S_impl_Vip)) (hy : F_laws_toVipS_U fu a_0 = some y) : GoodD E Try.prog 61 [(.rs a_0.z .impl_Vip a_0.n a_0.f)] [] (enc_a4 y).1 (enc_a4 y).2 :=
 funU_good E_ok (pc_good (pc := pc_a4 fu) hpc0 (hpx_a4 fu)) (fn := Try.f61) (by kernel_rfl) (by kernel_rfl) (by kernel_rfl) (lpok_a4 fu) (by kernel_rfl) (Nat.le_of_ble_eq_true (by kernel_rfl)) (Fulls.get 0 (And.intro (Nat.le_refl _) trivial)) (fun d os hd => out_a4_enc d os _ hd) ((ev_a4 fu a_0).trans hy)
theorem good_a4 (fu : Nat) : GoodSD E Try.prog 61 (S_a4 fu) := by
 intro xs ins o h y hy
 unfold S_a4 at h
 split at h
 ·rename_i za0_0 na0_0 fa0_0
  cases h
  exact goodv_a4 fu (⟨za0_0, na0_0, fa0_0⟩ : (Sl S_impl_Vip)) y hy
 ·cases h
def F_laws_toConfig_U (fu : Nat) (a_0 : S_laws_Config) : Option (Ya1) :=
 ((F_laws_toBackendS_H fu a_0.Backends).bind fun y6 => ((F_laws_toVipS_U fu a_0.Vips).bind fun y15 => (bif (decide (y15.1 ≤ y15.2.1) && true) then (bif (decide (y15.1 = y15.1) &&
  true) then (some (a_0.Version, y6.n, y15.1, y6.n, y6.f, y15.1, y15.2.2)) else none) else none)))
def pcx_a5 (fu f : Nat) (xs : List (D RT den)) (ins : List (Ob RT den)) : Option (OutX RT den) := match f with | 60 => S_a1 fu xs ins | 61 => S_a4 fu xs ins | _ => none
def pcd_a5 : Nat → Bool := fun f => match f with | 61 => true | _ => false
def pc_a5 (fu : Nat) : Pc RT den := ⟨pcf0, fun f => match f with | 60 => true | 61 => true | _ => false, fun _ => false, pcd_a5, pcd0, pcd0, pcx_a5 fu⟩
def msk_a5 (b : Nat) : List Nat := []
def lp_a5 (fu : Nat) : Lp RT den (Ya1) := ⟨fun b s k => none, inl0⟩
def pso_a5 : List (Pat RT) := [.agg [(.int .i64), (.os 0), (.os 1)]]
def oso_a5 : List (OP RT) := [.row false .impl_Backend, .deep false .impl_Vip]
def conv_a5 (r : Raw den pso_a5 oso_a5) : Ya1 := (r.1.1.1, r.1.1.2.1, r.1.1.2.2.1, r.2.1.1, r.2.1.2, r.2.2.1.1, r.2.2.1.2.2)
def enc_a5 (y : Ya1) : D RT den × List (Ob RT den) := ((.agg [(.int .i64 y.1), (.os 0 y.2.1), (.os 1 y.2.2.1)]), [(.row false .impl_Backend y.2.2.2.1 y.2.2.2.2.1), (.deep false .impl_Vip y.2.2.2.2.2.1 y.2.2.2.2.2.1 y.2.2.2.2.2.2)])
def chk_a5 (r : Raw den pso_a5 oso_a5) : Bool := (decide (r.2.2.1.2.1 = r.2.2.1.1) && true)
def raw_a5 (r : Raw den pso_a5 oso_a5) : St RT den := ⟨[(.agg [(.int .i64 r.1.1.1), (.os 0 r.1.1.2.1), (.os 1 r.1.1.2.2.1)])], [(.row false .impl_Backend r.2.1.1 r.2.1.2), (.deep false .impl_Vip r.2.2.1.1 r.2.2.1.2.1 r.2.2.1.2.2)]⟩
theorem chkd_a5 (r : Raw den pso_a5 oso_a5) (h : chk_a5 r = true) : raw_a5 r = ⟨[(enc_a5 (conv_a5 r)).1], (enc_a5 (conv_a5 r)).2⟩ := by
 simp only [chk_a5, Bool.and_eq_true, decide_eq_true_eq, and_true] at h
 simp only [raw_a5, enc_a5, conv_a5, h, e5, e10, e20, e40]
def out_a5 (d : D RT den) (os : List (Ob RT den)) : Option (Ya1) := (unSt pso_a5 oso_a5 ⟨[d], os⟩).bind fun v => bif chk_a5 v.1 then some (conv_a5 v.1) else none
theorem out_a5_enc (d : D RT den) (os : List (Ob RT den)) (y : Ya1) (h : out_a5 d os = some y) : d = (enc_a5 y).1 ∧ os = (enc_a5 y).2 :=
 outU (conv := conv_a5) (enc := enc_a5) (chk := chk_a5) (fun raw h => Eq.trans (by kernel_rfl) (chkd_a5 raw h)) h
theorem ev_a5 (fu : Nat) (a_0 : S_laws_Config) : evFunU E (pc_a5 fu) msk_a5 (lp_a5 fu) out_a5 28 [(.agg [(ii a_0.Version), (.rs a_0.Backends.z .impl_Backend a_0.Backends.n a_0.Backends.f), (.rs a_0.Vips.z .impl_Vip a_0.Vips.n a_0.Vips.f)])] [] = F_laws_toConfig_U fu a_0 := by kernel_rfl
noncomputable def body_a5 : Code := Try.f28.body.getD .skip
theorem lpok_a5 (fu : Nat) : LpOk E (pc_a5 fu) 0 msk_a5 (lp_a5 fu) (loops 0 body_a5) := lp_nil (loop_nil (by kernel_rfl)) (by kernel_rfl)
def S_a5 (fu : Nat) (xs : List (D RT den)) (ins : List (Ob RT den)) : Option (OutX RT den) := match xs, ins with | [.agg [.int .i64 a0_1, .rs za0_2 .impl_Backend na0_2 fa0_2, .rs za0_3 .impl_Vip na0_3 fa0_3]], [] => some ⟨Ya1, F_laws_toConfig_U fu (⟨a0_1, (⟨za0_2, na0_2, fa0_2⟩ : (Sl S_impl_Backend)), (⟨za0_3, na0_3, fa0_3⟩ : (Sl S_impl_Vip))⟩ : S_laws_Config), enc_a5⟩ | _, _ => none
theorem hpx_a5 (fu : Nat) : HpxOk E Try.prog pcd_a5 pcd0 (pcx_a5 fu) := by
 intro f xs ins o h
 unfold pcx_a5 at h
 split at h
 ·exact good_a1 fu xs ins o h
 ·exact good_a4 fu xs ins o h
 ·cases h
theorem goodv_a5 (fu : Nat) (a_0 : S_laws_Config) (y : Ya1) (hy : F_laws_toConfig_U fu a_0 = some y) : GoodD E Try.prog 28 [(.agg [(ii a_0.Version), (.rs a_0.Backends.z .impl_Backend a_0.Backends.n a_0.Backends.f), (.rs a_0.Vips.z .impl_Vip a_0.Vips.n a_0.Vips.f)])] [] (enc_a5 y).1 (enc_a5 y).2 :=
 funU_good E_ok (pc_good (pc := pc_a5 fu) hpc0 (hpx_a5 fu)) (fn := Try.f28) (by kernel_rfl) (by kernel_rfl) (by kernel_rfl) (lpok_a5 fu) (by kernel_rfl) (Nat.le_of_ble_eq_true (by kernel_rfl)) (Fulls.get 0 (And.intro (Nat.le_refl _) trivial)) (fun d os hd => out_a5_enc d os _ hd) ((ev_a5 fu a_0).trans hy)
theorem good_a5 (fu : Nat) : GoodSD E Try.prog 28 (S_a5 fu) := by
 intro xs ins o h y hy
 unfold S_a5 at h
 split at h
 ·rename_i a0_1 za0_2 na0_2 fa0_2 za0_3 na0_3 fa0_3
  cases h
  exact goodv_a5 fu (⟨a0_1, (⟨za0_2, na0_2, fa0_2⟩ : (Sl S_impl_Backend)), (⟨za0_3, na0_3, fa0_3⟩ : (Sl S_impl_Vip))⟩ : S_laws_Config) y hy
 ·cases h
def F_laws_toByteS_H_B0 {ρ : Type} (fu : Nat) (a0_0 : (Sl Int)) (out3_1 on0_3 : Nat) (k0 : (Nat → Int) → Option ρ) (i4_2 : Int) (of0_4 : (Nat → Int)) (go : Int → (Nat → Int) → Option ρ) : Option ρ :=
 (bif (decide (i4_2 < ((a0_0.n : Nat) : Int))) then ((bif (decide (0 ≤ i4_2) && decide ((Int.toNat i4_2) < a0_0.n)) then some () else none : Option Unit).bind fun _ => ((bif (decide (0 ≤ i4_2) &&
  decide ((Int.toNat i4_2) < out3_1)) then some () else none : Option Unit).bind fun _ => (go (IntKind.wrap .i64 (i4_2 + 1)) (fun j => if j = (Int.toNat i4_2) then (a0_0.f (Int.toNat i4_2)) else
  of0_4 j)))) else (k0 of0_4))
def F_laws_toByteS_H (fu : Nat) (a_0 : (Sl Int)) : Option ((Sl Int)) :=
 (bif (decide (0 ≤ ((a_0.n : Nat) : Int)) && (decide (((a_0.n : Nat) : Int) = ((a_0.n : Nat) : Int)) && (decide ((1 : Int) * ((a_0.n : Nat) : Int) ≤ 281474976710656) && decide (((a_0.n : Nat) : Int) ≤ 9223372036854775807)))) then
  (L (fun w0 go0 => F_laws_toByteS_H_B0 fu a_0 (Int.toNat ((a_0.n : Nat) : Int)) (Int.toNat ((a_0.n : Nat) : Int)) (fun z18 => (some (⟨none, (Int.toNat ((a_0.n : Nat) : Int)),
  z18⟩ : (Sl Int)))) w0.1 w0.2 (fun q0 q1 => go0 (q0, q1))) fu ((0, (fun _ => 0)) : Int × (Nat → Int))) else none)
def pc_a6 (fu : Nat) : Pc RT den := ⟨pcf0, fun _ => false, fun _ => false, pcd0, pcd0, pcd0, pcx0⟩
def msk_a6 (b : Nat) : List Nat := match b with | 0 => (1 :: 2 :: (rg 5 17 [])) | 100000 => (0 :: 1 :: (rg 4 18 [])) | _ => []
def ps_a6_0 : List (Pat RT) := (.flat (.rs .u8) :: .flat .q :: .flat .q :: .flat (.os 0) :: .flat (.int .i64) :: (fq 17 []))
def os_a6_0 : List (OP RT) := [.row false .u8]
def conv_a6_0 (r : Raw den ps_a6_0 os_a6_0) : ((Sl Int) × Nat × Nat) × (Int × (Nat → Int)) := ((r.1.1, r.1.2.2.2.1, r.2.1.1), (r.1.2.2.2.2.1, r.2.1.2))
def back_a6_0 (c : (Sl Int) × Nat × Nat) (w : Int × (Nat → Int)) : St RT den := ⟨((.rs c.1.z .u8 c.1.n c.1.f) :: .q :: .q :: (.os 0 c.2.1) :: (ii w.1) :: (qs 17 [])), [(.row false .u8 c.2.2 w.2)]⟩
def Bk_a6_0 {ρ : Type} (fu : Nat) (c : (Sl Int) × Nat × Nat) (k : Ex → St RT den → Option ρ) (w : Int × (Nat → Int)) (go : (Int × (Nat → Int)) → Option ρ) : Option ρ := F_laws_toByteS_H_B0 fu c.1 c.2.1 c.2.2 (fun a0 => k (.exit 0) ⟨(.q :: .q :: .q :: (.os 0 c.2.1) :: (qs 18 [])), [(.row false .u8 c.2.2 a0)]⟩) w.1 w.2 (fun q0 q1 => go (q0, q1))
def lp_a6 (fu : Nat) : Lp RT den ((Sl Int)) := ⟨fun b s k => match b with | 0 => handle ps_a6_0 os_a6_0 conv_a6_0 (Bk_a6_0 fu) fu s k | _ => none, inl0⟩
theorem ev_a6 (fu : Nat) (a_0 : (Sl Int)) : evFunX E false (pc_a6 fu) msk_a6 (lp_a6 fu) out_sl_u8_H 7 [(.rs a_0.z .u8 a_0.n a_0.f)] [] = F_laws_toByteS_H fu a_0 := by kernel_rfl
noncomputable def body_a6 : Code := Try.f7.body.getD .skip
noncomputable def lc_a6_0 : Code := ((loops 0 body_a6).getD 0 (0, .skip)).2
theorem round_a6_0 (fu : Nat) : RoundOk E (pc_a6 fu) msk_a6 (lp_a6 fu) 0 lc_a6_0 back_a6_0 0 100000 1 (Bk_a6_0 fu) := fun it k c w => by kernel_rfl
theorem lpok_a6_0 (fu : Nat) : LpAt E (pc_a6 fu) msk_a6 (lp_a6 fu) 0 0 100000 0 lc_a6_0 :=
 handle_ok (ps := ps_a6_0) (os := os_a6_0) (conv := conv_a6_0) (B := Bk_a6_0 fu) (fu := fu) back_a6_0 (fun raw => by kernel_rfl) 1 (fun c w => by kernel_rfl) (round_a6_0 fu)
theorem lpok_a6 (fu : Nat) : LpOk E (pc_a6 fu) 0 msk_a6 (lp_a6 fu) (loops 0 body_a6) := lp_nil (loop_all 1 (by kernel_rfl) fun i hi => match i, hi with
 | 0, _ => by
  have h : (loops 0 body_a6).getD 0 (0, .skip) = (0, lc_a6_0) := by kernel_rfl
  rw [h]; exact lpok_a6_0 fu
 | i + 1, hi => absurd hi (by omega)) (by kernel_rfl)
def S_a6 (fu : Nat) (xs : List (D RT den)) (ins : List (Ob RT den)) : Option (OutX RT den) := match xs, ins with | [.rs za0_0 .u8 na0_0 fa0_0], [] => some ⟨(Sl Int), F_laws_toByteS_H fu (⟨za0_0, na0_0, fa0_0⟩ : (Sl Int)), enc_sl_u8_H⟩ | _, _ => none
theorem goodv_a6 (fu : Nat) (a_0 y : (Sl Int)) (hy : F_laws_toByteS_H fu a_0 = some y) : GoodX E Try.prog 7 [(.rs a_0.z .u8 a_0.n a_0.f)] [] (enc_sl_u8_H y).1 (enc_sl_u8_H y).2 :=
 funX_good (ke := false) E_ok (pc_good (pc := pc_a6 fu) hpc0 hpx0) (fn := Try.f7) (by kernel_rfl) (by kernel_rfl) (by kernel_rfl) (lpok_a6 fu) (by kernel_rfl) (Nat.zero_le _) (fun d os hd => out_sl_u8_H_enc d os _ hd) ((ev_a6 fu a_0).trans hy)
theorem good_a6 (fu : Nat) : GoodSX E Try.prog 7 (S_a6 fu) := by
 intro xs ins o h y hy
 unfold S_a6 at h
 split at h
 ·rename_i za0_0 na0_0 fa0_0
  cases h
  exact goodv_a6 fu (⟨za0_0, na0_0, fa0_0⟩ : (Sl Int)) y hy
 ·cases h
def F_laws_szBackendS (fu : Nat) (a_0 : (Sl S_impl_Backend)) (left_1 : Int) : Option (Int) :=
 (bif (decide ((IntKind.wrap .i64 (left_1 - ((a_0.n : Nat) : Int))) < 0)) then (some (-1)) else (some (IntKind.wrap .i64 (left_1 - ((a_0.n : Nat) : Int)))))
def pc_a7 (fu : Nat) : Pc RT den := ⟨pcf0, fun _ => false, fun _ => false, pcd0, pcd0, pcd0, pcx0⟩
def msk_a7 (b : Nat) : List Nat := []
def lp_a7 (fu : Nat) : Lp RT den (Int) := ⟨fun b s k => none, inl0⟩
theorem ev_a7 (fu : Nat) (a_0 : (Sl S_impl_Backend)) (left_1 : Int) : evFun E (pc_a7 fu) msk_a7 (lp_a7 fu) out_i64 53 [(.rs a_0.z .impl_Backend a_0.n a_0.f), (ii left_1)] = F_laws_szBackendS fu a_0 left_1 := by kernel_rfl
noncomputable def body_a7 : Code := Try.f53.body.getD .skip
theorem lpok_a7 (fu : Nat) : LpOk E (pc_a7 fu) 0 msk_a7 (lp_a7 fu) (loops 0 body_a7) := lp_nil (loop_nil (by kernel_rfl)) (by kernel_rfl)
def S_a7 (fu : Nat) (xs : List (D RT den)) : Option (Out RT den) := match xs with | [.rs za0_0 .impl_Backend na0_0 fa0_0, .int .i64 a1_0] => some ⟨Int, F_laws_szBackendS fu (⟨za0_0, na0_0, fa0_0⟩ : (Sl S_impl_Backend)) a1_0, enc_i64, fun _ => true⟩ | _ => none
theorem goodv_a7 (fu : Nat) (a_0 : (Sl S_impl_Backend)) (left_1 y : Int) (hy : F_laws_szBackendS fu a_0 left_1 = some y) : Vm.Good E Try.prog 53 [(.rs a_0.z .impl_Backend a_0.n a_0.f), (ii left_1)] (enc_i64 y) :=
 fun_good E_ok (pc_good (pc := pc_a7 fu) hpc0 hpx0) (fn := Try.f53) (by kernel_rfl) (by kernel_rfl) (by kernel_rfl) (lpok_a7 fu) (fun d hd => out_i64_enc d _ hd) ((ev_a7 fu a_0 left_1).trans hy)
theorem good_a7 (fu : Nat) : GoodS E Try.prog 53 (S_a7 fu) := by
 intro xs o h y hy
 unfold S_a7 at h
 split at h
 ·rename_i za0_0 na0_0 fa0_0 a1_0
  cases h
  exact goodv_a7 fu (⟨za0_0, na0_0, fa0_0⟩ : (Sl S_impl_Backend)) a1_0 y hy
 ·cases h
def F_laws_szInt64S (fu : Nat) (a_0 : (Sl Int)) (left_1 : Int) : Option (Int) :=
 (bif (decide ((IntKind.wrap .i64 (left_1 - ((a_0.n : Nat) : Int))) < 0)) then (some (-1)) else (some (IntKind.wrap .i64 (left_1 - ((a_0.n : Nat) : Int)))))
def pc_a8 (fu : Nat) : Pc RT den := ⟨pcf0, fun _ => false, fun _ => false, pcd0, pcd0, pcd0, pcx0⟩
def msk_a8 (b : Nat) : List Nat := []
def lp_a8 (fu : Nat) : Lp RT den (Int) := ⟨fun b s k => none, inl0⟩
theorem ev_a8 (fu : Nat) (a_0 : (Sl Int)) (left_1 : Int) : evFun E (pc_a8 fu) msk_a8 (lp_a8 fu) out_i64 130 [(.rs a_0.z .i64 a_0.n a_0.f), (ii left_1)] = F_laws_szInt64S fu a_0 left_1 := by kernel_rfl
noncomputable def body_a8 : Code := Try.f130.body.getD .skip
theorem lpok_a8 (fu : Nat) : LpOk E (pc_a8 fu) 0 msk_a8 (lp_a8 fu) (loops 0 body_a8) := lp_nil (loop_nil (by kernel_rfl)) (by kernel_rfl)
def S_a8 (fu : Nat) (xs : List (D RT den)) : Option (Out RT den) := match xs with | [.rs za0_0 .i64 na0_0 fa0_0, .int .i64 a1_0] => some ⟨Int, F_laws_szInt64S fu (⟨za0_0, na0_0, fa0_0⟩ : (Sl Int)) a1_0, enc_i64, fun _ => true⟩ | _ => none
theorem goodv_a8 (fu : Nat) (a_0 : (Sl Int)) (left_1 y : Int) (hy : F_laws_szInt64S fu a_0 left_1 = some y) : Vm.Good E Try.prog 130 [(.rs a_0.z .i64 a_0.n a_0.f), (ii left_1)] (enc_i64 y) :=
 fun_good E_ok (pc_good (pc := pc_a8 fu) hpc0 hpx0) (fn := Try.f130) (by kernel_rfl) (by kernel_rfl) (by kernel_rfl) (lpok_a8 fu) (fun d hd => out_i64_enc d _ hd) ((ev_a8 fu a_0 left_1).trans hy)
theorem good_a8 (fu : Nat) : GoodS E Try.prog 130 (S_a8 fu) := by
 intro xs o h y hy
 unfold S_a8 at h
 split at h
 ·rename_i za0_0 na0_0 fa0_0 a1_0
  cases h
  exact goodv_a8 fu (⟨za0_0, na0_0, fa0_0⟩ : (Sl Int)) a1_0 y hy
 ·cases h
def F_laws_szVip (fu : Nat) (a_0 : S_impl_Vip) (left_1 : Int) : Option (Int) :=
 ((F_laws_szInt64S fu a_0.Names left_1).bind fun y37 => (bif (decide (y37 < 0)) then (some (-1)) else (some y37)))
def pcf_a9 (fu f : Nat) (xs : List (D RT den)) : Option (Out RT den) := match f with | 130 => S_a8 fu xs | _ => none
def pc_a9 (fu : Nat) : Pc RT den := ⟨pcf_a9 fu, fun _ => false, fun _ => false, pcd0, pcd0, pcd0, pcx0⟩
def msk_a9 (b : Nat) : List Nat := []
def lp_a9 (fu : Nat) : Lp RT den (Int) := ⟨fun b s k => none, inl0⟩
theorem ev_a9 (fu : Nat) (a_0 : S_impl_Vip) (left_1 : Int) : evFun E (pc_a9 fu) msk_a9 (lp_a9 fu) out_i64 104 [(.agg [(ii a_0.Address), (ii a_0.Port), (ii a_0.Proto), (.rs a_0.Names.z .i64 a_0.Names.n a_0.Names.f)]), (ii left_1)] = F_laws_szVip fu a_0 left_1 := by kernel_rfl
noncomputable def body_a9 : Code := Try.f104.body.getD .skip
theorem lpok_a9 (fu : Nat) : LpOk E (pc_a9 fu) 0 msk_a9 (lp_a9 fu) (loops 0 body_a9) := lp_nil (loop_nil (by kernel_rfl)) (by kernel_rfl)
def S_a9 (fu : Nat) (xs : List (D RT den)) : Option (Out RT den) := match xs with | [.agg [.int .i64 a0_1, .int .i64 a0_2, .int .i64 a0_3, .rs za0_4 .i64 na0_4 fa0_4], .int .i64 a1_0] => some ⟨Int, F_laws_szVip fu (⟨a0_1, a0_2, a0_3, (⟨za0_4, na0_4, fa0_4⟩ : (Sl Int))⟩ : S_impl_Vip) a1_0, enc_i64, fun _ => true⟩ | _ => none
theorem hpc_a9 (fu : Nat) : HpcOk E Try.prog (pcf_a9 fu) := by
 intro f xs o h
 unfold pcf_a9 at h
 split at h
 ·exact good_a8 fu xs o h
 ·cases h
theorem goodv_a9 (fu : Nat) (a_0 : S_impl_Vip) (left_1 y : Int) (hy : F_laws_szVip fu a_0 left_1 = some y) : Vm.Good E Try.prog 104 [(.agg [(ii a_0.Address), (ii a_0.Port), (ii a_0.Proto), (.rs a_0.Names.z .i64 a_0.Names.n a_0.Names.f)]), (ii left_1)] (enc_i64 y) :=
 fun_good E_ok (pc_good (pc := pc_a9 fu) (hpc_a9 fu) hpx0) (fn := Try.f104) (by kernel_rfl) (by kernel_rfl) (by kernel_rfl) (lpok_a9 fu) (fun d hd => out_i64_enc d _ hd) ((ev_a9 fu a_0 left_1).trans hy)
theorem good_a9 (fu : Nat) : GoodS E Try.prog 104 (S_a9 fu) := by
 intro xs o h y hy
 unfold S_a9 at h
 split at h
 ·rename_i a0_1 a0_2 a0_3 za0_4 na0_4 fa0_4 a1_0
  cases h
  exact goodv_a9 fu (⟨a0_1, a0_2, a0_3, (⟨za0_4, na0_4, fa0_4⟩ : (Sl Int))⟩ : S_impl_Vip) a1_0 y hy
 ·cases h
def F_laws_szVipS_B0 {ρ : Type} (fu : Nat) (a0_0 : (Sl S_impl_Vip)) (k0 : Int → Option ρ) (k1 : Int → Option ρ) (left1_1 i5_2 : Int) (go : Int → Int → Option ρ) : Option ρ :=
 (bif (decide (i5_2 < ((a0_0.n : Nat) : Int))) then ((bif (decide (0 ≤ i5_2) && decide ((Int.toNat i5_2) < a0_0.n)) then some () else none : Option Unit).bind fun _ =>
  ((F_laws_szVip fu (a0_0.f (Int.toNat i5_2)) left1_1).bind fun y34 => (bif (decide (y34 < 0)) then (k0 y34) else (go y34 (IntKind.wrap .i64 (i5_2 + 1)))))) else (k1 left1_1))
def F_laws_szVipS (fu : Nat) (a_0 : (Sl S_impl_Vip)) (left_1 : Int) : Option (Int) :=
 (bif (decide ((IntKind.wrap .i64 (left_1 - ((a_0.n : Nat) : Int))) < 0)) then (some (-1)) else (L (fun w0 go0 => F_laws_szVipS_B0 fu a_0 (fun z35 => (some (-1))) (fun z36 => (some z36)) w0.1 w0.2 (fun q0 q1 =>
  go0 (q0, q1))) fu (((IntKind.wrap .i64 (left_1 - ((a_0.n : Nat) : Int))), 0) : Int × Int)))
def pcf_a10 (fu f : Nat) (xs : List (D RT den)) : Option (Out RT den) := match f with | 104 => S_a9 fu xs | _ => none
def pc_a10 (fu : Nat) : Pc RT den := ⟨pcf_a10 fu, fun _ => false, fun _ => false, pcd0, pcd0, pcd0, pcx0⟩
def msk_a10 (b : Nat) : List Nat := match b with | 0 => (2 :: 3 :: 4 :: (rg 6 21 [])) | 100000 => (0 :: 2 :: 3 :: (rg 5 22 [])) | _ => []
def ps_a10_0 : List (Pat RT) := (.flat (.rs .impl_Vip) :: .flat (.int .i64) :: .flat .q :: .flat .q :: .flat .q :: .flat (.int .i64) :: (fq 21 []))
def os_a10_0 : List (OP RT) := []
def conv_a10_0 (r : Raw den ps_a10_0 os_a10_0) : ((Sl S_impl_Vip)) × (Int × Int) := (r.1.1, (r.1.2.1, (e5 r.1).1))
def back_a10_0 (c : (Sl S_impl_Vip)) (w : Int × Int) : St RT den := ⟨((.rs c.z .impl_Vip c.n c.f) :: (ii w.1) :: .q :: .q :: .q :: (ii w.2) :: (qs 21 [])), []⟩
def Bk_a10_0 {ρ : Type} (fu : Nat) (c : (Sl S_impl_Vip)) (k : Ex → St RT den → Option ρ) (w : Int × Int) (go : (Int × Int) → Option ρ) : Option ρ := F_laws_szVipS_B0 fu c (fun a0 => k .ret ⟨(.q :: (ii a0) :: .q :: .q :: (ii (-1)) :: (qs 22 [])), []⟩) (fun a0 => k (.exit 0) ⟨(.q :: (ii a0) :: (qs 25 [])), []⟩) w.1 w.2 (fun q0 q1 => go (q0, q1))
def lp_a10 (fu : Nat) : Lp RT den (Int) := ⟨fun b s k => match b with | 0 => handle ps_a10_0 os_a10_0 conv_a10_0 (Bk_a10_0 fu) fu s k | _ => none, inl0⟩
theorem ev_a10 (fu : Nat) (a_0 : (Sl S_impl_Vip)) (left_1 : Int) : evFun E (pc_a10 fu) msk_a10 (lp_a10 fu) out_i64 54 [(.rs a_0.z .impl_Vip a_0.n a_0.f), (ii left_1)] = F_laws_szVipS fu a_0 left_1 := by kernel_rfl
noncomputable def body_a10 : Code := Try.f54.body.getD .skip
noncomputable def lc_a10_0 : Code := ((loops 0 body_a10).getD 0 (0, .skip)).2
theorem round_a10_0 (fu : Nat) : RoundOk E (pc_a10 fu) msk_a10 (lp_a10 fu) 0 lc_a10_0 back_a10_0 0 100000 0 (Bk_a10_0 fu) := fun it k c w => by kernel_rfl
theorem lpok_a10_0 (fu : Nat) : LpAt E (pc_a10 fu) msk_a10 (lp_a10 fu) 0 0 100000 0 lc_a10_0 :=
 handle_ok (ps := ps_a10_0) (os := os_a10_0) (conv := conv_a10_0) (B := Bk_a10_0 fu) (fu := fu) back_a10_0 (fun raw => by kernel_rfl) 0 (fun c w => by kernel_rfl) (round_a10_0 fu)
theorem lpok_a10 (fu : Nat) : LpOk E (pc_a10 fu) 0 msk_a10 (lp_a10 fu) (loops 0 body_a10) := lp_nil (loop_all 1 (by kernel_rfl) fun i hi => match i, hi with
 | 0, _ => by
  have h : (loops 0 body_a10).getD 0 (0, .skip) = (0, lc_a10_0) := by kernel_rfl
  rw [h]; exact lpok_a10_0 fu
 | i + 1, hi => absurd hi (by omega)) (by kernel_rfl)
def S_a10 (fu : Nat) (xs : List (D RT den)) : Option (Out RT den) := match xs with | [.rs za0_0 .impl_Vip na0_0 fa0_0, .int .i64 a1_0] => some ⟨Int, F_laws_szVipS fu (⟨za0_0, na0_0, fa0_0⟩ : (Sl S_impl_Vip)) a1_0, enc_i64, fun _ => true⟩ | _ => none
theorem hpc_a10 (fu : Nat) : HpcOk E Try.prog (pcf_a10 fu) := by
 intro f xs o h
 unfold pcf_a10 at h
 split at h
 ·exact good_a9 fu xs o h
 ·cases h
theorem goodv_a10 (fu : Nat) (a_0 : (Sl S_impl_Vip)) (left_1 y : Int) (hy : F_laws_szVipS fu a_0 left_1 = some y) : Vm.Good E Try.prog 54 [(.rs a_0.z .impl_Vip a_0.n a_0.f), (ii left_1)] (enc_i64 y) :=
 fun_good E_ok (pc_good (pc := pc_a10 fu) (hpc_a10 fu) hpx0) (fn := Try.f54) (by kernel_rfl) (by kernel_rfl) (by kernel_rfl) (lpok_a10 fu) (fun d hd => out_i64_enc d _ hd) ((ev_a10 fu a_0 left_1).trans hy)
theorem good_a10 (fu : Nat) : GoodS E Try.prog 54 (S_a10 fu) := by
 intro xs o h y hy
 unfold S_a10 at h
 split at h
 ·rename_i za0_0 na0_0 fa0_0 a1_0
  cases h
  exact goodv_a10 fu (⟨za0_0, na0_0, fa0_0⟩ : (Sl S_impl_Vip)) a1_0 y hy
 ·cases h
def F_laws_szConfig (fu : Nat) (a_0 : S_laws_Config) (left_1 : Int) : Option (Int) :=
 ((F_laws_szBackendS fu a_0.Backends left_1).bind fun y32 => (bif (decide (y32 < 0)) then (some (-1)) else ((F_laws_szVipS fu a_0.Vips y32).bind fun y33 => (bif (decide (y33 < 0)) then
  (some (-1)) else (some y33)))))
def pcf_a11 (fu f : Nat) (xs : List (D RT den)) : Option (Out RT den) := match f with | 53 => S_a7 fu xs | 54 => S_a10 fu xs | _ => none
def pc_a11 (fu : Nat) : Pc RT den := ⟨pcf_a11 fu, fun _ => false, fun _ => false, pcd0, pcd0, pcd0, pcx0⟩
def msk_a11 (b : Nat) : List Nat := []
def lp_a11 (fu : Nat) : Lp RT den (Int) := ⟨fun b s k => none, inl0⟩
theorem ev_a11 (fu : Nat) (a_0 : S_laws_Config) (left_1 : Int) : evFun E (pc_a11 fu) msk_a11 (lp_a11 fu) out_i64 26 [(.agg [(ii a_0.Version), (.rs a_0.Backends.z .impl_Backend a_0.Backends.n a_0.Backends.f), (.rs a_0.Vips.z .impl_Vip a_0.Vips.n a_0.Vips.f)]), (ii left_1)] = F_laws_szConfig fu a_0 left_1 := by kernel_rfl
noncomputable def body_a11 : Code := Try.f26.body.getD .skip
theorem lpok_a11 (fu : Nat) : LpOk E (pc_a11 fu) 0 msk_a11 (lp_a11 fu) (loops 0 body_a11) := lp_nil (loop_nil (by kernel_rfl)) (by kernel_rfl)
def S_a11 (fu : Nat) (xs : List (D RT den)) : Option (Out RT den) := match xs with | [.agg [.int .i64 a0_1, .rs za0_2 .impl_Backend na0_2 fa0_2, .rs za0_3 .impl_Vip na0_3 fa0_3], .int .i64 a1_0] => some ⟨Int, F_laws_szConfig fu (⟨a0_1, (⟨za0_2, na0_2, fa0_2⟩ : (Sl S_impl_Backend)), (⟨za0_3, na0_3, fa0_3⟩ : (Sl S_impl_Vip))⟩ : S_laws_Config) a1_0, enc_i64, fun _ => true⟩ | _ => none
theorem hpc_a11 (fu : Nat) : HpcOk E Try.prog (pcf_a11 fu) := by
 intro f xs o h
 unfold pcf_a11 at h
 split at h
 ·exact good_a7 fu xs o h
 ·exact good_a10 fu xs o h
 ·cases h
theorem goodv_a11 (fu : Nat) (a_0 : S_laws_Config) (left_1 y : Int) (hy : F_laws_szConfig fu a_0 left_1 = some y) : Vm.Good E Try.prog 26 [(.agg [(ii a_0.Version), (.rs a_0.Backends.z .impl_Backend a_0.Backends.n a_0.Backends.f), (.rs a_0.Vips.z .impl_Vip a_0.Vips.n a_0.Vips.f)]), (ii left_1)] (enc_i64 y) :=
 fun_good E_ok (pc_good (pc := pc_a11 fu) (hpc_a11 fu) hpx0) (fn := Try.f26) (by kernel_rfl) (by kernel_rfl) (by kernel_rfl) (lpok_a11 fu) (fun d hd => out_i64_enc d _ hd) ((ev_a11 fu a_0 left_1).trans hy)
theorem good_a11 (fu : Nat) : GoodS E Try.prog 26 (S_a11 fu) := by
 intro xs o h y hy
 unfold S_a11 at h
 split at h
 ·rename_i a0_1 za0_2 na0_2 fa0_2 za0_3 na0_3 fa0_3 a1_0
  cases h
  exact goodv_a11 fu (⟨a0_1, (⟨za0_2, na0_2, fa0_2⟩ : (Sl S_impl_Backend)), (⟨za0_3, na0_3, fa0_3⟩ : (Sl S_impl_Vip))⟩ : S_laws_Config) a1_0 y hy
 ·cases h
def F_spec_l1In (fu : Nat) (v_0 low_1 high_2 : Int) : Option (Bool) :=
 (((bif (decide (v_0 ≥ low_1)) then (some (decide (v_0 ≤ high_2))) else (some false)) : Option Bool).bind fun m45 => (some m45))
def pc_a12 (fu : Nat) : Pc RT den := ⟨pcf0, fun _ => false, fun _ => false, pcd0, pcd0, pcd0, pcx0⟩
def msk_a12 (b : Nat) : List Nat := match b with | 200001 => [6] | _ => []
def lp_a12 (fu : Nat) : Lp RT den (Bool) := ⟨fun b s k => none, inl0⟩
theorem ev_a12 (fu : Nat) (v_0 low_1 high_2 : Int) : evFun E (pc_a12 fu) msk_a12 (lp_a12 fu) out_bo 96 [(ii v_0), (ii low_1), (ii high_2)] = F_spec_l1In fu v_0 low_1 high_2 := by kernel_rfl
noncomputable def body_a12 : Code := Try.f96.body.getD .skip
theorem lpok_a12 (fu : Nat) : LpOk E (pc_a12 fu) 0 msk_a12 (lp_a12 fu) (loops 0 body_a12) := lp_nil (loop_nil (by kernel_rfl)) (by kernel_rfl)
def S_a12 (fu : Nat) (xs : List (D RT den)) : Option (Out RT den) := match xs with | [.int .i64 a0_0, .int .i64 a1_0, .int .i64 a2_0] => some ⟨Bool, F_spec_l1In fu a0_0 a1_0 a2_0, enc_bo, fun _ => true⟩ | _ => none
theorem goodv_a12 (fu : Nat) (v_0 low_1 high_2 : Int) (y : Bool) (hy : F_spec_l1In fu v_0 low_1 high_2 = some y) : Vm.Good E Try.prog 96 [(ii v_0), (ii low_1), (ii high_2)] (enc_bo y) :=
 fun_good E_ok (pc_good (pc := pc_a12 fu) hpc0 hpx0) (fn := Try.f96) (by kernel_rfl) (by kernel_rfl) (by kernel_rfl) (lpok_a12 fu) (fun d hd => out_bo_enc d _ hd) ((ev_a12 fu v_0 low_1 high_2).trans hy)
theorem good_a12 (fu : Nat) : GoodS E Try.prog 96 (S_a12 fu) := by
 intro xs o h y hy
 unfold S_a12 at h
 split at h
 ·rename_i a0_0 a1_0 a2_0
  cases h
  exact goodv_a12 fu a0_0 a1_0 a2_0 y hy
 ·cases h
def F_spec_l5Version (fu : Nat) (v_0 : Int) : Option (Bool) :=
 ((F_spec_l1In fu v_0 0 1000000).bind fun y44 => (some y44))
def pcf_a13 (fu f : Nat) (xs : List (D RT den)) : Option (Out RT den) := match f with | 96 => S_a12 fu xs | _ => none
def pc_a13 (fu : Nat) : Pc RT den := ⟨pcf_a13 fu, fun _ => false, fun _ => false, pcd0, pcd0, pcd0, pcx0⟩
def msk_a13 (b : Nat) : List Nat := []
def lp_a13 (fu : Nat) : Lp RT den (Bool) := ⟨fun b s k => none, inl0⟩
theorem ev_a13 (fu : Nat) (v_0 : Int) : evFun E (pc_a13 fu) msk_a13 (lp_a13 fu) out_bo 73 [(ii v_0)] = F_spec_l5Version fu v_0 := by kernel_rfl
noncomputable def body_a13 : Code := Try.f73.body.getD .skip
theorem lpok_a13 (fu : Nat) : LpOk E (pc_a13 fu) 0 msk_a13 (lp_a13 fu) (loops 0 body_a13) := lp_nil (loop_nil (by kernel_rfl)) (by kernel_rfl)
def S_a13 (fu : Nat) (xs : List (D RT den)) : Option (Out RT den) := match xs with | [.int .i64 a0_0] => some ⟨Bool, F_spec_l5Version fu a0_0, enc_bo, fun _ => true⟩ | _ => none
theorem hpc_a13 (fu : Nat) : HpcOk E Try.prog (pcf_a13 fu) := by
 intro f xs o h
 unfold pcf_a13 at h
 split at h
 ·exact good_a12 fu xs o h
 ·cases h
theorem goodv_a13 (fu : Nat) (v_0 : Int) (y : Bool) (hy : F_spec_l5Version fu v_0 = some y) : Vm.Good E Try.prog 73 [(ii v_0)] (enc_bo y) :=
 fun_good E_ok (pc_good (pc := pc_a13 fu) (hpc_a13 fu) hpx0) (fn := Try.f73) (by kernel_rfl) (by kernel_rfl) (by kernel_rfl) (lpok_a13 fu) (fun d hd => out_bo_enc d _ hd) ((ev_a13 fu v_0).trans hy)
theorem good_a13 (fu : Nat) : GoodS E Try.prog 73 (S_a13 fu) := by
 intro xs o h y hy
 unfold S_a13 at h
 split at h
 ·rename_i a0_0
  cases h
  exact goodv_a13 fu a0_0 y hy
 ·cases h
def F_spec_l3Name (fu : Nat) (name_0 : Int) : Option (Bool) :=
 ((F_spec_l1In fu name_0 1 999).bind fun y51 => (some y51))
def pcf_a14 (fu f : Nat) (xs : List (D RT den)) : Option (Out RT den) := match f with | 96 => S_a12 fu xs | _ => none
def pc_a14 (fu : Nat) : Pc RT den := ⟨pcf_a14 fu, fun _ => false, fun _ => false, pcd0, pcd0, pcd0, pcx0⟩
def msk_a14 (b : Nat) : List Nat := []
def lp_a14 (fu : Nat) : Lp RT den (Bool) := ⟨fun b s k => none, inl0⟩
theorem ev_a14 (fu : Nat) (name_0 : Int) : evFun E (pc_a14 fu) msk_a14 (lp_a14 fu) out_bo 97 [(ii name_0)] = F_spec_l3Name fu name_0 := by kernel_rfl
noncomputable def body_a14 : Code := Try.f97.body.getD .skip
theorem lpok_a14 (fu : Nat) : LpOk E (pc_a14 fu) 0 msk_a14 (lp_a14 fu) (loops 0 body_a14) := lp_nil (loop_nil (by kernel_rfl)) (by kernel_rfl)
def S_a14 (fu : Nat) (xs : List (D RT den)) : Option (Out RT den) := match xs with | [.int .i64 a0_0] => some ⟨Bool, F_spec_l3Name fu a0_0, enc_bo, fun _ => true⟩ | _ => none
theorem hpc_a14 (fu : Nat) : HpcOk E Try.prog (pcf_a14 fu) := by
 intro f xs o h
 unfold pcf_a14 at h
 split at h
 ·exact good_a12 fu xs o h
 ·cases h
theorem goodv_a14 (fu : Nat) (name_0 : Int) (y : Bool) (hy : F_spec_l3Name fu name_0 = some y) : Vm.Good E Try.prog 97 [(ii name_0)] (enc_bo y) :=
 fun_good E_ok (pc_good (pc := pc_a14 fu) (hpc_a14 fu) hpx0) (fn := Try.f97) (by kernel_rfl) (by kernel_rfl) (by kernel_rfl) (lpok_a14 fu) (fun d hd => out_bo_enc d _ hd) ((ev_a14 fu name_0).trans hy)
theorem good_a14 (fu : Nat) : GoodS E Try.prog 97 (S_a14 fu) := by
 intro xs o h y hy
 unfold S_a14 at h
 split at h
 ·rename_i a0_0
  cases h
  exact goodv_a14 fu a0_0 y hy
 ·cases h
def F_spec_l2Address (fu : Nat) (a_0 : Int) : Option (Bool) :=
 ((F_spec_l1In fu a_0 0 4294967295).bind fun y52 => (some y52))
def pcf_a15 (fu f : Nat) (xs : List (D RT den)) : Option (Out RT den) := match f with | 96 => S_a12 fu xs | _ => none
def pc_a15 (fu : Nat) : Pc RT den := ⟨pcf_a15 fu, fun _ => false, fun _ => false, pcd0, pcd0, pcd0, pcx0⟩
def msk_a15 (b : Nat) : List Nat := []
def lp_a15 (fu : Nat) : Lp RT den (Bool) := ⟨fun b s k => none, inl0⟩
theorem ev_a15 (fu : Nat) (a_0 : Int) : evFun E (pc_a15 fu) msk_a15 (lp_a15 fu) out_bo 98 [(ii a_0)] = F_spec_l2Address fu a_0 := by kernel_rfl
noncomputable def body_a15 : Code := Try.f98.body.getD .skip
theorem lpok_a15 (fu : Nat) : LpOk E (pc_a15 fu) 0 msk_a15 (lp_a15 fu) (loops 0 body_a15) := lp_nil (loop_nil (by kernel_rfl)) (by kernel_rfl)
def S_a15 (fu : Nat) (xs : List (D RT den)) : Option (Out RT den) := match xs with | [.int .i64 a0_0] => some ⟨Bool, F_spec_l2Address fu a0_0, enc_bo, fun _ => true⟩ | _ => none
theorem hpc_a15 (fu : Nat) : HpcOk E Try.prog (pcf_a15 fu) := by
 intro f xs o h
 unfold pcf_a15 at h
 split at h
 ·exact good_a12 fu xs o h
 ·cases h
theorem goodv_a15 (fu : Nat) (a_0 : Int) (y : Bool) (hy : F_spec_l2Address fu a_0 = some y) : Vm.Good E Try.prog 98 [(ii a_0)] (enc_bo y) :=
 fun_good E_ok (pc_good (pc := pc_a15 fu) (hpc_a15 fu) hpx0) (fn := Try.f98) (by kernel_rfl) (by kernel_rfl) (by kernel_rfl) (lpok_a15 fu) (fun d hd => out_bo_enc d _ hd) ((ev_a15 fu a_0).trans hy)
theorem good_a15 (fu : Nat) : GoodS E Try.prog 98 (S_a15 fu) := by
 intro xs o h y hy
 unfold S_a15 at h
 split at h
 ·rename_i a0_0
  cases h
  exact goodv_a15 fu a0_0 y hy
 ·cases h
def F_spec_l5Backend (fu : Nat) (b_0 : S_impl_Backend) : Option (Bool) :=
 ((((F_spec_l3Name fu b_0.Name).bind fun y46 => (bif y46 then ((F_spec_l2Address fu b_0.Address).bind fun y47 => (bif y47 then ((F_spec_l1In fu b_0.Weight 0 9).bind fun y48 => (bif y48 then
  ((F_spec_l1In fu b_0.Stage 1 3).bind fun y49 => (some y49)) else (some false))) else (some false))) else (some false))) : Option Bool).bind fun m50 => (some m50))
def pcf_a16 (fu f : Nat) (xs : List (D RT den)) : Option (Out RT den) := match f with | 96 => S_a12 fu xs | 97 => S_a14 fu xs | 98 => S_a15 fu xs | _ => none
def pc_a16 (fu : Nat) : Pc RT den := ⟨pcf_a16 fu, fun _ => false, fun _ => false, pcd0, pcd0, pcd0, pcx0⟩
def msk_a16 (b : Nat) : List Nat := match b with | 200001 => [2] | _ => []
def lp_a16 (fu : Nat) : Lp RT den (Bool) := ⟨fun b s k => none, inl0⟩
theorem ev_a16 (fu : Nat) (b_0 : S_impl_Backend) : evFun E (pc_a16 fu) msk_a16 (lp_a16 fu) out_bo 74 [(.agg [(ii b_0.Name), (ii b_0.Address), (ii b_0.Weight), (ii b_0.Stage), (.bool b_0.Up)])] = F_spec_l5Backend fu b_0 := by kernel_rfl
noncomputable def body_a16 : Code := Try.f74.body.getD .skip
theorem lpok_a16 (fu : Nat) : LpOk E (pc_a16 fu) 0 msk_a16 (lp_a16 fu) (loops 0 body_a16) := lp_nil (loop_nil (by kernel_rfl)) (by kernel_rfl)
def S_a16 (fu : Nat) (xs : List (D RT den)) : Option (Out RT den) := match xs with | [.agg [.int .i64 a0_1, .int .i64 a0_2, .int .i64 a0_3, .int .i64 a0_4, .bool a0_5]] => some ⟨Bool, F_spec_l5Backend fu (⟨a0_1, a0_2, a0_3, a0_4, a0_5⟩ : S_impl_Backend), enc_bo, fun _ => true⟩ | _ => none
theorem hpc_a16 (fu : Nat) : HpcOk E Try.prog (pcf_a16 fu) := by
 intro f xs o h
 unfold pcf_a16 at h
 split at h
 ·exact good_a12 fu xs o h
 ·exact good_a14 fu xs o h
 ·exact good_a15 fu xs o h
 ·cases h
theorem goodv_a16 (fu : Nat) (b_0 : S_impl_Backend) (y : Bool) (hy : F_spec_l5Backend fu b_0 = some y) : Vm.Good E Try.prog 74 [(.agg [(ii b_0.Name), (ii b_0.Address), (ii b_0.Weight), (ii b_0.Stage), (.bool b_0.Up)])] (enc_bo y) :=
 fun_good E_ok (pc_good (pc := pc_a16 fu) (hpc_a16 fu) hpx0) (fn := Try.f74) (by kernel_rfl) (by kernel_rfl) (by kernel_rfl) (lpok_a16 fu) (fun d hd => out_bo_enc d _ hd) ((ev_a16 fu b_0).trans hy)
theorem good_a16 (fu : Nat) : GoodS E Try.prog 74 (S_a16 fu) := by
 intro xs o h y hy
 unfold S_a16 at h
 split at h
 ·rename_i a0_1 a0_2 a0_3 a0_4 a0_5
  cases h
  exact goodv_a16 fu (⟨a0_1, a0_2, a0_3, a0_4, a0_5⟩ : S_impl_Backend) y hy
 ·cases h
def F_spec_l2Port (fu : Nat) (p_0 : Int) : Option (Bool) :=
 ((F_spec_l1In fu p_0 0 65535).bind fun y60 => (some y60))
def pcf_a17 (fu f : Nat) (xs : List (D RT den)) : Option (Out RT den) := match f with | 96 => S_a12 fu xs | _ => none
def pc_a17 (fu : Nat) : Pc RT den := ⟨pcf_a17 fu, fun _ => false, fun _ => false, pcd0, pcd0, pcd0, pcx0⟩
def msk_a17 (b : Nat) : List Nat := []
def lp_a17 (fu : Nat) : Lp RT den (Bool) := ⟨fun b s k => none, inl0⟩
theorem ev_a17 (fu : Nat) (p_0 : Int) : evFun E (pc_a17 fu) msk_a17 (lp_a17 fu) out_bo 120 [(ii p_0)] = F_spec_l2Port fu p_0 := by kernel_rfl
noncomputable def body_a17 : Code := Try.f120.body.getD .skip
theorem lpok_a17 (fu : Nat) : LpOk E (pc_a17 fu) 0 msk_a17 (lp_a17 fu) (loops 0 body_a17) := lp_nil (loop_nil (by kernel_rfl)) (by kernel_rfl)
def S_a17 (fu : Nat) (xs : List (D RT den)) : Option (Out RT den) := match xs with | [.int .i64 a0_0] => some ⟨Bool, F_spec_l2Port fu a0_0, enc_bo, fun _ => true⟩ | _ => none
theorem hpc_a17 (fu : Nat) : HpcOk E Try.prog (pcf_a17 fu) := by
 intro f xs o h
 unfold pcf_a17 at h
 split at h
 ·exact good_a12 fu xs o h
 ·cases h
theorem goodv_a17 (fu : Nat) (p_0 : Int) (y : Bool) (hy : F_spec_l2Port fu p_0 = some y) : Vm.Good E Try.prog 120 [(ii p_0)] (enc_bo y) :=
 fun_good E_ok (pc_good (pc := pc_a17 fu) (hpc_a17 fu) hpx0) (fn := Try.f120) (by kernel_rfl) (by kernel_rfl) (by kernel_rfl) (lpok_a17 fu) (fun d hd => out_bo_enc d _ hd) ((ev_a17 fu p_0).trans hy)
theorem good_a17 (fu : Nat) : GoodS E Try.prog 120 (S_a17 fu) := by
 intro xs o h y hy
 unfold S_a17 at h
 split at h
 ·rename_i a0_0
  cases h
  exact goodv_a17 fu a0_0 y hy
 ·cases h
def F_spec_l5Proto (fu : Nat) (p_0 : Int) : Option (Bool) :=
 (((bif (p_0 == 6) then (some true) else (some (p_0 == 17))) : Option Bool).bind fun m61 => (some m61))
def pc_a18 (fu : Nat) : Pc RT den := ⟨pcf0, fun _ => false, fun _ => false, pcd0, pcd0, pcd0, pcx0⟩
def msk_a18 (b : Nat) : List Nat := match b with | 200001 => [2] | _ => []
def lp_a18 (fu : Nat) : Lp RT den (Bool) := ⟨fun b s k => none, inl0⟩
theorem ev_a18 (fu : Nat) (p_0 : Int) : evFun E (pc_a18 fu) msk_a18 (lp_a18 fu) out_bo 100 [(ii p_0)] = F_spec_l5Proto fu p_0 := by kernel_rfl
noncomputable def body_a18 : Code := Try.f100.body.getD .skip
theorem lpok_a18 (fu : Nat) : LpOk E (pc_a18 fu) 0 msk_a18 (lp_a18 fu) (loops 0 body_a18) := lp_nil (loop_nil (by kernel_rfl)) (by kernel_rfl)
def S_a18 (fu : Nat) (xs : List (D RT den)) : Option (Out RT den) := match xs with | [.int .i64 a0_0] => some ⟨Bool, F_spec_l5Proto fu a0_0, enc_bo, fun _ => true⟩ | _ => none
theorem goodv_a18 (fu : Nat) (p_0 : Int) (y : Bool) (hy : F_spec_l5Proto fu p_0 = some y) : Vm.Good E Try.prog 100 [(ii p_0)] (enc_bo y) :=
 fun_good E_ok (pc_good (pc := pc_a18 fu) hpc0 hpx0) (fn := Try.f100) (by kernel_rfl) (by kernel_rfl) (by kernel_rfl) (lpok_a18 fu) (fun d hd => out_bo_enc d _ hd) ((ev_a18 fu p_0).trans hy)
theorem good_a18 (fu : Nat) : GoodS E Try.prog 100 (S_a18 fu) := by
 intro xs o h y hy
 unfold S_a18 at h
 split at h
 ·rename_i a0_0
  cases h
  exact goodv_a18 fu a0_0 y hy
 ·cases h
def F_spec_l5Behind (fu : Nat) (a_0 b_1 : S_impl_Vip) : Option (Bool) :=
 (bif (a_0.Address != b_1.Address) then (some (decide (a_0.Address < b_1.Address))) else (bif (a_0.Port != b_1.Port) then (some (decide (a_0.Port < b_1.Port))) else (some (decide (a_0.Proto < b_1.Proto)))))
def pc_a19 (fu : Nat) : Pc RT den := ⟨pcf0, fun _ => false, fun _ => false, pcd0, pcd0, pcd0, pcx0⟩
def msk_a19 (b : Nat) : List Nat := []
def lp_a19 (fu : Nat) : Lp RT den (Bool) := ⟨fun b s k => none, inl0⟩
theorem ev_a19 (fu : Nat) (a_0 b_1 : S_impl_Vip) : evFun E (pc_a19 fu) msk_a19 (lp_a19 fu) out_bo 121 [(.agg [(ii a_0.Address), (ii a_0.Port), (ii a_0.Proto), (.rs a_0.Names.z .i64 a_0.Names.n a_0.Names.f)]), (.agg [(ii b_1.Address), (ii b_1.Port), (ii b_1.Proto), (.rs b_1.Names.z .i64 b_1.Names.n b_1.Names.f)])] = F_spec_l5Behind fu a_0 b_1 := by kernel_rfl
noncomputable def body_a19 : Code := Try.f121.body.getD .skip
theorem lpok_a19 (fu : Nat) : LpOk E (pc_a19 fu) 0 msk_a19 (lp_a19 fu) (loops 0 body_a19) := lp_nil (loop_nil (by kernel_rfl)) (by kernel_rfl)
def S_a19 (fu : Nat) (xs : List (D RT den)) : Option (Out RT den) := match xs with | [.agg [.int .i64 a0_1, .int .i64 a0_2, .int .i64 a0_3, .rs za0_4 .i64 na0_4 fa0_4], .agg [.int .i64 a1_1, .int .i64 a1_2, .int .i64 a1_3, .rs za1_4 .i64 na1_4 fa1_4]] => some ⟨Bool, F_spec_l5Behind fu (⟨a0_1, a0_2, a0_3, (⟨za0_4, na0_4, fa0_4⟩ : (Sl Int))⟩ : S_impl_Vip) (⟨a1_1, a1_2, a1_3, (⟨za1_4, na1_4, fa1_4⟩ : (Sl Int))⟩ : S_impl_Vip), enc_bo, fun _ => true⟩ | _ => none
theorem goodv_a19 (fu : Nat) (a_0 b_1 : S_impl_Vip) (y : Bool) (hy : F_spec_l5Behind fu a_0 b_1 = some y) : Vm.Good E Try.prog 121 [(.agg [(ii a_0.Address), (ii a_0.Port), (ii a_0.Proto), (.rs a_0.Names.z .i64 a_0.Names.n a_0.Names.f)]), (.agg [(ii b_1.Address), (ii b_1.Port), (ii b_1.Proto), (.rs b_1.Names.z .i64 b_1.Names.n b_1.Names.f)])] (enc_bo y) :=
 fun_good E_ok (pc_good (pc := pc_a19 fu) hpc0 hpx0) (fn := Try.f121) (by kernel_rfl) (by kernel_rfl) (by kernel_rfl) (lpok_a19 fu) (fun d hd => out_bo_enc d _ hd) ((ev_a19 fu a_0 b_1).trans hy)
theorem good_a19 (fu : Nat) : GoodS E Try.prog 121 (S_a19 fu) := by
 intro xs o h y hy
 unfold S_a19 at h
 split at h
 ·rename_i a0_1 a0_2 a0_3 za0_4 na0_4 fa0_4 a1_1 a1_2 a1_3 za1_4 na1_4 fa1_4
  cases h
  exact goodv_a19 fu (⟨a0_1, a0_2, a0_3, (⟨za0_4, na0_4, fa0_4⟩ : (Sl Int))⟩ : S_impl_Vip) (⟨a1_1, a1_2, a1_3, (⟨za1_4, na1_4, fa1_4⟩ : (Sl Int))⟩ : S_impl_Vip) y hy
 ·cases h
def F_spec_l5At_B0 {ρ : Type} (fu : Nat) (c0_0 : Int) (c0_1 : (Sl S_impl_Backend)) (c0_2 : (Sl S_impl_Vip)) (name1_3 : Int) (k0 : Int → Option ρ) (k1 : Option ρ) (i5_4 : Int) (go : Int → Option ρ) : Option ρ :=
 (bif (decide (i5_4 < ((c0_1.n : Nat) : Int))) then ((bif (decide (0 ≤ i5_4) && decide ((Int.toNat i5_4) < c0_1.n)) then some () else none : Option Unit).bind fun _ => (bif ((c0_1.f (Int.toNat i5_4)).Name == name1_3) then
  (k0 i5_4) else (go (IntKind.wrap .i64 (i5_4 + 1))))) else k1)
def F_spec_l5At (fu : Nat) (c_0 : S_impl_Config) (name_1 : Int) : Option (Int) :=
 (L (fun w0 go0 => F_spec_l5At_B0 fu c_0.Version c_0.Backends c_0.Vips name_1 (fun z62 => (some z62)) (some (-1)) w0 go0) fu (0 : Int))
def pc_a20 (fu : Nat) : Pc RT den := ⟨pcf0, fun _ => false, fun _ => false, pcd0, pcd0, pcd0, pcx0⟩
def msk_a20 (b : Nat) : List Nat := match b with | 0 => (2 :: 3 :: 4 :: (rg 6 20 [])) | 100000 => (0 :: 1 :: 2 :: 3 :: (rg 5 21 [])) | _ => []
def ps_a20_0 : List (Pat RT) := (.rptr [(.int .i64), (.rs .impl_Backend), (.rs .impl_Vip)] :: .flat (.int .i64) :: .flat .q :: .flat .q :: .flat .q :: .flat (.int .i64) :: (fq 20 []))
def os_a20_0 : List (OP RT) := []
def conv_a20_0 (r : Raw den ps_a20_0 os_a20_0) : (Int × (Sl S_impl_Backend) × (Sl S_impl_Vip) × Int) × (Int) := ((r.1.1.1, r.1.1.2.1, r.1.1.2.2.1, r.1.2.1), (e5 r.1).1)
def back_a20_0 (c : Int × (Sl S_impl_Backend) × (Sl S_impl_Vip) × Int) (w : Int) : St RT den := ⟨((.rptr [(ii c.1), (.rs c.2.1.z .impl_Backend c.2.1.n c.2.1.f), (.rs c.2.2.1.z .impl_Vip c.2.2.1.n c.2.2.1.f)]) :: (ii c.2.2.2) :: .q :: .q :: .q :: (ii w) :: (qs 20 [])), []⟩
def Bk_a20_0 {ρ : Type} (fu : Nat) (c : Int × (Sl S_impl_Backend) × (Sl S_impl_Vip) × Int) (k : Ex → St RT den → Option ρ) (w : Int) (go : (Int) → Option ρ) : Option ρ := F_spec_l5At_B0 fu c.1 c.2.1 c.2.2.1 c.2.2.2 (fun a0 => k .ret ⟨(qs 4 ((ii a0) :: (qs 21 []))), []⟩) (k (.exit 0) ⟨(qs 26 []), []⟩) w go
def lp_a20 (fu : Nat) : Lp RT den (Int) := ⟨fun b s k => match b with | 0 => handle ps_a20_0 os_a20_0 conv_a20_0 (Bk_a20_0 fu) fu s k | _ => none, inl0⟩
theorem ev_a20 (fu : Nat) (c_0 : S_impl_Config) (name_1 : Int) : evFun E (pc_a20 fu) msk_a20 (lp_a20 fu) out_i64 58 [(.rptr [(ii c_0.Version), (.rs c_0.Backends.z .impl_Backend c_0.Backends.n c_0.Backends.f), (.rs c_0.Vips.z .impl_Vip c_0.Vips.n c_0.Vips.f)]), (ii name_1)] = F_spec_l5At fu c_0 name_1 := by kernel_rfl
noncomputable def body_a20 : Code := Try.f58.body.getD .skip
noncomputable def lc_a20_0 : Code := ((loops 0 body_a20).getD 0 (0, .skip)).2
theorem round_a20_0 (fu : Nat) : RoundOk E (pc_a20 fu) msk_a20 (lp_a20 fu) 0 lc_a20_0 back_a20_0 0 100000 0 (Bk_a20_0 fu) := fun it k c w => by kernel_rfl
theorem lpok_a20_0 (fu : Nat) : LpAt E (pc_a20 fu) msk_a20 (lp_a20 fu) 0 0 100000 0 lc_a20_0 :=
 handle_ok (ps := ps_a20_0) (os := os_a20_0) (conv := conv_a20_0) (B := Bk_a20_0 fu) (fu := fu) back_a20_0 (fun raw => by kernel_rfl) 0 (fun c w => by kernel_rfl) (round_a20_0 fu)
theorem lpok_a20 (fu : Nat) : LpOk E (pc_a20 fu) 0 msk_a20 (lp_a20 fu) (loops 0 body_a20) := lp_nil (loop_all 1 (by kernel_rfl) fun i hi => match i, hi with
 | 0, _ => by
  have h : (loops 0 body_a20).getD 0 (0, .skip) = (0, lc_a20_0) := by kernel_rfl
  rw [h]; exact lpok_a20_0 fu
 | i + 1, hi => absurd hi (by omega)) (by kernel_rfl)
def S_a20 (fu : Nat) (xs : List (D RT den)) : Option (Out RT den) := match xs with | [.rptr (.int .i64 a0_1 :: .rs za0_2 .impl_Backend na0_2 fa0_2 :: .rs za0_3 .impl_Vip na0_3 fa0_3 :: ra0), .int .i64 a1_0] => some ⟨Int, F_spec_l5At fu (⟨a0_1, (⟨za0_2, na0_2, fa0_2⟩ : (Sl S_impl_Backend)), (⟨za0_3, na0_3, fa0_3⟩ : (Sl S_impl_Vip))⟩ : S_impl_Config) a1_0, enc_i64, fun _ => true⟩ | _ => none
theorem goodv_a20 (fu : Nat) (c_0 : S_impl_Config) (name_1 y : Int) (hy : F_spec_l5At fu c_0 name_1 = some y) : Vm.Good E Try.prog 58 [(.rptr [(ii c_0.Version), (.rs c_0.Backends.z .impl_Backend c_0.Backends.n c_0.Backends.f), (.rs c_0.Vips.z .impl_Vip c_0.Vips.n c_0.Vips.f)]), (ii name_1)] (enc_i64 y) :=
 fun_good E_ok (pc_good (pc := pc_a20 fu) hpc0 hpx0) (fn := Try.f58) (by kernel_rfl) (by kernel_rfl) (by kernel_rfl) (lpok_a20 fu) (fun d hd => out_i64_enc d _ hd) ((ev_a20 fu c_0 name_1).trans hy)
theorem good_a20 (fu : Nat) : GoodS E Try.prog 58 (S_a20 fu) := by
 intro xs o h y hy
 unfold S_a20 at h
 split at h
 ·rename_i a0_1 za0_2 na0_2 fa0_2 za0_3 na0_3 fa0_3 ra0 a1_0
  cases h
  exact (goodv_a20 fu (⟨a0_1, (⟨za0_2, na0_2, fa0_2⟩ : (Sl S_impl_Backend)), (⟨za0_3, na0_3, fa0_3⟩ : (Sl S_impl_Vip))⟩ : S_impl_Config) a1_0 y hy).sub ⟨Sub.of_eq ra0 rfl, .refl _, trivial⟩
 ·cases h
def F_spec_l5Vip_B0 {ρ : Type} (fu : Nat) (c0_0 : Int) (c0_1 : (Sl S_impl_Backend)) (c0_2 : (Sl S_impl_Vip)) (o0_4 o0_5 o0_6 : Int) (o0_7 : (Sl Int)) (k0 : Option ρ) (k1 : Option ρ) (i6_3 : Int) (go : Int → Option ρ) : Option ρ :=
 (bif (decide (i6_3 < ((o0_7.n : Nat) : Int))) then ((bif (decide (0 ≤ i6_3) && decide ((Int.toNat i6_3) < o0_7.n)) then some () else none : Option Unit).bind fun _ =>
  ((F_spec_l5At fu (⟨c0_0, c0_1, c0_2⟩ : S_impl_Config) (o0_7.f (Int.toNat i6_3))).bind fun y59 => (bif (decide (y59 < 0)) then k0 else (go (IntKind.wrap .i64 (i6_3 + 1)))))) else
  k1)
def F_spec_l5Vip_B2 {ρ : Type} (fu : Nat) (o0_1 o0_2 o0_3 : Int) (o0_4 : (Sl Int)) (k0 : Option ρ) (k1 : Option ρ) (i7_0 : Int) (go : Int → Option ρ) : Option ρ :=
 (bif (decide (i7_0 < ((o0_4.n : Nat) : Int))) then ((bif (decide (0 ≤ i7_0) && decide ((Int.toNat i7_0) < o0_4.n)) then some () else none : Option Unit).bind fun _ => ((bif (decide (0 ≤ (IntKind.wrap .i64 (i7_0 - 1))) &&
  decide ((Int.toNat (IntKind.wrap .i64 (i7_0 - 1))) < o0_4.n)) then some () else none : Option Unit).bind fun _ => (bif (decide ((o0_4.f (Int.toNat i7_0)) ≤ (o0_4.f (Int.toNat (IntKind.wrap .i64 (i7_0 - 1)))))) then
  k0 else (go (IntKind.wrap .i64 (i7_0 + 1)))))) else k1)
def F_spec_l5Vip (fu : Nat) (c_0 : S_impl_Config) (at_1 : Int) : Option (Int) :=
 ((bif (decide (0 ≤ at_1) && decide ((Int.toNat at_1) < c_0.Vips.n)) then some () else none : Option Unit).bind fun _ => ((((F_spec_l2Address fu (c_0.Vips.f (Int.toNat at_1)).Address).bind fun y53 =>
  (bif (!y53) then (some true) else ((F_spec_l2Port fu (c_0.Vips.f (Int.toNat at_1)).Port).bind fun y54 => (bif (!y54) then (some true) else ((F_spec_l5Proto fu (c_0.Vips.f (Int.toNat at_1)).Proto).bind fun y55 =>
  (some (!y55))))))) : Option Bool).bind fun m56 => (bif m56 then (some 3) else (((bif (decide (at_1 > 0)) then ((bif (decide (0 ≤ (IntKind.wrap .i64 (at_1 - 1))) && decide ((Int.toNat (IntKind.wrap .i64 (at_1 - 1))) < c_0.Vips.n)) then
  some () else none : Option Unit).bind fun _ => ((F_spec_l5Behind fu (c_0.Vips.f (Int.toNat (IntKind.wrap .i64 (at_1 - 1)))) (c_0.Vips.f (Int.toNat at_1))).bind fun y57 => (some (!y57)))) else
  (some false)) : Option Bool).bind fun m58 => (bif m58 then (some 1) else (L (fun w0 go0 => F_spec_l5Vip_B0 fu c_0.Version c_0.Backends c_0.Vips ((c_0.Vips.f (Int.toNat at_1)).Address) ((c_0.Vips.f (Int.toNat at_1)).Port) ((c_0.Vips.f (Int.toNat at_1)).Proto) ((c_0.Vips.f (Int.toNat at_1)).Names) (some 4) (L (fun w2 go2 =>
  F_spec_l5Vip_B2 fu ((c_0.Vips.f (Int.toNat at_1)).Address) ((c_0.Vips.f (Int.toNat at_1)).Port) ((c_0.Vips.f (Int.toNat at_1)).Proto) ((c_0.Vips.f (Int.toNat at_1)).Names) (some 1) (some 0) w2 go2) fu (1 : Int)) w0 go0) fu (0 : Int)))))))
def pcf_a21 (fu f : Nat) (xs : List (D RT den)) : Option (Out RT den) := match f with | 58 => S_a20 fu xs | 98 => S_a15 fu xs | 100 => S_a18 fu xs | 120 => S_a17 fu xs | 121 => S_a19 fu xs | _ => none
def pc_a21 (fu : Nat) : Pc RT den := ⟨pcf_a21 fu, fun _ => false, fun _ => false, pcd0, pcd0, pcd0, pcx0⟩
def msk_a21 (b : Nat) : List Nat := match b with | 0 => (1 :: 2 :: 3 :: 4 :: (rg 7 73 [])) | 100000 => (0 :: 1 :: 2 :: 3 :: (rg 6 74 [])) | 2 => (rg 0 5 (6 :: (rg 8 72 []))) | 100002 => (0 :: 1 :: 2 :: 3 :: (rg 5 75 [])) | 200002 => [30] | 200004 => [45] | _ => []
def ps_a21_0 : List (Pat RT) := (.rptr [(.int .i64), (.rs .impl_Backend), (.rs .impl_Vip)] :: (fq 4 (.flat (.ref 0 0) :: .flat (.int .i64) :: (fq 73 []))))
def os_a21_0 : List (OP RT) := [.box false [(.int .i64), (.int .i64), (.int .i64), (.rs .i64)]]
def conv_a21_0 (r : Raw den ps_a21_0 os_a21_0) : (Ya0) × (Int) := ((r.1.1.1, r.1.1.2.1, r.1.1.2.2.1, r.2.1.1, r.2.1.2.1, r.2.1.2.2.1, r.2.1.2.2.2.1), (e5 r.1).2.1)
def back_a21_0 (c : Ya0) (w : Int) : St RT den := ⟨((.rptr [(ii c.1), (.rs c.2.1.z .impl_Backend c.2.1.n c.2.1.f), (.rs c.2.2.1.z .impl_Vip c.2.2.1.n c.2.2.1.f)]) :: (qs 4 ((.ref 0 0) :: (ii w) :: (qs 73 [])))), [(.box false [(ii c.2.2.2.1), (ii c.2.2.2.2.1), (ii (e5 c).1), (.rs (e5 c).2.z .i64 (e5 c).2.n (e5 c).2.f)])]⟩
def Bk_a21_0 {ρ : Type} (fu : Nat) (c : Ya0) (k : Ex → St RT den → Option ρ) (w : Int) (go : (Int) → Option ρ) : Option ρ := F_spec_l5Vip_B0 fu c.1 c.2.1 c.2.2.1 c.2.2.2.1 c.2.2.2.2.1 (e5 c).1 (e5 c).2 (k .ret ⟨(qs 4 ((ii 4) :: (.ref 0 0) :: (qs 74 []))), [(.box false [(ii c.2.2.2.1), (ii c.2.2.2.2.1), (ii (e5 c).1), (.rs (e5 c).2.z .i64 (e5 c).2.n (e5 c).2.f)])]⟩) (k (.exit 0) ⟨(qs 5 ((.ref 0 0) :: (qs 74 []))), [(.box false [(ii c.2.2.2.1), (ii c.2.2.2.2.1), (ii (e5 c).1), (.rs (e5 c).2.z .i64 (e5 c).2.n (e5 c).2.f)])]⟩) w go
def ps_a21_2 : List (Pat RT) := (fq 5 (.flat (.ref 0 0) :: .flat .q :: .flat (.int .i64) :: (fq 72 [])))
def os_a21_2 : List (OP RT) := [.box false [(.int .i64), (.int .i64), (.int .i64), (.rs .i64)]]
def conv_a21_2 (r : Raw den ps_a21_2 os_a21_2) : (Int × Int × Int × (Sl Int)) × (Int) := ((r.2.1.1, r.2.1.2.1, r.2.1.2.2.1, r.2.1.2.2.2.1), (e5 r.1).2.2.1)
def back_a21_2 (c : Int × Int × Int × (Sl Int)) (w : Int) : St RT den := ⟨(qs 5 ((.ref 0 0) :: .q :: (ii w) :: (qs 72 []))), [(.box false [(ii c.1), (ii c.2.1), (ii c.2.2.1), (.rs c.2.2.2.z .i64 c.2.2.2.n c.2.2.2.f)])]⟩
def Bk_a21_2 {ρ : Type} (fu : Nat) (c : Int × Int × Int × (Sl Int)) (k : Ex → St RT den → Option ρ) (w : Int) (go : (Int) → Option ρ) : Option ρ := F_spec_l5Vip_B2 fu c.1 c.2.1 c.2.2.1 c.2.2.2 (k .ret ⟨(qs 4 ((ii 1) :: (qs 75 []))), [(.box false [(ii c.1), (ii c.2.1), (ii c.2.2.1), (.rs c.2.2.2.z .i64 c.2.2.2.n c.2.2.2.f)])]⟩) (k (.exit 2) ⟨(qs 80 []), [(.box false [(ii c.1), (ii c.2.1), (ii c.2.2.1), (.rs c.2.2.2.z .i64 c.2.2.2.n c.2.2.2.f)])]⟩) w go
def lp_a21 (fu : Nat) : Lp RT den (Int) := ⟨fun b s k => match b with | 0 => handle ps_a21_0 os_a21_0 conv_a21_0 (Bk_a21_0 fu) fu s k | 2 => handle ps_a21_2 os_a21_2 conv_a21_2 (Bk_a21_2 fu) fu s k | _ => none, inl0⟩
theorem ev_a21 (fu : Nat) (c_0 : S_impl_Config) (at_1 : Int) : evFun E (pc_a21 fu) msk_a21 (lp_a21 fu) out_i64 75 [(.rptr [(ii c_0.Version), (.rs c_0.Backends.z .impl_Backend c_0.Backends.n c_0.Backends.f), (.rs c_0.Vips.z .impl_Vip c_0.Vips.n c_0.Vips.f)]), (ii at_1)] = F_spec_l5Vip fu c_0 at_1 := by kernel_rfl
noncomputable def body_a21 : Code := Try.f75.body.getD .skip
noncomputable def lc_a21_0 : Code := ((loops 0 body_a21).getD 0 (0, .skip)).2
theorem round_a21_0 (fu : Nat) : RoundOk E (pc_a21 fu) msk_a21 (lp_a21 fu) 0 lc_a21_0 back_a21_0 0 100000 1 (Bk_a21_0 fu) := fun it k c w => by kernel_rfl
theorem lpok_a21_0 (fu : Nat) : LpAt E (pc_a21 fu) msk_a21 (lp_a21 fu) 0 0 100000 0 lc_a21_0 :=
 handle_ok (ps := ps_a21_0) (os := os_a21_0) (conv := conv_a21_0) (B := Bk_a21_0 fu) (fu := fu) back_a21_0 (fun raw => by kernel_rfl) 1 (fun c w => by kernel_rfl) (round_a21_0 fu)
noncomputable def lc_a21_2 : Code := ((loops 0 body_a21).getD 1 (0, .skip)).2
theorem round_a21_2 (fu : Nat) : RoundOk E (pc_a21 fu) msk_a21 (lp_a21 fu) 2 lc_a21_2 back_a21_2 2 100002 1 (Bk_a21_2 fu) := fun it k c w => by kernel_rfl
theorem lpok_a21_2 (fu : Nat) : LpAt E (pc_a21 fu) msk_a21 (lp_a21 fu) 2 2 100002 2 lc_a21_2 :=
 handle_ok (ps := ps_a21_2) (os := os_a21_2) (conv := conv_a21_2) (B := Bk_a21_2 fu) (fu := fu) back_a21_2 (fun raw => by kernel_rfl) 1 (fun c w => by kernel_rfl) (round_a21_2 fu)
theorem lpok_a21 (fu : Nat) : LpOk E (pc_a21 fu) 0 msk_a21 (lp_a21 fu) (loops 0 body_a21) := lp_nil (loop_all 2 (by kernel_rfl) fun i hi => match i, hi with
 | 0, _ => by
  have h : (loops 0 body_a21).getD 0 (0, .skip) = (0, lc_a21_0) := by kernel_rfl
  rw [h]; exact lpok_a21_0 fu
 | 1, _ => by
  have h : (loops 0 body_a21).getD 1 (0, .skip) = (2, lc_a21_2) := by kernel_rfl
  rw [h]; exact lpok_a21_2 fu
 | i + 2, hi => absurd hi (by omega)) (by kernel_rfl)
def S_a21 (fu : Nat) (xs : List (D RT den)) : Option (Out RT den) := match xs with | [.rptr (.int .i64 a0_1 :: .rs za0_2 .impl_Backend na0_2 fa0_2 :: .rs za0_3 .impl_Vip na0_3 fa0_3 :: ra0), .int .i64 a1_0] => some ⟨Int, F_spec_l5Vip fu (⟨a0_1, (⟨za0_2, na0_2, fa0_2⟩ : (Sl S_impl_Backend)), (⟨za0_3, na0_3, fa0_3⟩ : (Sl S_impl_Vip))⟩ : S_impl_Config) a1_0, enc_i64, fun _ => true⟩ | _ => none
theorem hpc_a21 (fu : Nat) : HpcOk E Try.prog (pcf_a21 fu) := by
 intro f xs o h
 unfold pcf_a21 at h
 split at h
 ·exact good_a20 fu xs o h
 ·exact good_a15 fu xs o h
 ·exact good_a18 fu xs o h
 ·exact good_a17 fu xs o h
 ·exact good_a19 fu xs o h
 ·cases h
theorem goodv_a21 (fu : Nat) (c_0 : S_impl_Config) (at_1 y : Int) (hy : F_spec_l5Vip fu c_0 at_1 = some y) : Vm.Good E Try.prog 75 [(.rptr [(ii c_0.Version), (.rs c_0.Backends.z .impl_Backend c_0.Backends.n c_0.Backends.f), (.rs c_0.Vips.z .impl_Vip c_0.Vips.n c_0.Vips.f)]), (ii at_1)] (enc_i64 y) :=
 fun_good E_ok (pc_good (pc := pc_a21 fu) (hpc_a21 fu) hpx0) (fn := Try.f75) (by kernel_rfl) (by kernel_rfl) (by kernel_rfl) (lpok_a21 fu) (fun d hd => out_i64_enc d _ hd) ((ev_a21 fu c_0 at_1).trans hy)
theorem good_a21 (fu : Nat) : GoodS E Try.prog 75 (S_a21 fu) := by
 intro xs o h y hy
 unfold S_a21 at h
 split at h
 ·rename_i a0_1 za0_2 na0_2 fa0_2 za0_3 na0_3 fa0_3 ra0 a1_0
  cases h
  exact (goodv_a21 fu (⟨a0_1, (⟨za0_2, na0_2, fa0_2⟩ : (Sl S_impl_Backend)), (⟨za0_3, na0_3, fa0_3⟩ : (Sl S_impl_Vip))⟩ : S_impl_Config) a1_0 y hy).sub ⟨Sub.of_eq ra0 rfl, .refl _, trivial⟩
 ·cases h
end Go.Proofs.Ytcmfekgdlaffkaa.Pm
