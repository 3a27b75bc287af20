/- The functions' evaluated forms, each a proved summary. Conditions: none. -/
import Derived.Test.YtcmfekgdlaffkaaPcT
namespace Go.Proofs.Ytcmfekgdlaffkaa.Pc
open Go Go.RowKit Go.Proofs Vm
set_option linter.unusedVariables false
set_option linter.unusedSimpArgs false
set_option maxRecDepth 100000
abbrev Ya0 : Type := Int × (Sl S_impl_Backend) × (Sl S_impl_Vip) × Int × Int × Int × (Sl Int)
def F_laws_toByteS_H_B0 {ρ : Type} (fu : Nat) (a0_0 : (Sl Int)) (out3_1 on0_3 : Nat) (k0 : (Nat → Int) → Option ρ) (i4_2 : Int) (of0_4 : (Nat → Int)) (go : Int → (Nat → Int) → Option ρ) : Option ρ :=
 (bif (decide (i4_2 < ((a0_0.n : Nat) : Int))) then ((bif (decide (0 ≤ i4_2) && decide ((Int.toNat i4_2) < a0_0.n)) then some () else none : Option Unit).bind fun _ => ((bif (decide (0 ≤ i4_2) &&
  decide ((Int.toNat i4_2) < out3_1)) then some () else none : Option Unit).bind fun _ => (go (IntKind.wrap .i64 (i4_2 + 1)) (fun j => if j = (Int.toNat i4_2) then (a0_0.f (Int.toNat i4_2)) else
  of0_4 j)))) else (k0 of0_4))
def F_laws_toByteS_H (fu : Nat) (a_0 : (Sl Int)) : Option ((Sl Int)) :=
 (bif (decide (0 ≤ ((a_0.n : Nat) : Int)) && (decide (((a_0.n : Nat) : Int) = ((a_0.n : Nat) : Int)) && (decide ((1 : Int) * ((a_0.n : Nat) : Int) ≤ 281474976710656) && decide (((a_0.n : Nat) : Int) ≤ 9223372036854775807)))) then
  (L (fun w0 go0 => F_laws_toByteS_H_B0 fu a_0 (Int.toNat ((a_0.n : Nat) : Int)) (Int.toNat ((a_0.n : Nat) : Int)) (fun z2 => (some (⟨none, (Int.toNat ((a_0.n : Nat) : Int)), z2⟩ : (Sl Int)))) w0.1 w0.2 (fun q0 q1 =>
  go0 (q0, q1))) fu ((0, (fun _ => 0)) : Int × (Nat → Int))) else none)
def pc_a0 (fu : Nat) : Pc RT den := ⟨pcf0, fun _ => false, fun _ => false, pcd0, pcd0, pcd0, pcx0⟩
def msk_a0 (b : Nat) : List Nat := match b with | 0 => (1 :: 2 :: (rg 5 17 [])) | 100000 => (0 :: 1 :: (rg 4 18 [])) | _ => []
def ps_a0_0 : List (Pat RT) := (.flat (.rs .u8) :: .flat .q :: .flat .q :: .flat (.os 0) :: .flat (.int .i64) :: (fq 17 []))
def os_a0_0 : List (OP RT) := [.row false .u8]
def conv_a0_0 (r : Raw den ps_a0_0 os_a0_0) : ((Sl Int) × Nat × Nat) × (Int × (Nat → Int)) := ((r.1.1, r.1.2.2.2.1, r.2.1.1), (r.1.2.2.2.2.1, r.2.1.2))
def back_a0_0 (c : (Sl Int) × Nat × Nat) (w : Int × (Nat → Int)) : St RT den := ⟨((.rs c.1.z .u8 c.1.n c.1.f) :: .q :: .q :: (.os 0 c.2.1) :: (ii w.1) :: (qs 17 [])), [(.row false .u8 c.2.2 w.2)]⟩
def Bk_a0_0 {ρ : Type} (fu : Nat) (c : (Sl Int) × Nat × Nat) (k : Ex → St RT den → Option ρ) (w : Int × (Nat → Int)) (go : (Int × (Nat → Int)) → Option ρ) : Option ρ := F_laws_toByteS_H_B0 fu c.1 c.2.1 c.2.2 (fun a0 => k (.exit 0) ⟨(.q :: .q :: .q :: (.os 0 c.2.1) :: (qs 18 [])), [(.row false .u8 c.2.2 a0)]⟩) w.1 w.2 (fun q0 q1 => go (q0, q1))
def lp_a0 (fu : Nat) : Lp RT den ((Sl Int)) := ⟨fun b s k => match b with | 0 => handle ps_a0_0 os_a0_0 conv_a0_0 (Bk_a0_0 fu) fu s k | _ => none, inl0⟩
theorem ev_a0 (fu : Nat) (a_0 : (Sl Int)) : evFunX E false (pc_a0 fu) msk_a0 (lp_a0 fu) out_sl_u8_H 7 [(.rs a_0.z .u8 a_0.n a_0.f)] [] = F_laws_toByteS_H fu a_0 := by kernel_rfl
noncomputable def body_a0 : Code := Try.f7.body.getD .skip
noncomputable def lc_a0_0 : Code := ((loops 0 body_a0).getD 0 (0, .skip)).2
theorem round_a0_0 (fu : Nat) : RoundOk E (pc_a0 fu) msk_a0 (lp_a0 fu) 0 lc_a0_0 back_a0_0 0 100000 1 (Bk_a0_0 fu) := fun it k c w => by kernel_rfl
theorem lpok_a0_0 (fu : Nat) : LpAt E (pc_a0 fu) msk_a0 (lp_a0 fu) 0 0 100000 0 lc_a0_0 :=
 handle_ok (ps := ps_a0_0) (os := os_a0_0) (conv := conv_a0_0) (B := Bk_a0_0 fu) (fu := fu) back_a0_0 (fun raw => by kernel_rfl) 1 (fun c w => by kernel_rfl) (round_a0_0 fu)
theorem lpok_a0 (fu : Nat) : LpOk E (pc_a0 fu) 0 msk_a0 (lp_a0 fu) (loops 0 body_a0) := lp_nil (loop_all 1 (by kernel_rfl) fun i hi => match i, hi with
 | 0, _ => by
  have h : (loops 0 body_a0).getD 0 (0, .skip) = (0, lc_a0_0) := by kernel_rfl
  rw [h]; exact lpok_a0_0 fu
 | i + 1, hi => absurd hi (by omega)) (by kernel_rfl)
def S_a0 (fu : Nat) (xs : List (D RT den)) (ins : List (Ob RT den)) : Option (OutX RT den) := match xs, ins with | [.rs za0_0 .u8 na0_0 fa0_0], [] => some ⟨(Sl Int), F_laws_toByteS_H fu (⟨za0_0, na0_0, fa0_0⟩ : (Sl Int)), enc_sl_u8_H⟩ | _, _ => none
theorem goodv_a0 (fu : Nat) (a_0 y : (Sl Int)) (hy : F_laws_toByteS_H fu a_0 = some y) : GoodX E Try.prog 7 [(.rs a_0.z .u8 a_0.n a_0.f)] [] (enc_sl_u8_H y).1 (enc_sl_u8_H y).2 :=
 funX_good (ke := false) E_ok (pc_good (pc := pc_a0 fu) hpc0 hpx0) (fn := Try.f7) (by kernel_rfl) (by kernel_rfl) (by kernel_rfl) (lpok_a0 fu) (by kernel_rfl) (Nat.zero_le _) (fun d os hd => out_sl_u8_H_enc d os _ hd) ((ev_a0 fu a_0).trans hy)
theorem good_a0 (fu : Nat) : GoodSX E Try.prog 7 (S_a0 fu) := by
 intro xs ins o h y hy
 unfold S_a0 at h
 split at h
 ·rename_i za0_0 na0_0 fa0_0
  cases h
  exact goodv_a0 fu (⟨za0_0, na0_0, fa0_0⟩ : (Sl Int)) y hy
 ·cases h
def F_spec_l1Take_B0 {ρ : Type} (fu : Nat) (data0_0 : (Sl Int)) (at1_1 size2_2 : Int) (k0 : Int → Option ρ) (n7_3 k8_4 : Int) (go : Int → Int → Option ρ) : Option ρ :=
 (bif (decide (k8_4 < size2_2)) then ((bif (decide (0 ≤ (IntKind.wrap .i64 (at1_1 + k8_4))) && decide ((Int.toNat (IntKind.wrap .i64 (at1_1 + k8_4))) < data0_0.n)) then some () else
  none : Option Unit).bind fun _ => (go (IntKind.wrap .i64 ((IntKind.wrap .i64 (n7_3 * 256)) + (IntKind.wrap .i64 (data0_0.f (Int.toNat (IntKind.wrap .i64 (at1_1 + k8_4))))))) (IntKind.wrap .i64 (k8_4 + 1)))) else
  (k0 n7_3))
def F_spec_l1Take (fu : Nat) (data_0 : (Sl Int)) (at_1 size_2 : Int) : Option (Int) :=
 (L (fun w0 go0 => F_spec_l1Take_B0 fu data_0 at_1 size_2 (fun z7 => (some z7)) w0.1 w0.2 (fun q0 q1 => go0 (q0, q1))) fu ((0, 0) : Int × Int))
def pc_a1 (fu : Nat) : Pc RT den := ⟨pcf0, fun _ => false, fun _ => false, pcd0, pcd0, pcd0, pcx0⟩
def msk_a1 (b : Nat) : List Nat := match b with | 0 => (3 :: 4 :: 5 :: 6 :: (rg 9 16 [])) | 100000 => (rg 0 6 (rg 8 17 [])) | _ => []
def ps_a1_0 : List (Pat RT) := (.flat (.rs .u8) :: .flat (.int .i64) :: .flat (.int .i64) :: (fq 4 (.flat (.int .i64) :: .flat (.int .i64) :: (fq 16 []))))
def os_a1_0 : List (OP RT) := []
def conv_a1_0 (r : Raw den ps_a1_0 os_a1_0) : ((Sl Int) × Int × Int) × (Int × Int) := ((r.1.1, r.1.2.1, r.1.2.2.1), ((e5 r.1).2.2.1, (e5 r.1).2.2.2.1))
def back_a1_0 (c : (Sl Int) × Int × Int) (w : Int × Int) : St RT den := ⟨((.rs c.1.z .u8 c.1.n c.1.f) :: (ii c.2.1) :: (ii c.2.2) :: (qs 4 ((ii w.1) :: (ii w.2) :: (qs 16 [])))), []⟩
def Bk_a1_0 {ρ : Type} (fu : Nat) (c : (Sl Int) × Int × Int) (k : Ex → St RT den → Option ρ) (w : Int × Int) (go : (Int × Int) → Option ρ) : Option ρ := F_spec_l1Take_B0 fu c.1 c.2.1 c.2.2 (fun a0 => k (.exit 0) ⟨(qs 7 ((ii a0) :: (qs 17 []))), []⟩) w.1 w.2 (fun q0 q1 => go (q0, q1))
def lp_a1 (fu : Nat) : Lp RT den (Int) := ⟨fun b s k => match b with | 0 => handle ps_a1_0 os_a1_0 conv_a1_0 (Bk_a1_0 fu) fu s k | _ => none, inl0⟩
theorem ev_a1 (fu : Nat) (data_0 : (Sl Int)) (at_1 size_2 : Int) : evFun E (pc_a1 fu) msk_a1 (lp_a1 fu) out_i64 48 [(.rs data_0.z .u8 data_0.n data_0.f), (ii at_1), (ii size_2)] = F_spec_l1Take fu data_0 at_1 size_2 := by kernel_rfl
noncomputable def body_a1 : Code := Try.f48.body.getD .skip
noncomputable def lc_a1_0 : Code := ((loops 0 body_a1).getD 0 (0, .skip)).2
theorem round_a1_0 (fu : Nat) : RoundOk E (pc_a1 fu) msk_a1 (lp_a1 fu) 0 lc_a1_0 back_a1_0 0 100000 0 (Bk_a1_0 fu) := fun it k c w => by kernel_rfl
theorem lpok_a1_0 (fu : Nat) : LpAt E (pc_a1 fu) msk_a1 (lp_a1 fu) 0 0 100000 0 lc_a1_0 :=
 handle_ok (ps := ps_a1_0) (os := os_a1_0) (conv := conv_a1_0) (B := Bk_a1_0 fu) (fu := fu) back_a1_0 (fun raw => by kernel_rfl) 0 (fun c w => by kernel_rfl) (round_a1_0 fu)
theorem lpok_a1 (fu : Nat) : LpOk E (pc_a1 fu) 0 msk_a1 (lp_a1 fu) (loops 0 body_a1) := lp_nil (loop_all 1 (by kernel_rfl) fun i hi => match i, hi with
 | 0, _ => by
  have h : (loops 0 body_a1).getD 0 (0, .skip) = (0, lc_a1_0) := by kernel_rfl
  rw [h]; exact lpok_a1_0 fu
 | i + 1, hi => absurd hi (by omega)) (by kernel_rfl)
def S_a1 (fu : Nat) (xs : List (D RT den)) : Option (Out RT den) := match xs with | [.rs za0_0 .u8 na0_0 fa0_0, .int .i64 a1_0, .int .i64 a2_0] => some ⟨Int, F_spec_l1Take fu (⟨za0_0, na0_0, fa0_0⟩ : (Sl Int)) a1_0 a2_0, enc_i64, fun _ => true⟩ | _ => none
theorem goodv_a1 (fu : Nat) (data_0 : (Sl Int)) (at_1 size_2 y : Int) (hy : F_spec_l1Take fu data_0 at_1 size_2 = some y) : Good E Try.prog 48 [(.rs data_0.z .u8 data_0.n data_0.f), (ii at_1), (ii size_2)] (enc_i64 y) :=
 fun_good E_ok (pc_good (pc := pc_a1 fu) hpc0 hpx0) (fn := Try.f48) (by kernel_rfl) (by kernel_rfl) (by kernel_rfl) (lpok_a1 fu) (fun d hd => out_i64_enc d _ hd) ((ev_a1 fu data_0 at_1 size_2).trans hy)
theorem good_a1 (fu : Nat) : GoodS E Try.prog 48 (S_a1 fu) := by
 intro xs o h y hy
 unfold S_a1 at h
 split at h
 ·rename_i za0_0 na0_0 fa0_0 a1_0 a2_0
  cases h
  exact goodv_a1 fu (⟨za0_0, na0_0, fa0_0⟩ : (Sl Int)) a1_0 a2_0 y hy
 ·cases h
def F_spec_l6Next_M (fu : Nat) (size_1 : Int) (b0_1 : (Sl Int)) (b0_2 : Int) (b0_3 : Bool) : Option (Int × (Sl Int) × Int × Bool) :=
 (((bif b0_3 then (some true) else (some (decide ((IntKind.wrap .i64 (b0_2 + size_1)) > ((b0_1.n : Nat) : Int))))) : Option Bool).bind fun m5 => (bif m5 then (some (0, b0_1, b0_2,
  true)) else ((F_spec_l1Take fu b0_1 b0_2 size_1).bind fun y6 => (some (y6, b0_1, (IntKind.wrap .i64 (b0_2 + size_1)), b0_3)))))
def pcf_a2 (fu f : Nat) (xs : List (D RT den)) : Option (Out RT den) := match f with | 48 => S_a1 fu xs | _ => none
def pc_a2 (fu : Nat) : Pc RT den := ⟨pcf_a2 fu, fun _ => false, fun _ => false, pcd0, pcd0, pcd0, pcx0⟩
def msk_a2 (b : Nat) : List Nat := match b with | 200001 => [23] | _ => []
def lp_a2 (fu : Nat) : Lp RT den (Int × (Sl Int) × Int × Bool) := ⟨fun b s k => none, inl0⟩
def pso_a2 : List (Pat RT) := [.flat (.int .i64)]
def oso_a2 : List (OP RT) := [.box true [(.rs .u8), (.int .i64), .bool]]
def conv_a2 (r : Raw den pso_a2 oso_a2) : Int × (Sl Int) × Int × Bool := (r.1.1, r.2.1.1, r.2.1.2.1, r.2.1.2.2.1)
def enc_a2 (y : Int × (Sl Int) × Int × Bool) : D RT den × List (Ob RT den) := ((.int .i64 y.1), [(.box true [(.rs y.2.1.z .u8 y.2.1.n y.2.1.f), (.int .i64 y.2.2.1), (.bool y.2.2.2)])])
def out_a2 (d : D RT den) (os : List (Ob RT den)) : Option (Int × (Sl Int) × Int × Bool) := (unSt pso_a2 oso_a2 ⟨[d], os⟩).bind fun v => some (conv_a2 v.1)
theorem out_a2_enc (d : D RT den) (os : List (Ob RT den)) (y : Int × (Sl Int) × Int × Bool) (h : out_a2 d os = some y) : d = (enc_a2 y).1 ∧ os = (enc_a2 y).2 :=
 outM (conv := conv_a2) (enc := enc_a2) (fun raw => by kernel_rfl) h
theorem ev_a2 (fu : Nat) (size_1 : Int) (b0_1 : (Sl Int)) (b0_2 : Int) (b0_3 : Bool) : evFunM E false (pc_a2 fu) msk_a2 (lp_a2 fu) out_a2 31 [(.ref 0 0), (ii size_1)] [(.box true [(.rs b0_1.z .u8 b0_1.n b0_1.f), (ii b0_2), (.bool b0_3)])] = F_spec_l6Next_M fu size_1 b0_1 b0_2 b0_3 := by kernel_rfl
noncomputable def body_a2 : Code := Try.f31.body.getD .skip
theorem lpok_a2 (fu : Nat) : LpOk E (pc_a2 fu) 0 msk_a2 (lp_a2 fu) (loops 0 body_a2) := lp_nil (loop_nil (by kernel_rfl)) (by kernel_rfl)
def S_a2 (fu : Nat) (xs : List (D RT den)) (ins : List (Ob RT den)) : Option (OutX RT den) := match xs, ins with | [.ref 0 0, .int .i64 a1_0], [.box true [.rs za1000_0 .u8 na1000_0 fa1000_0, .int .i64 a1001_0, .bool a1002_0]] => some ⟨Int × (Sl Int) × Int × Bool, F_spec_l6Next_M fu a1_0 (⟨za1000_0, na1000_0, fa1000_0⟩ : (Sl Int)) a1001_0 a1002_0, enc_a2⟩ | _, _ => none
theorem hpc_a2 (fu : Nat) : HpcOk E Try.prog (pcf_a2 fu) := by
 intro f xs o h
 unfold pcf_a2 at h
 split at h
 ·exact good_a1 fu xs o h
 ·cases h
theorem goodv_a2 (fu : Nat) (size_1 : Int) (b0_1 : (Sl Int)) (b0_2 : Int) (b0_3 : Bool) (y : Int × (Sl Int) × Int × Bool) (hy : F_spec_l6Next_M fu size_1 b0_1 b0_2 b0_3 = some y) : GoodX E Try.prog 31 [(.ref 0 0), (ii size_1)] [(.box true [(.rs b0_1.z .u8 b0_1.n b0_1.f), (ii b0_2), (.bool b0_3)])] (enc_a2 y).1 (enc_a2 y).2 :=
 funM_good (ke := false) E_ok (pc_good (pc := pc_a2 fu) (hpc_a2 fu) hpx0) (fn := Try.f31) (by kernel_rfl) (by kernel_rfl) (by kernel_rfl) (lpok_a2 fu) (by kernel_rfl) (Nat.le_of_ble_eq_true (by kernel_rfl)) (fun d os hd => out_a2_enc d os _ hd) ((ev_a2 fu size_1 b0_1 b0_2 b0_3).trans hy)
theorem good_a2 (fu : Nat) : GoodSX E Try.prog 31 (S_a2 fu) := by
 intro xs ins o h y hy
 unfold S_a2 at h
 split at h
 ·rename_i a1_0 za1000_0 na1000_0 fa1000_0 a1001_0 a1002_0
  cases h
  exact goodv_a2 fu a1_0 (⟨za1000_0, na1000_0, fa1000_0⟩ : (Sl Int)) a1001_0 a1002_0 y hy
 ·cases h
def F_spec_l1In (fu : Nat) (v_0 low_1 high_2 : Int) : Option (Bool) :=
 (((bif (decide (v_0 ≥ low_1)) then (some (decide (v_0 ≤ high_2))) else (some false)) : Option Bool).bind fun m146 => (some m146))
def pc_a3 (fu : Nat) : Pc RT den := ⟨pcf0, fun _ => false, fun _ => false, pcd0, pcd0, pcd0, pcx0⟩
def msk_a3 (b : Nat) : List Nat := match b with | 200001 => [6] | _ => []
def lp_a3 (fu : Nat) : Lp RT den (Bool) := ⟨fun b s k => none, inl0⟩
theorem ev_a3 (fu : Nat) (v_0 low_1 high_2 : Int) : evFun E (pc_a3 fu) msk_a3 (lp_a3 fu) out_bo 96 [(ii v_0), (ii low_1), (ii high_2)] = F_spec_l1In fu v_0 low_1 high_2 := by kernel_rfl
noncomputable def body_a3 : Code := Try.f96.body.getD .skip
theorem lpok_a3 (fu : Nat) : LpOk E (pc_a3 fu) 0 msk_a3 (lp_a3 fu) (loops 0 body_a3) := lp_nil (loop_nil (by kernel_rfl)) (by kernel_rfl)
def S_a3 (fu : Nat) (xs : List (D RT den)) : Option (Out RT den) := match xs with | [.int .i64 a0_0, .int .i64 a1_0, .int .i64 a2_0] => some ⟨Bool, F_spec_l1In fu a0_0 a1_0 a2_0, enc_bo, fun _ => true⟩ | _ => none
theorem goodv_a3 (fu : Nat) (v_0 low_1 high_2 : Int) (y : Bool) (hy : F_spec_l1In fu v_0 low_1 high_2 = some y) : Good E Try.prog 96 [(ii v_0), (ii low_1), (ii high_2)] (enc_bo y) :=
 fun_good E_ok (pc_good (pc := pc_a3 fu) hpc0 hpx0) (fn := Try.f96) (by kernel_rfl) (by kernel_rfl) (by kernel_rfl) (lpok_a3 fu) (fun d hd => out_bo_enc d _ hd) ((ev_a3 fu v_0 low_1 high_2).trans hy)
theorem good_a3 (fu : Nat) : GoodS E Try.prog 96 (S_a3 fu) := by
 intro xs o h y hy
 unfold S_a3 at h
 split at h
 ·rename_i a0_0 a1_0 a2_0
  cases h
  exact goodv_a3 fu a0_0 a1_0 a2_0 y hy
 ·cases h
def F_spec_l5Version (fu : Nat) (v_0 : Int) : Option (Bool) :=
 ((F_spec_l1In fu v_0 0 1000000).bind fun y145 => (some y145))
def pcf_a4 (fu f : Nat) (xs : List (D RT den)) : Option (Out RT den) := match f with | 96 => S_a3 fu xs | _ => none
def pc_a4 (fu : Nat) : Pc RT den := ⟨pcf_a4 fu, fun _ => false, fun _ => false, pcd0, pcd0, pcd0, pcx0⟩
def msk_a4 (b : Nat) : List Nat := []
def lp_a4 (fu : Nat) : Lp RT den (Bool) := ⟨fun b s k => none, inl0⟩
theorem ev_a4 (fu : Nat) (v_0 : Int) : evFun E (pc_a4 fu) msk_a4 (lp_a4 fu) out_bo 73 [(ii v_0)] = F_spec_l5Version fu v_0 := by kernel_rfl
noncomputable def body_a4 : Code := Try.f73.body.getD .skip
theorem lpok_a4 (fu : Nat) : LpOk E (pc_a4 fu) 0 msk_a4 (lp_a4 fu) (loops 0 body_a4) := lp_nil (loop_nil (by kernel_rfl)) (by kernel_rfl)
def S_a4 (fu : Nat) (xs : List (D RT den)) : Option (Out RT den) := match xs with | [.int .i64 a0_0] => some ⟨Bool, F_spec_l5Version fu a0_0, enc_bo, fun _ => true⟩ | _ => none
theorem hpc_a4 (fu : Nat) : HpcOk E Try.prog (pcf_a4 fu) := by
 intro f xs o h
 unfold pcf_a4 at h
 split at h
 ·exact good_a3 fu xs o h
 ·cases h
theorem goodv_a4 (fu : Nat) (v_0 : Int) (y : Bool) (hy : F_spec_l5Version fu v_0 = some y) : Good E Try.prog 73 [(ii v_0)] (enc_bo y) :=
 fun_good E_ok (pc_good (pc := pc_a4 fu) (hpc_a4 fu) hpx0) (fn := Try.f73) (by kernel_rfl) (by kernel_rfl) (by kernel_rfl) (lpok_a4 fu) (fun d hd => out_bo_enc d _ hd) ((ev_a4 fu v_0).trans hy)
theorem good_a4 (fu : Nat) : GoodS E Try.prog 73 (S_a4 fu) := by
 intro xs o h y hy
 unfold S_a4 at h
 split at h
 ·rename_i a0_0
  cases h
  exact goodv_a4 fu a0_0 y hy
 ·cases h
def F_spec_l3Name (fu : Nat) (name_0 : Int) : Option (Bool) :=
 ((F_spec_l1In fu name_0 1 999).bind fun y152 => (some y152))
def pcf_a5 (fu f : Nat) (xs : List (D RT den)) : Option (Out RT den) := match f with | 96 => S_a3 fu xs | _ => none
def pc_a5 (fu : Nat) : Pc RT den := ⟨pcf_a5 fu, fun _ => false, fun _ => false, pcd0, pcd0, pcd0, pcx0⟩
def msk_a5 (b : Nat) : List Nat := []
def lp_a5 (fu : Nat) : Lp RT den (Bool) := ⟨fun b s k => none, inl0⟩
theorem ev_a5 (fu : Nat) (name_0 : Int) : evFun E (pc_a5 fu) msk_a5 (lp_a5 fu) out_bo 97 [(ii name_0)] = F_spec_l3Name fu name_0 := by kernel_rfl
noncomputable def body_a5 : Code := Try.f97.body.getD .skip
theorem lpok_a5 (fu : Nat) : LpOk E (pc_a5 fu) 0 msk_a5 (lp_a5 fu) (loops 0 body_a5) := lp_nil (loop_nil (by kernel_rfl)) (by kernel_rfl)
def S_a5 (fu : Nat) (xs : List (D RT den)) : Option (Out RT den) := match xs with | [.int .i64 a0_0] => some ⟨Bool, F_spec_l3Name fu a0_0, enc_bo, fun _ => true⟩ | _ => none
theorem hpc_a5 (fu : Nat) : HpcOk E Try.prog (pcf_a5 fu) := by
 intro f xs o h
 unfold pcf_a5 at h
 split at h
 ·exact good_a3 fu xs o h
 ·cases h
theorem goodv_a5 (fu : Nat) (name_0 : Int) (y : Bool) (hy : F_spec_l3Name fu name_0 = some y) : Good E Try.prog 97 [(ii name_0)] (enc_bo y) :=
 fun_good E_ok (pc_good (pc := pc_a5 fu) (hpc_a5 fu) hpx0) (fn := Try.f97) (by kernel_rfl) (by kernel_rfl) (by kernel_rfl) (lpok_a5 fu) (fun d hd => out_bo_enc d _ hd) ((ev_a5 fu name_0).trans hy)
theorem good_a5 (fu : Nat) : GoodS E Try.prog 97 (S_a5 fu) := by
 intro xs o h y hy
 unfold S_a5 at h
 split at h
 ·rename_i a0_0
  cases h
  exact goodv_a5 fu a0_0 y hy
 ·cases h
def F_spec_l2Address (fu : Nat) (a_0 : Int) : Option (Bool) :=
 ((F_spec_l1In fu a_0 0 4294967295).bind fun y153 => (some y153))
def pcf_a6 (fu f : Nat) (xs : List (D RT den)) : Option (Out RT den) := match f with | 96 => S_a3 fu xs | _ => none
def pc_a6 (fu : Nat) : Pc RT den := ⟨pcf_a6 fu, fun _ => false, fun _ => false, pcd0, pcd0, pcd0, pcx0⟩
def msk_a6 (b : Nat) : List Nat := []
def lp_a6 (fu : Nat) : Lp RT den (Bool) := ⟨fun b s k => none, inl0⟩
theorem ev_a6 (fu : Nat) (a_0 : Int) : evFun E (pc_a6 fu) msk_a6 (lp_a6 fu) out_bo 98 [(ii a_0)] = F_spec_l2Address fu a_0 := by kernel_rfl
noncomputable def body_a6 : Code := Try.f98.body.getD .skip
theorem lpok_a6 (fu : Nat) : LpOk E (pc_a6 fu) 0 msk_a6 (lp_a6 fu) (loops 0 body_a6) := lp_nil (loop_nil (by kernel_rfl)) (by kernel_rfl)
def S_a6 (fu : Nat) (xs : List (D RT den)) : Option (Out RT den) := match xs with | [.int .i64 a0_0] => some ⟨Bool, F_spec_l2Address fu a0_0, enc_bo, fun _ => true⟩ | _ => none
theorem hpc_a6 (fu : Nat) : HpcOk E Try.prog (pcf_a6 fu) := by
 intro f xs o h
 unfold pcf_a6 at h
 split at h
 ·exact good_a3 fu xs o h
 ·cases h
theorem goodv_a6 (fu : Nat) (a_0 : Int) (y : Bool) (hy : F_spec_l2Address fu a_0 = some y) : Good E Try.prog 98 [(ii a_0)] (enc_bo y) :=
 fun_good E_ok (pc_good (pc := pc_a6 fu) (hpc_a6 fu) hpx0) (fn := Try.f98) (by kernel_rfl) (by kernel_rfl) (by kernel_rfl) (lpok_a6 fu) (fun d hd => out_bo_enc d _ hd) ((ev_a6 fu a_0).trans hy)
theorem good_a6 (fu : Nat) : GoodS E Try.prog 98 (S_a6 fu) := by
 intro xs o h y hy
 unfold S_a6 at h
 split at h
 ·rename_i a0_0
  cases h
  exact goodv_a6 fu a0_0 y hy
 ·cases h
def F_spec_l5Backend (fu : Nat) (b_0 : S_impl_Backend) : Option (Bool) :=
 ((((F_spec_l3Name fu b_0.Name).bind fun y147 => (bif y147 then ((F_spec_l2Address fu b_0.Address).bind fun y148 => (bif y148 then ((F_spec_l1In fu b_0.Weight 0 9).bind fun y149 =>
  (bif y149 then ((F_spec_l1In fu b_0.Stage 1 3).bind fun y150 => (some y150)) else (some false))) else (some false))) else (some false))) : Option Bool).bind fun m151 => (some m151))
def pcf_a7 (fu f : Nat) (xs : List (D RT den)) : Option (Out RT den) := match f with | 96 => S_a3 fu xs | 97 => S_a5 fu xs | 98 => S_a6 fu xs | _ => none
def pc_a7 (fu : Nat) : Pc RT den := ⟨pcf_a7 fu, fun _ => false, fun _ => false, pcd0, pcd0, pcd0, pcx0⟩
def msk_a7 (b : Nat) : List Nat := match b with | 200001 => [2] | _ => []
def lp_a7 (fu : Nat) : Lp RT den (Bool) := ⟨fun b s k => none, inl0⟩
theorem ev_a7 (fu : Nat) (b_0 : S_impl_Backend) : evFun E (pc_a7 fu) msk_a7 (lp_a7 fu) out_bo 74 [(.agg [(ii b_0.Name), (ii b_0.Address), (ii b_0.Weight), (ii b_0.Stage), (.bool b_0.Up)])] = F_spec_l5Backend fu b_0 := by kernel_rfl
noncomputable def body_a7 : Code := Try.f74.body.getD .skip
theorem lpok_a7 (fu : Nat) : LpOk E (pc_a7 fu) 0 msk_a7 (lp_a7 fu) (loops 0 body_a7) := lp_nil (loop_nil (by kernel_rfl)) (by kernel_rfl)
def S_a7 (fu : Nat) (xs : List (D RT den)) : Option (Out RT den) := match xs with | [.agg [.int .i64 a0_1, .int .i64 a0_2, .int .i64 a0_3, .int .i64 a0_4, .bool a0_5]] => some ⟨Bool, F_spec_l5Backend fu (⟨a0_1, a0_2, a0_3, a0_4, a0_5⟩ : S_impl_Backend), enc_bo, fun _ => true⟩ | _ => none
theorem hpc_a7 (fu : Nat) : HpcOk E Try.prog (pcf_a7 fu) := by
 intro f xs o h
 unfold pcf_a7 at h
 split at h
 ·exact good_a3 fu xs o h
 ·exact good_a5 fu xs o h
 ·exact good_a6 fu xs o h
 ·cases h
theorem goodv_a7 (fu : Nat) (b_0 : S_impl_Backend) (y : Bool) (hy : F_spec_l5Backend fu b_0 = some y) : Good E Try.prog 74 [(.agg [(ii b_0.Name), (ii b_0.Address), (ii b_0.Weight), (ii b_0.Stage), (.bool b_0.Up)])] (enc_bo y) :=
 fun_good E_ok (pc_good (pc := pc_a7 fu) (hpc_a7 fu) hpx0) (fn := Try.f74) (by kernel_rfl) (by kernel_rfl) (by kernel_rfl) (lpok_a7 fu) (fun d hd => out_bo_enc d _ hd) ((ev_a7 fu b_0).trans hy)
theorem good_a7 (fu : Nat) : GoodS E Try.prog 74 (S_a7 fu) := by
 intro xs o h y hy
 unfold S_a7 at h
 split at h
 ·rename_i a0_1 a0_2 a0_3 a0_4 a0_5
  cases h
  exact goodv_a7 fu (⟨a0_1, a0_2, a0_3, a0_4, a0_5⟩ : S_impl_Backend) y hy
 ·cases h
def F_spec_l2Port (fu : Nat) (p_0 : Int) : Option (Bool) :=
 ((F_spec_l1In fu p_0 0 65535).bind fun y161 => (some y161))
def pcf_a8 (fu f : Nat) (xs : List (D RT den)) : Option (Out RT den) := match f with | 96 => S_a3 fu xs | _ => none
def pc_a8 (fu : Nat) : Pc RT den := ⟨pcf_a8 fu, fun _ => false, fun _ => false, pcd0, pcd0, pcd0, pcx0⟩
def msk_a8 (b : Nat) : List Nat := []
def lp_a8 (fu : Nat) : Lp RT den (Bool) := ⟨fun b s k => none, inl0⟩
theorem ev_a8 (fu : Nat) (p_0 : Int) : evFun E (pc_a8 fu) msk_a8 (lp_a8 fu) out_bo 120 [(ii p_0)] = F_spec_l2Port fu p_0 := by kernel_rfl
noncomputable def body_a8 : Code := Try.f120.body.getD .skip
theorem lpok_a8 (fu : Nat) : LpOk E (pc_a8 fu) 0 msk_a8 (lp_a8 fu) (loops 0 body_a8) := lp_nil (loop_nil (by kernel_rfl)) (by kernel_rfl)
def S_a8 (fu : Nat) (xs : List (D RT den)) : Option (Out RT den) := match xs with | [.int .i64 a0_0] => some ⟨Bool, F_spec_l2Port fu a0_0, enc_bo, fun _ => true⟩ | _ => none
theorem hpc_a8 (fu : Nat) : HpcOk E Try.prog (pcf_a8 fu) := by
 intro f xs o h
 unfold pcf_a8 at h
 split at h
 ·exact good_a3 fu xs o h
 ·cases h
theorem goodv_a8 (fu : Nat) (p_0 : Int) (y : Bool) (hy : F_spec_l2Port fu p_0 = some y) : Good E Try.prog 120 [(ii p_0)] (enc_bo y) :=
 fun_good E_ok (pc_good (pc := pc_a8 fu) (hpc_a8 fu) hpx0) (fn := Try.f120) (by kernel_rfl) (by kernel_rfl) (by kernel_rfl) (lpok_a8 fu) (fun d hd => out_bo_enc d _ hd) ((ev_a8 fu p_0).trans hy)
theorem good_a8 (fu : Nat) : GoodS E Try.prog 120 (S_a8 fu) := by
 intro xs o h y hy
 unfold S_a8 at h
 split at h
 ·rename_i a0_0
  cases h
  exact goodv_a8 fu a0_0 y hy
 ·cases h
def F_spec_l5Proto (fu : Nat) (p_0 : Int) : Option (Bool) :=
 (((bif (p_0 == 6) then (some true) else (some (p_0 == 17))) : Option Bool).bind fun m162 => (some m162))
def pc_a9 (fu : Nat) : Pc RT den := ⟨pcf0, fun _ => false, fun _ => false, pcd0, pcd0, pcd0, pcx0⟩
def msk_a9 (b : Nat) : List Nat := match b with | 200001 => [2] | _ => []
def lp_a9 (fu : Nat) : Lp RT den (Bool) := ⟨fun b s k => none, inl0⟩
theorem ev_a9 (fu : Nat) (p_0 : Int) : evFun E (pc_a9 fu) msk_a9 (lp_a9 fu) out_bo 100 [(ii p_0)] = F_spec_l5Proto fu p_0 := by kernel_rfl
noncomputable def body_a9 : Code := Try.f100.body.getD .skip
theorem lpok_a9 (fu : Nat) : LpOk E (pc_a9 fu) 0 msk_a9 (lp_a9 fu) (loops 0 body_a9) := lp_nil (loop_nil (by kernel_rfl)) (by kernel_rfl)
def S_a9 (fu : Nat) (xs : List (D RT den)) : Option (Out RT den) := match xs with | [.int .i64 a0_0] => some ⟨Bool, F_spec_l5Proto fu a0_0, enc_bo, fun _ => true⟩ | _ => none
theorem goodv_a9 (fu : Nat) (p_0 : Int) (y : Bool) (hy : F_spec_l5Proto fu p_0 = some y) : Good E Try.prog 100 [(ii p_0)] (enc_bo y) :=
 fun_good E_ok (pc_good (pc := pc_a9 fu) hpc0 hpx0) (fn := Try.f100) (by kernel_rfl) (by kernel_rfl) (by kernel_rfl) (lpok_a9 fu) (fun d hd => out_bo_enc d _ hd) ((ev_a9 fu p_0).trans hy)
theorem good_a9 (fu : Nat) : GoodS E Try.prog 100 (S_a9 fu) := by
 intro xs o h y hy
 unfold S_a9 at h
 split at h
 ·rename_i a0_0
  cases h
  exact goodv_a9 fu a0_0 y hy
 ·cases h
def F_spec_l5Behind (fu : Nat) (a_0 b_1 : S_impl_Vip) : Option (Bool) :=
 (bif (a_0.Address != b_1.Address) then (some (decide (a_0.Address < b_1.Address))) else (bif (a_0.Port != b_1.Port) then (some (decide (a_0.Port < b_1.Port))) else (some (decide (a_0.Proto < b_1.Proto)))))
def pc_a10 (fu : Nat) : Pc RT den := ⟨pcf0, fun _ => false, fun _ => false, pcd0, pcd0, pcd0, pcx0⟩
def msk_a10 (b : Nat) : List Nat := []
def lp_a10 (fu : Nat) : Lp RT den (Bool) := ⟨fun b s k => none, inl0⟩
theorem ev_a10 (fu : Nat) (a_0 b_1 : S_impl_Vip) : evFun E (pc_a10 fu) msk_a10 (lp_a10 fu) out_bo 121 [(.agg [(ii a_0.Address), (ii a_0.Port), (ii a_0.Proto), (.rs a_0.Names.z .i64 a_0.Names.n a_0.Names.f)]), (.agg [(ii b_1.Address), (ii b_1.Port), (ii b_1.Proto), (.rs b_1.Names.z .i64 b_1.Names.n b_1.Names.f)])] = F_spec_l5Behind fu a_0 b_1 := by kernel_rfl
noncomputable def body_a10 : Code := Try.f121.body.getD .skip
theorem lpok_a10 (fu : Nat) : LpOk E (pc_a10 fu) 0 msk_a10 (lp_a10 fu) (loops 0 body_a10) := lp_nil (loop_nil (by kernel_rfl)) (by kernel_rfl)
def S_a10 (fu : Nat) (xs : List (D RT den)) : Option (Out RT den) := match xs with | [.agg [.int .i64 a0_1, .int .i64 a0_2, .int .i64 a0_3, .rs za0_4 .i64 na0_4 fa0_4], .agg [.int .i64 a1_1, .int .i64 a1_2, .int .i64 a1_3, .rs za1_4 .i64 na1_4 fa1_4]] => some ⟨Bool, F_spec_l5Behind fu (⟨a0_1, a0_2, a0_3, (⟨za0_4, na0_4, fa0_4⟩ : (Sl Int))⟩ : S_impl_Vip) (⟨a1_1, a1_2, a1_3, (⟨za1_4, na1_4, fa1_4⟩ : (Sl Int))⟩ : S_impl_Vip), enc_bo, fun _ => true⟩ | _ => none
theorem goodv_a10 (fu : Nat) (a_0 b_1 : S_impl_Vip) (y : Bool) (hy : F_spec_l5Behind fu a_0 b_1 = some y) : Good E Try.prog 121 [(.agg [(ii a_0.Address), (ii a_0.Port), (ii a_0.Proto), (.rs a_0.Names.z .i64 a_0.Names.n a_0.Names.f)]), (.agg [(ii b_1.Address), (ii b_1.Port), (ii b_1.Proto), (.rs b_1.Names.z .i64 b_1.Names.n b_1.Names.f)])] (enc_bo y) :=
 fun_good E_ok (pc_good (pc := pc_a10 fu) hpc0 hpx0) (fn := Try.f121) (by kernel_rfl) (by kernel_rfl) (by kernel_rfl) (lpok_a10 fu) (fun d hd => out_bo_enc d _ hd) ((ev_a10 fu a_0 b_1).trans hy)
theorem good_a10 (fu : Nat) : GoodS E Try.prog 121 (S_a10 fu) := by
 intro xs o h y hy
 unfold S_a10 at h
 split at h
 ·rename_i a0_1 a0_2 a0_3 za0_4 na0_4 fa0_4 a1_1 a1_2 a1_3 za1_4 na1_4 fa1_4
  cases h
  exact goodv_a10 fu (⟨a0_1, a0_2, a0_3, (⟨za0_4, na0_4, fa0_4⟩ : (Sl Int))⟩ : S_impl_Vip) (⟨a1_1, a1_2, a1_3, (⟨za1_4, na1_4, fa1_4⟩ : (Sl Int))⟩ : S_impl_Vip) y hy
 ·cases h
def F_spec_l5At_B0 {ρ : Type} (fu : Nat) (c0_0 : Int) (c0_1 : (Sl S_impl_Backend)) (c0_2 : (Sl S_impl_Vip)) (name1_3 : Int) (k0 : Int → Option ρ) (k1 : Option ρ) (i5_4 : Int) (go : Int → Option ρ) : Option ρ :=
 (bif (decide (i5_4 < ((c0_1.n : Nat) : Int))) then ((bif (decide (0 ≤ i5_4) && decide ((Int.toNat i5_4) < c0_1.n)) then some () else none : Option Unit).bind fun _ => (bif ((c0_1.f (Int.toNat i5_4)).Name == name1_3) then
  (k0 i5_4) else (go (IntKind.wrap .i64 (i5_4 + 1))))) else k1)
def F_spec_l5At (fu : Nat) (c_0 : S_impl_Config) (name_1 : Int) : Option (Int) :=
 (L (fun w0 go0 => F_spec_l5At_B0 fu c_0.Version c_0.Backends c_0.Vips name_1 (fun z163 => (some z163)) (some (-1)) w0 go0) fu (0 : Int))
def pc_a11 (fu : Nat) : Pc RT den := ⟨pcf0, fun _ => false, fun _ => false, pcd0, pcd0, pcd0, pcx0⟩
def msk_a11 (b : Nat) : List Nat := match b with | 0 => (2 :: 3 :: 4 :: (rg 6 20 [])) | 100000 => (0 :: 1 :: 2 :: 3 :: (rg 5 21 [])) | _ => []
def ps_a11_0 : List (Pat RT) := (.rptr [(.int .i64), (.rs .impl_Backend), (.rs .impl_Vip)] :: .flat (.int .i64) :: .flat .q :: .flat .q :: .flat .q :: .flat (.int .i64) :: (fq 20 []))
def os_a11_0 : List (OP RT) := []
def conv_a11_0 (r : Raw den ps_a11_0 os_a11_0) : (Int × (Sl S_impl_Backend) × (Sl S_impl_Vip) × Int) × (Int) := ((r.1.1.1, r.1.1.2.1, r.1.1.2.2.1, r.1.2.1), (e5 r.1).1)
def back_a11_0 (c : Int × (Sl S_impl_Backend) × (Sl S_impl_Vip) × Int) (w : Int) : St RT den := ⟨((.rptr [(ii c.1), (.rs c.2.1.z .impl_Backend c.2.1.n c.2.1.f), (.rs c.2.2.1.z .impl_Vip c.2.2.1.n c.2.2.1.f)]) :: (ii c.2.2.2) :: .q :: .q :: .q :: (ii w) :: (qs 20 [])), []⟩
def Bk_a11_0 {ρ : Type} (fu : Nat) (c : Int × (Sl S_impl_Backend) × (Sl S_impl_Vip) × Int) (k : Ex → St RT den → Option ρ) (w : Int) (go : (Int) → Option ρ) : Option ρ := F_spec_l5At_B0 fu c.1 c.2.1 c.2.2.1 c.2.2.2 (fun a0 => k .ret ⟨(qs 4 ((ii a0) :: (qs 21 []))), []⟩) (k (.exit 0) ⟨(qs 26 []), []⟩) w go
def lp_a11 (fu : Nat) : Lp RT den (Int) := ⟨fun b s k => match b with | 0 => handle ps_a11_0 os_a11_0 conv_a11_0 (Bk_a11_0 fu) fu s k | _ => none, inl0⟩
theorem ev_a11 (fu : Nat) (c_0 : S_impl_Config) (name_1 : Int) : evFun E (pc_a11 fu) msk_a11 (lp_a11 fu) out_i64 58 [(.rptr [(ii c_0.Version), (.rs c_0.Backends.z .impl_Backend c_0.Backends.n c_0.Backends.f), (.rs c_0.Vips.z .impl_Vip c_0.Vips.n c_0.Vips.f)]), (ii name_1)] = F_spec_l5At fu c_0 name_1 := by kernel_rfl
noncomputable def body_a11 : Code := Try.f58.body.getD .skip
noncomputable def lc_a11_0 : Code := ((loops 0 body_a11).getD 0 (0, .skip)).2
theorem round_a11_0 (fu : Nat) : RoundOk E (pc_a11 fu) msk_a11 (lp_a11 fu) 0 lc_a11_0 back_a11_0 0 100000 0 (Bk_a11_0 fu) := fun it k c w => by kernel_rfl
theorem lpok_a11_0 (fu : Nat) : LpAt E (pc_a11 fu) msk_a11 (lp_a11 fu) 0 0 100000 0 lc_a11_0 :=
 handle_ok (ps := ps_a11_0) (os := os_a11_0) (conv := conv_a11_0) (B := Bk_a11_0 fu) (fu := fu) back_a11_0 (fun raw => by kernel_rfl) 0 (fun c w => by kernel_rfl) (round_a11_0 fu)
theorem lpok_a11 (fu : Nat) : LpOk E (pc_a11 fu) 0 msk_a11 (lp_a11 fu) (loops 0 body_a11) := lp_nil (loop_all 1 (by kernel_rfl) fun i hi => match i, hi with
 | 0, _ => by
  have h : (loops 0 body_a11).getD 0 (0, .skip) = (0, lc_a11_0) := by kernel_rfl
  rw [h]; exact lpok_a11_0 fu
 | i + 1, hi => absurd hi (by omega)) (by kernel_rfl)
def S_a11 (fu : Nat) (xs : List (D RT den)) : Option (Out RT den) := match xs with | [.rptr (.int .i64 a0_1 :: .rs za0_2 .impl_Backend na0_2 fa0_2 :: .rs za0_3 .impl_Vip na0_3 fa0_3 :: ra0), .int .i64 a1_0] => some ⟨Int, F_spec_l5At fu (⟨a0_1, (⟨za0_2, na0_2, fa0_2⟩ : (Sl S_impl_Backend)), (⟨za0_3, na0_3, fa0_3⟩ : (Sl S_impl_Vip))⟩ : S_impl_Config) a1_0, enc_i64, fun _ => true⟩ | _ => none
theorem goodv_a11 (fu : Nat) (c_0 : S_impl_Config) (name_1 y : Int) (hy : F_spec_l5At fu c_0 name_1 = some y) : Good E Try.prog 58 [(.rptr [(ii c_0.Version), (.rs c_0.Backends.z .impl_Backend c_0.Backends.n c_0.Backends.f), (.rs c_0.Vips.z .impl_Vip c_0.Vips.n c_0.Vips.f)]), (ii name_1)] (enc_i64 y) :=
 fun_good E_ok (pc_good (pc := pc_a11 fu) hpc0 hpx0) (fn := Try.f58) (by kernel_rfl) (by kernel_rfl) (by kernel_rfl) (lpok_a11 fu) (fun d hd => out_i64_enc d _ hd) ((ev_a11 fu c_0 name_1).trans hy)
theorem good_a11 (fu : Nat) : GoodS E Try.prog 58 (S_a11 fu) := by
 intro xs o h y hy
 unfold S_a11 at h
 split at h
 ·rename_i a0_1 za0_2 na0_2 fa0_2 za0_3 na0_3 fa0_3 ra0 a1_0
  cases h
  exact (goodv_a11 fu (⟨a0_1, (⟨za0_2, na0_2, fa0_2⟩ : (Sl S_impl_Backend)), (⟨za0_3, na0_3, fa0_3⟩ : (Sl S_impl_Vip))⟩ : S_impl_Config) a1_0 y hy).sub ⟨Sub.of_eq ra0 rfl, .refl _, trivial⟩
 ·cases h
def F_spec_l5Vip_B0 {ρ : Type} (fu : Nat) (c0_0 : Int) (c0_1 : (Sl S_impl_Backend)) (c0_2 : (Sl S_impl_Vip)) (o0_4 o0_5 o0_6 : Int) (o0_7 : (Sl Int)) (k0 : Option ρ) (k1 : Option ρ) (i6_3 : Int) (go : Int → Option ρ) : Option ρ :=
 (bif (decide (i6_3 < ((o0_7.n : Nat) : Int))) then ((bif (decide (0 ≤ i6_3) && decide ((Int.toNat i6_3) < o0_7.n)) then some () else none : Option Unit).bind fun _ =>
  ((F_spec_l5At fu (⟨c0_0, c0_1, c0_2⟩ : S_impl_Config) (o0_7.f (Int.toNat i6_3))).bind fun y160 => (bif (decide (y160 < 0)) then k0 else (go (IntKind.wrap .i64 (i6_3 + 1)))))) else
  k1)
def F_spec_l5Vip_B2 {ρ : Type} (fu : Nat) (o0_1 o0_2 o0_3 : Int) (o0_4 : (Sl Int)) (k0 : Option ρ) (k1 : Option ρ) (i7_0 : Int) (go : Int → Option ρ) : Option ρ :=
 (bif (decide (i7_0 < ((o0_4.n : Nat) : Int))) then ((bif (decide (0 ≤ i7_0) && decide ((Int.toNat i7_0) < o0_4.n)) then some () else none : Option Unit).bind fun _ => ((bif (decide (0 ≤ (IntKind.wrap .i64 (i7_0 - 1))) &&
  decide ((Int.toNat (IntKind.wrap .i64 (i7_0 - 1))) < o0_4.n)) then some () else none : Option Unit).bind fun _ => (bif (decide ((o0_4.f (Int.toNat i7_0)) ≤ (o0_4.f (Int.toNat (IntKind.wrap .i64 (i7_0 - 1)))))) then
  k0 else (go (IntKind.wrap .i64 (i7_0 + 1)))))) else k1)
def F_spec_l5Vip (fu : Nat) (c_0 : S_impl_Config) (at_1 : Int) : Option (Int) :=
 ((bif (decide (0 ≤ at_1) && decide ((Int.toNat at_1) < c_0.Vips.n)) then some () else none : Option Unit).bind fun _ => ((((F_spec_l2Address fu (c_0.Vips.f (Int.toNat at_1)).Address).bind fun y154 =>
  (bif (!y154) then (some true) else ((F_spec_l2Port fu (c_0.Vips.f (Int.toNat at_1)).Port).bind fun y155 => (bif (!y155) then (some true) else ((F_spec_l5Proto fu (c_0.Vips.f (Int.toNat at_1)).Proto).bind fun y156 =>
  (some (!y156))))))) : Option Bool).bind fun m157 => (bif m157 then (some 3) else (((bif (decide (at_1 > 0)) then ((bif (decide (0 ≤ (IntKind.wrap .i64 (at_1 - 1))) && decide ((Int.toNat (IntKind.wrap .i64 (at_1 - 1))) < c_0.Vips.n)) then
  some () else none : Option Unit).bind fun _ => ((F_spec_l5Behind fu (c_0.Vips.f (Int.toNat (IntKind.wrap .i64 (at_1 - 1)))) (c_0.Vips.f (Int.toNat at_1))).bind fun y158 => (some (!y158)))) else
  (some false)) : Option Bool).bind fun m159 => (bif m159 then (some 1) else (L (fun w0 go0 => F_spec_l5Vip_B0 fu c_0.Version c_0.Backends c_0.Vips ((c_0.Vips.f (Int.toNat at_1)).Address) ((c_0.Vips.f (Int.toNat at_1)).Port) ((c_0.Vips.f (Int.toNat at_1)).Proto) ((c_0.Vips.f (Int.toNat at_1)).Names) (some 4) (L (fun w2 go2 =>
  F_spec_l5Vip_B2 fu ((c_0.Vips.f (Int.toNat at_1)).Address) ((c_0.Vips.f (Int.toNat at_1)).Port) ((c_0.Vips.f (Int.toNat at_1)).Proto) ((c_0.Vips.f (Int.toNat at_1)).Names) (some 1) (some 0) w2 go2) fu (1 : Int)) w0 go0) fu (0 : Int)))))))
def pcf_a12 (fu f : Nat) (xs : List (D RT den)) : Option (Out RT den) := match f with | 58 => S_a11 fu xs | 98 => S_a6 fu xs | 100 => S_a9 fu xs | 120 => S_a8 fu xs | 121 => S_a10 fu xs | _ => none
def pc_a12 (fu : Nat) : Pc RT den := ⟨pcf_a12 fu, fun _ => false, fun _ => false, pcd0, pcd0, pcd0, pcx0⟩
def msk_a12 (b : Nat) : List Nat := match b with | 0 => (1 :: 2 :: 3 :: 4 :: (rg 7 73 [])) | 100000 => (0 :: 1 :: 2 :: 3 :: (rg 6 74 [])) | 2 => (rg 0 5 (6 :: (rg 8 72 []))) | 100002 => (0 :: 1 :: 2 :: 3 :: (rg 5 75 [])) | 200002 => [30] | 200004 => [45] | _ => []
def ps_a12_0 : List (Pat RT) := (.rptr [(.int .i64), (.rs .impl_Backend), (.rs .impl_Vip)] :: (fq 4 (.flat (.ref 0 0) :: .flat (.int .i64) :: (fq 73 []))))
def os_a12_0 : List (OP RT) := [.box false [(.int .i64), (.int .i64), (.int .i64), (.rs .i64)]]
def conv_a12_0 (r : Raw den ps_a12_0 os_a12_0) : (Ya0) × (Int) := ((r.1.1.1, r.1.1.2.1, r.1.1.2.2.1, r.2.1.1, r.2.1.2.1, r.2.1.2.2.1, r.2.1.2.2.2.1), (e5 r.1).2.1)
def back_a12_0 (c : Ya0) (w : Int) : St RT den := ⟨((.rptr [(ii c.1), (.rs c.2.1.z .impl_Backend c.2.1.n c.2.1.f), (.rs c.2.2.1.z .impl_Vip c.2.2.1.n c.2.2.1.f)]) :: (qs 4 ((.ref 0 0) :: (ii w) :: (qs 73 [])))), [(.box false [(ii c.2.2.2.1), (ii c.2.2.2.2.1), (ii (e5 c).1), (.rs (e5 c).2.z .i64 (e5 c).2.n (e5 c).2.f)])]⟩
def Bk_a12_0 {ρ : Type} (fu : Nat) (c : Ya0) (k : Ex → St RT den → Option ρ) (w : Int) (go : (Int) → Option ρ) : Option ρ := F_spec_l5Vip_B0 fu c.1 c.2.1 c.2.2.1 c.2.2.2.1 c.2.2.2.2.1 (e5 c).1 (e5 c).2 (k .ret ⟨(qs 4 ((ii 4) :: (.ref 0 0) :: (qs 74 []))), [(.box false [(ii c.2.2.2.1), (ii c.2.2.2.2.1), (ii (e5 c).1), (.rs (e5 c).2.z .i64 (e5 c).2.n (e5 c).2.f)])]⟩) (k (.exit 0) ⟨(qs 5 ((.ref 0 0) :: (qs 74 []))), [(.box false [(ii c.2.2.2.1), (ii c.2.2.2.2.1), (ii (e5 c).1), (.rs (e5 c).2.z .i64 (e5 c).2.n (e5 c).2.f)])]⟩) w go
def ps_a12_2 : List (Pat RT) := (fq 5 (.flat (.ref 0 0) :: .flat .q :: .flat (.int .i64) :: (fq 72 [])))
def os_a12_2 : List (OP RT) := [.box false [(.int .i64), (.int .i64), (.int .i64), (.rs .i64)]]
def conv_a12_2 (r : Raw den ps_a12_2 os_a12_2) : (Int × Int × Int × (Sl Int)) × (Int) := ((r.2.1.1, r.2.1.2.1, r.2.1.2.2.1, r.2.1.2.2.2.1), (e5 r.1).2.2.1)
def back_a12_2 (c : Int × Int × Int × (Sl Int)) (w : Int) : St RT den := ⟨(qs 5 ((.ref 0 0) :: .q :: (ii w) :: (qs 72 []))), [(.box false [(ii c.1), (ii c.2.1), (ii c.2.2.1), (.rs c.2.2.2.z .i64 c.2.2.2.n c.2.2.2.f)])]⟩
def Bk_a12_2 {ρ : Type} (fu : Nat) (c : Int × Int × Int × (Sl Int)) (k : Ex → St RT den → Option ρ) (w : Int) (go : (Int) → Option ρ) : Option ρ := F_spec_l5Vip_B2 fu c.1 c.2.1 c.2.2.1 c.2.2.2 (k .ret ⟨(qs 4 ((ii 1) :: (qs 75 []))), [(.box false [(ii c.1), (ii c.2.1), (ii c.2.2.1), (.rs c.2.2.2.z .i64 c.2.2.2.n c.2.2.2.f)])]⟩) (k (.exit 2) ⟨(qs 80 []), [(.box false [(ii c.1), (ii c.2.1), (ii c.2.2.1), (.rs c.2.2.2.z .i64 c.2.2.2.n c.2.2.2.f)])]⟩) w go
def lp_a12 (fu : Nat) : Lp RT den (Int) := ⟨fun b s k => match b with | 0 => handle ps_a12_0 os_a12_0 conv_a12_0 (Bk_a12_0 fu) fu s k | 2 => handle ps_a12_2 os_a12_2 conv_a12_2 (Bk_a12_2 fu) fu s k | _ => none, inl0⟩
theorem ev_a12 (fu : Nat) (c_0 : S_impl_Config) (at_1 : Int) : evFun E (pc_a12 fu) msk_a12 (lp_a12 fu) out_i64 75 [(.rptr [(ii c_0.Version), (.rs c_0.Backends.z .impl_Backend c_0.Backends.n c_0.Backends.f), (.rs c_0.Vips.z .impl_Vip c_0.Vips.n c_0.Vips.f)]), (ii at_1)] = F_spec_l5Vip fu c_0 at_1 := by kernel_rfl
noncomputable def body_a12 : Code := Try.f75.body.getD .skip
noncomputable def lc_a12_0 : Code := ((loops 0 body_a12).getD 0 (0, .skip)).2
theorem round_a12_0 (fu : Nat) : RoundOk E (pc_a12 fu) msk_a12 (lp_a12 fu) 0 lc_a12_0 back_a12_0 0 100000 1 (Bk_a12_0 fu) := fun it k c w => by kernel_rfl
theorem lpok_a12_0 (fu : Nat) : LpAt E (pc_a12 fu) msk_a12 (lp_a12 fu) 0 0 100000 0 lc_a12_0 :=
 handle_ok (ps := ps_a12_0) (os := os_a12_0) (conv := conv_a12_0) (B := Bk_a12_0 fu) (fu := fu) back_a12_0 (fun raw => by kernel_rfl) 1 (fun c w => by kernel_rfl) (round_a12_0 fu)
noncomputable def lc_a12_2 : Code := ((loops 0 body_a12).getD 1 (0, .skip)).2
theorem round_a12_2 (fu : Nat) : RoundOk E (pc_a12 fu) msk_a12 (lp_a12 fu) 2 lc_a12_2 back_a12_2 2 100002 1 (Bk_a12_2 fu) := fun it k c w => by kernel_rfl
theorem lpok_a12_2 (fu : Nat) : LpAt E (pc_a12 fu) msk_a12 (lp_a12 fu) 2 2 100002 2 lc_a12_2 :=
 handle_ok (ps := ps_a12_2) (os := os_a12_2) (conv := conv_a12_2) (B := Bk_a12_2 fu) (fu := fu) back_a12_2 (fun raw => by kernel_rfl) 1 (fun c w => by kernel_rfl) (round_a12_2 fu)
theorem lpok_a12 (fu : Nat) : LpOk E (pc_a12 fu) 0 msk_a12 (lp_a12 fu) (loops 0 body_a12) := lp_nil (loop_all 2 (by kernel_rfl) fun i hi => match i, hi with
 | 0, _ => by
  have h : (loops 0 body_a12).getD 0 (0, .skip) = (0, lc_a12_0) := by kernel_rfl
  rw [h]; exact lpok_a12_0 fu
 | 1, _ => by
  have h : (loops 0 body_a12).getD 1 (0, .skip) = (2, lc_a12_2) := by kernel_rfl
  rw [h]; exact lpok_a12_2 fu
 | i + 2, hi => absurd hi (by omega)) (by kernel_rfl)
def S_a12 (fu : Nat) (xs : List (D RT den)) : Option (Out RT den) := match xs with | [.rptr (.int .i64 a0_1 :: .rs za0_2 .impl_Backend na0_2 fa0_2 :: .rs za0_3 .impl_Vip na0_3 fa0_3 :: ra0), .int .i64 a1_0] => some ⟨Int, F_spec_l5Vip fu (⟨a0_1, (⟨za0_2, na0_2, fa0_2⟩ : (Sl S_impl_Backend)), (⟨za0_3, na0_3, fa0_3⟩ : (Sl S_impl_Vip))⟩ : S_impl_Config) a1_0, enc_i64, fun _ => true⟩ | _ => none
theorem hpc_a12 (fu : Nat) : HpcOk E Try.prog (pcf_a12 fu) := by
 intro f xs o h
 unfold pcf_a12 at h
 split at h
 ·exact good_a11 fu xs o h
 ·exact good_a6 fu xs o h
 ·exact good_a9 fu xs o h
 ·exact good_a8 fu xs o h
 ·exact good_a10 fu xs o h
 ·cases h
theorem goodv_a12 (fu : Nat) (c_0 : S_impl_Config) (at_1 y : Int) (hy : F_spec_l5Vip fu c_0 at_1 = some y) : Good E Try.prog 75 [(.rptr [(ii c_0.Version), (.rs c_0.Backends.z .impl_Backend c_0.Backends.n c_0.Backends.f), (.rs c_0.Vips.z .impl_Vip c_0.Vips.n c_0.Vips.f)]), (ii at_1)] (enc_i64 y) :=
 fun_good E_ok (pc_good (pc := pc_a12 fu) (hpc_a12 fu) hpx0) (fn := Try.f75) (by kernel_rfl) (by kernel_rfl) (by kernel_rfl) (lpok_a12 fu) (fun d hd => out_i64_enc d _ hd) ((ev_a12 fu c_0 at_1).trans hy)
theorem good_a12 (fu : Nat) : GoodS E Try.prog 75 (S_a12 fu) := by
 intro xs o h y hy
 unfold S_a12 at h
 split at h
 ·rename_i a0_1 za0_2 na0_2 fa0_2 za0_3 na0_3 fa0_3 ra0 a1_0
  cases h
  exact (goodv_a12 fu (⟨a0_1, (⟨za0_2, na0_2, fa0_2⟩ : (Sl S_impl_Backend)), (⟨za0_3, na0_3, fa0_3⟩ : (Sl S_impl_Vip))⟩ : S_impl_Config) a1_0 y hy).sub ⟨Sub.of_eq ra0 rfl, .refl _, trivial⟩
 ·cases h
def F_spec_l5Fault_B0 {ρ : Type} (fu : Nat) (c0_0 : Int) (c0_1 : (Sl S_impl_Backend)) (c0_2 : (Sl S_impl_Vip)) (k0 : Option ρ) (k1 : Option ρ) (k2 : Option ρ) (i3_3 : Int) (go : Int → Option ρ) : Option ρ :=
 (bif (decide (i3_3 < ((c0_1.n : Nat) : Int))) then ((bif (decide (0 ≤ i3_3) && decide ((Int.toNat i3_3) < c0_1.n)) then some () else none : Option Unit).bind fun _ =>
  ((F_spec_l5Backend fu (c0_1.f (Int.toNat i3_3))).bind fun y141 => (bif (!y141) then k0 else (((bif (decide (i3_3 > 0)) then ((bif (decide (0 ≤ i3_3) && decide ((Int.toNat i3_3) < c0_1.n)) then
  some () else none : Option Unit).bind fun _ => ((bif (decide (0 ≤ (IntKind.wrap .i64 (i3_3 - 1))) && decide ((Int.toNat (IntKind.wrap .i64 (i3_3 - 1))) < c0_1.n)) then some () else
  none : Option Unit).bind fun _ => (some (decide ((c0_1.f (Int.toNat i3_3)).Name ≤ (c0_1.f (Int.toNat (IntKind.wrap .i64 (i3_3 - 1)))).Name))))) else (some false)) : Option Bool).bind fun m142 =>
  (bif m142 then k1 else (go (IntKind.wrap .i64 (i3_3 + 1)))))))) else k2)
def F_spec_l5Fault_B2 {ρ : Type} (fu : Nat) (c0_0 : Int) (c0_1 : (Sl S_impl_Backend)) (c0_2 : (Sl S_impl_Vip)) (k0 : Int → Option ρ) (k1 : Option ρ) (i4_3 : Int) (go : Int → Option ρ) : Option ρ :=
 (bif (decide (i4_3 < ((c0_2.n : Nat) : Int))) then ((F_spec_l5Vip fu (⟨c0_0, c0_1, c0_2⟩ : S_impl_Config) i4_3).bind fun y143 => (bif (y143 != 0) then (k0 y143) else (go (IntKind.wrap .i64 (i4_3 + 1))))) else
  k1)
def F_spec_l5Fault (fu : Nat) (c_0 : S_impl_Config) : Option (Int) :=
 ((F_spec_l5Version fu c_0.Version).bind fun y139 => (bif (!y139) then (some 3) else (((bif (decide (((c_0.Backends.n : Nat) : Int) > 8)) then (some true) else (some (decide (((c_0.Vips.n : Nat) : Int) > 4)))) : Option Bool).bind fun m140 =>
  (bif m140 then (some 2) else (L (fun w0 go0 => F_spec_l5Fault_B0 fu c_0.Version c_0.Backends c_0.Vips (some 3) (some 1) (L (fun w2 go2 => F_spec_l5Fault_B2 fu c_0.Version c_0.Backends c_0.Vips (fun z144 =>
  (some z144)) (some 0) w2 go2) fu (0 : Int)) w0 go0) fu (0 : Int))))))
def pcf_a13 (fu f : Nat) (xs : List (D RT den)) : Option (Out RT den) := match f with | 73 => S_a4 fu xs | 74 => S_a7 fu xs | 75 => S_a12 fu xs | _ => none
def pc_a13 (fu : Nat) : Pc RT den := ⟨pcf_a13 fu, fun _ => false, fun _ => false, pcd0, pcd0, pcd0, pcx0⟩
def msk_a13 (b : Nat) : List Nat := match b with | 0 => (1 :: 2 :: (rg 4 77 [])) | 100000 => (1 :: (rg 3 78 [])) | 2 => (1 :: 2 :: 3 :: (rg 5 76 [])) | 100002 => (0 :: 1 :: (rg 3 78 [])) | 200003 => [25] | 200010 => [65] | _ => []
def ps_a13_0 : List (Pat RT) := (.rptr [(.int .i64), (.rs .impl_Backend), (.rs .impl_Vip)] :: .flat .q :: .flat .q :: .flat (.int .i64) :: (fq 77 []))
def os_a13_0 : List (OP RT) := []
def conv_a13_0 (r : Raw den ps_a13_0 os_a13_0) : (Int × (Sl S_impl_Backend) × (Sl S_impl_Vip)) × (Int) := ((r.1.1.1, r.1.1.2.1, r.1.1.2.2.1), r.1.2.2.2.1)
def back_a13_0 (c : Int × (Sl S_impl_Backend) × (Sl S_impl_Vip)) (w : Int) : St RT den := ⟨((.rptr [(ii c.1), (.rs c.2.1.z .impl_Backend c.2.1.n c.2.1.f), (.rs c.2.2.z .impl_Vip c.2.2.n c.2.2.f)]) :: .q :: .q :: (ii w) :: (qs 77 [])), []⟩
def Bk_a13_0 {ρ : Type} (fu : Nat) (c : Int × (Sl S_impl_Backend) × (Sl S_impl_Vip)) (k : Ex → St RT den → Option ρ) (w : Int) (go : (Int) → Option ρ) : Option ρ := F_spec_l5Fault_B0 fu c.1 c.2.1 c.2.2 (k .ret ⟨((.rptr [(ii c.1), (.rs c.2.1.z .impl_Backend c.2.1.n c.2.1.f), (.rs c.2.2.z .impl_Vip c.2.2.n c.2.2.f)]) :: .q :: (ii 3) :: (qs 78 [])), []⟩) (k .ret ⟨((.rptr [(ii c.1), (.rs c.2.1.z .impl_Backend c.2.1.n c.2.1.f), (.rs c.2.2.z .impl_Vip c.2.2.n c.2.2.f)]) :: .q :: (ii 1) :: (qs 78 [])), []⟩) (k (.exit 0) ⟨((.rptr [(ii c.1), (.rs c.2.1.z .impl_Backend c.2.1.n c.2.1.f), (.rs c.2.2.z .impl_Vip c.2.2.n c.2.2.f)]) :: (qs 80 [])), []⟩) w go
def ps_a13_2 : List (Pat RT) := (.rptr [(.int .i64), (.rs .impl_Backend), (.rs .impl_Vip)] :: .flat .q :: .flat .q :: .flat .q :: .flat (.int .i64) :: (fq 76 []))
def os_a13_2 : List (OP RT) := []
def conv_a13_2 (r : Raw den ps_a13_2 os_a13_2) : (Int × (Sl S_impl_Backend) × (Sl S_impl_Vip)) × (Int) := ((r.1.1.1, r.1.1.2.1, r.1.1.2.2.1), r.1.2.2.2.2.1)
def back_a13_2 (c : Int × (Sl S_impl_Backend) × (Sl S_impl_Vip)) (w : Int) : St RT den := ⟨((.rptr [(ii c.1), (.rs c.2.1.z .impl_Backend c.2.1.n c.2.1.f), (.rs c.2.2.z .impl_Vip c.2.2.n c.2.2.f)]) :: .q :: .q :: .q :: (ii w) :: (qs 76 [])), []⟩
def Bk_a13_2 {ρ : Type} (fu : Nat) (c : Int × (Sl S_impl_Backend) × (Sl S_impl_Vip)) (k : Ex → St RT den → Option ρ) (w : Int) (go : (Int) → Option ρ) : Option ρ := F_spec_l5Fault_B2 fu c.1 c.2.1 c.2.2 (fun a0 => k .ret ⟨(.q :: .q :: (ii a0) :: (qs 78 [])), []⟩) (k (.exit 2) ⟨(qs 81 []), []⟩) w go
def lp_a13 (fu : Nat) : Lp RT den (Int) := ⟨fun b s k => match b with | 0 => handle ps_a13_0 os_a13_0 conv_a13_0 (Bk_a13_0 fu) fu s k | 2 => handle ps_a13_2 os_a13_2 conv_a13_2 (Bk_a13_2 fu) fu s k | _ => none, inl0⟩
theorem ev_a13 (fu : Nat) (c_0 : S_impl_Config) : evFun E (pc_a13 fu) msk_a13 (lp_a13 fu) out_i64 32 [(.rptr [(ii c_0.Version), (.rs c_0.Backends.z .impl_Backend c_0.Backends.n c_0.Backends.f), (.rs c_0.Vips.z .impl_Vip c_0.Vips.n c_0.Vips.f)])] = F_spec_l5Fault fu c_0 := by kernel_rfl
noncomputable def body_a13 : Code := Try.f32.body.getD .skip
noncomputable def lc_a13_0 : Code := ((loops 0 body_a13).getD 0 (0, .skip)).2
theorem round_a13_0 (fu : Nat) : RoundOk E (pc_a13 fu) msk_a13 (lp_a13 fu) 0 lc_a13_0 back_a13_0 0 100000 0 (Bk_a13_0 fu) := fun it k c w => by kernel_rfl
theorem lpok_a13_0 (fu : Nat) : LpAt E (pc_a13 fu) msk_a13 (lp_a13 fu) 0 0 100000 0 lc_a13_0 :=
 handle_ok (ps := ps_a13_0) (os := os_a13_0) (conv := conv_a13_0) (B := Bk_a13_0 fu) (fu := fu) back_a13_0 (fun raw => by kernel_rfl) 0 (fun c w => by kernel_rfl) (round_a13_0 fu)
noncomputable def lc_a13_2 : Code := ((loops 0 body_a13).getD 1 (0, .skip)).2
theorem round_a13_2 (fu : Nat) : RoundOk E (pc_a13 fu) msk_a13 (lp_a13 fu) 2 lc_a13_2 back_a13_2 2 100002 0 (Bk_a13_2 fu) := fun it k c w => by kernel_rfl
theorem lpok_a13_2 (fu : Nat) : LpAt E (pc_a13 fu) msk_a13 (lp_a13 fu) 2 2 100002 2 lc_a13_2 :=
 handle_ok (ps := ps_a13_2) (os := os_a13_2) (conv := conv_a13_2) (B := Bk_a13_2 fu) (fu := fu) back_a13_2 (fun raw => by kernel_rfl) 0 (fun c w => by kernel_rfl) (round_a13_2 fu)
theorem lpok_a13 (fu : Nat) : LpOk E (pc_a13 fu) 0 msk_a13 (lp_a13 fu) (loops 0 body_a13) := lp_nil (loop_all 2 (by kernel_rfl) fun i hi => match i, hi with
 | 0, _ => by
  have h : (loops 0 body_a13).getD 0 (0, .skip) = (0, lc_a13_0) := by kernel_rfl
  rw [h]; exact lpok_a13_0 fu
 | 1, _ => by
  have h : (loops 0 body_a13).getD 1 (0, .skip) = (2, lc_a13_2) := by kernel_rfl
  rw [h]; exact lpok_a13_2 fu
 | i + 2, hi => absurd hi (by omega)) (by kernel_rfl)
def S_a13 (fu : Nat) (xs : List (D RT den)) : Option (Out RT den) := match xs with | [.rptr (.int .i64 a0_1 :: .rs za0_2 .impl_Backend na0_2 fa0_2 :: .rs za0_3 .impl_Vip na0_3 fa0_3 :: ra0)] => some ⟨Int, F_spec_l5Fault fu (⟨a0_1, (⟨za0_2, na0_2, fa0_2⟩ : (Sl S_impl_Backend)), (⟨za0_3, na0_3, fa0_3⟩ : (Sl S_impl_Vip))⟩ : S_impl_Config), enc_i64, fun _ => true⟩ | _ => none
theorem hpc_a13 (fu : Nat) : HpcOk E Try.prog (pcf_a13 fu) := by
 intro f xs o h
 unfold pcf_a13 at h
 split at h
 ·exact good_a4 fu xs o h
 ·exact good_a7 fu xs o h
 ·exact good_a12 fu xs o h
 ·cases h
theorem goodv_a13 (fu : Nat) (c_0 : S_impl_Config) (y : Int) (hy : F_spec_l5Fault fu c_0 = some y) : Good E Try.prog 32 [(.rptr [(ii c_0.Version), (.rs c_0.Backends.z .impl_Backend c_0.Backends.n c_0.Backends.f), (.rs c_0.Vips.z .impl_Vip c_0.Vips.n c_0.Vips.f)])] (enc_i64 y) :=
 fun_good E_ok (pc_good (pc := pc_a13 fu) (hpc_a13 fu) hpx0) (fn := Try.f32) (by kernel_rfl) (by kernel_rfl) (by kernel_rfl) (lpok_a13 fu) (fun d hd => out_i64_enc d _ hd) ((ev_a13 fu c_0).trans hy)
theorem good_a13 (fu : Nat) : GoodS E Try.prog 32 (S_a13 fu) := by
 intro xs o h y hy
 unfold S_a13 at h
 split at h
 ·rename_i a0_1 za0_2 na0_2 fa0_2 za0_3 na0_3 fa0_3 ra0
  cases h
  exact (goodv_a13 fu (⟨a0_1, (⟨za0_2, na0_2, fa0_2⟩ : (Sl S_impl_Backend)), (⟨za0_3, na0_3, fa0_3⟩ : (Sl S_impl_Vip))⟩ : S_impl_Config) y hy).sub ⟨Sub.of_eq ra0 rfl, trivial⟩
 ·cases h
def F_spec_l1Bytes_H_B0 {ρ : Type} (fu : Nat) (n0_0 : Int) (k0 : Nat → Nat → (Nat → Int) → Option ρ) (out5_1 : Nat) (k6_2 : Int) (on0_3 : Nat) (of0_4 : (Nat → Int)) (go : Nat → Int → Nat → (Nat → Int) → Option ρ) : Option ρ :=
 (bif (decide (k6_2 ≥ 0)) then ((bif (decide (0 ≤ (IntKind.wrap .u64 (IntKind.wrap .i64 (8 * k6_2))))) then some () else none : Option Unit).bind fun _ => (bif (decide ((out5_1 + 1) ≤ 9223372036854775807) &&
  decide ((out5_1 + 1) * 1 ≤ 140737488355328)) then (go (out5_1 + 1) (IntKind.wrap .i64 (k6_2 - 1)) (out5_1 + 1) (fun i => if i < out5_1 then (of0_4 i) else ((fun i =>
  ([(IntKind.wrap .u8 (shrInt .i64 n0_0 (IntKind.wrap .u64 (IntKind.wrap .i64 (8 * k6_2)))))] : List (Int)).getD i (dflt .u8)) (i - out5_1)))) else none)) else (k0 out5_1 on0_3 of0_4))
def F_spec_l1Bytes_H (fu : Nat) (n_0 size_1 : Int) : Option ((Sl Int)) :=
 (L (fun w0 go0 => F_spec_l1Bytes_H_B0 fu n_0 (fun z168 z169 z170 => (some (⟨none, z168, z170⟩ : (Sl Int)))) w0.1 w0.2.1 w0.2.2.1 w0.2.2.2 (fun q0 q1 q2 q3 => go0 (q0, q1, q2,
  q3))) fu ((0, (IntKind.wrap .i64 (size_1 - 1)), 0, (fun _ => dflt .u8)) : Nat × Int × Nat × (Nat → Int)))
def pc_a14 (fu : Nat) : Pc RT den := ⟨pcf0, fun _ => false, fun _ => false, pcd0, pcd0, pcd0, pcx0⟩
def msk_a14 (b : Nat) : List Nat := match b with | 0 => (1 :: 2 :: 3 :: 4 :: (rg 7 17 [])) | 100000 => (0 :: 1 :: 2 :: 3 :: (rg 6 18 [])) | 300000 => [5] | _ => []
def ps_a14_0 : List (Pat RT) := (.flat (.int .i64) :: (fq 4 (.flat (.os 0) :: .flat (.int .i64) :: (fq 17 []))))
def os_a14_0 : List (OP RT) := [.row false .u8]
def conv_a14_0 (r : Raw den ps_a14_0 os_a14_0) : (Int) × (Nat × Int × Nat × (Nat → Int)) := (r.1.1, ((e5 r.1).1, (e5 r.1).2.1, r.2.1.1, r.2.1.2))
def back_a14_0 (c : Int) (w : Nat × Int × Nat × (Nat → Int)) : St RT den := ⟨((ii c) :: (qs 4 ((.os 0 w.1) :: (ii w.2.1) :: (qs 17 [])))), [(.row false .u8 w.2.2.1 w.2.2.2)]⟩
def Bk_a14_0 {ρ : Type} (fu : Nat) (c : Int) (k : Ex → St RT den → Option ρ) (w : Nat × Int × Nat × (Nat → Int)) (go : (Nat × Int × Nat × (Nat → Int)) → Option ρ) : Option ρ := F_spec_l1Bytes_H_B0 fu c (fun a0 a1 a2 => k (.exit 0) ⟨(qs 5 ((.os 0 a0) :: (qs 18 []))), [(.row false .u8 a1 a2)]⟩) w.1 w.2.1 w.2.2.1 w.2.2.2 (fun q0 q1 q2 q3 => go (q0, q1, q2, q3))
def lp_a14 (fu : Nat) : Lp RT den ((Sl Int)) := ⟨fun b s k => match b with | 0 => handle ps_a14_0 os_a14_0 conv_a14_0 (Bk_a14_0 fu) fu s k | _ => none, inl0⟩
theorem ev_a14 (fu : Nat) (n_0 size_1 : Int) : evFunX E false (pc_a14 fu) msk_a14 (lp_a14 fu) out_sl_u8_H 76 [(ii n_0), (ii size_1)] [] = F_spec_l1Bytes_H fu n_0 size_1 := by kernel_rfl
noncomputable def body_a14 : Code := Try.f76.body.getD .skip
noncomputable def lc_a14_0 : Code := ((loops 0 body_a14).getD 0 (0, .skip)).2
theorem round_a14_0 (fu : Nat) : RoundOk E (pc_a14 fu) msk_a14 (lp_a14 fu) 0 lc_a14_0 back_a14_0 0 100000 1 (Bk_a14_0 fu) := fun it k c w => by kernel_rfl
theorem lpok_a14_0 (fu : Nat) : LpAt E (pc_a14 fu) msk_a14 (lp_a14 fu) 0 0 100000 0 lc_a14_0 :=
 handle_ok (ps := ps_a14_0) (os := os_a14_0) (conv := conv_a14_0) (B := Bk_a14_0 fu) (fu := fu) back_a14_0 (fun raw => by kernel_rfl) 1 (fun c w => by kernel_rfl) (round_a14_0 fu)
theorem lpok_a14 (fu : Nat) : LpOk E (pc_a14 fu) 0 msk_a14 (lp_a14 fu) (loops 0 body_a14) := lp_nil (loop_all 1 (by kernel_rfl) fun i hi => match i, hi with
 | 0, _ => by
  have h : (loops 0 body_a14).getD 0 (0, .skip) = (0, lc_a14_0) := by kernel_rfl
  rw [h]; exact lpok_a14_0 fu
 | i + 1, hi => absurd hi (by omega)) (by kernel_rfl)
def S_a14 (fu : Nat) (xs : List (D RT den)) (ins : List (Ob RT den)) : Option (OutX RT den) := match xs, ins with | [.int .i64 a0_0, .int .i64 a1_0], [] => some ⟨(Sl Int), F_spec_l1Bytes_H fu a0_0 a1_0, enc_sl_u8_H⟩ | _, _ => none
theorem goodv_a14 (fu : Nat) (n_0 size_1 : Int) (y : (Sl Int)) (hy : F_spec_l1Bytes_H fu n_0 size_1 = some y) : GoodX E Try.prog 76 [(ii n_0), (ii size_1)] [] (enc_sl_u8_H y).1 (enc_sl_u8_H y).2 :=
 funX_good (ke := false) E_ok (pc_good (pc := pc_a14 fu) hpc0 hpx0) (fn := Try.f76) (by kernel_rfl) (by kernel_rfl) (by kernel_rfl) (lpok_a14 fu) (by kernel_rfl) (Nat.zero_le _) (fun d os hd => out_sl_u8_H_enc d os _ hd) ((ev_a14 fu n_0 size_1).trans hy)
theorem good_a14 (fu : Nat) : GoodSX E Try.prog 76 (S_a14 fu) := by
 intro xs ins o h y hy
 unfold S_a14 at h
 split at h
 ·rename_i a0_0 a1_0
  cases h
  exact goodv_a14 fu a0_0 a1_0 y hy
 ·cases h
end Go.Proofs.Ytcmfekgdlaffkaa.Pc
