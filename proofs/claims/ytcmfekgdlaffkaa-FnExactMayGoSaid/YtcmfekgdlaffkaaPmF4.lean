/- The functions' evaluated forms, each a proved summary. Conditions: none. -/
import Derived.Test.YtcmfekgdlaffkaaPmF3
namespace Go.Proofs.Ytcmfekgdlaffkaa.Pm
open Go Go.RowKit Go.Proofs Vm
set_option linter.unusedVariables false
set_option linter.unusedSimpArgs false
set_option maxRecDepth 100000
def F_laws_eqBackendS_B0 {ρ : Type} (fu : Nat) (a0_0 b1_1 : (Sl S_impl_Backend)) (k0 : Option ρ) (k1 : Option ρ) (i5_2 : Int) (go : Int → Option ρ) : Option ρ :=
 (bif (decide (i5_2 < ((a0_0.n : Nat) : Int))) then ((bif (decide (0 ≤ i5_2) && decide ((Int.toNat i5_2) < a0_0.n)) then some () else none : Option Unit).bind fun _ => ((bif (decide (0 ≤ i5_2) &&
  decide ((Int.toNat i5_2) < b1_1.n)) then some () else none : Option Unit).bind fun _ => ((F_laws_eqBackend fu (a0_0.f (Int.toNat i5_2)) (b1_1.f (Int.toNat i5_2))).bind fun y274 =>
  (bif (!y274) then k0 else (go (IntKind.wrap .i64 (i5_2 + 1))))))) else k1)
def F_laws_eqBackendS (fu : Nat) (a_0 b_1 : (Sl S_impl_Backend)) : Option (Bool) :=
 (bif (((a_0.n : Nat) : Int) != ((b_1.n : Nat) : Int)) then (some false) else (L (fun w0 go0 => F_laws_eqBackendS_B0 fu a_0 b_1 (some false) (some true) w0 go0) fu (0 : Int)))
def pcf_b34 (fu f : Nat) (xs : List (D RT den)) : Option (Out RT den) := match f with | 118 => S_b33 fu xs | _ => none
def pc_b34 (fu : Nat) : Pc RT den := ⟨pcf_b34 fu, fun _ => false, fun _ => false, pcd0, pcd0, pcd0, pcx0⟩
def msk_b34 (b : Nat) : List Nat := match b with | 0 => (2 :: 3 :: 4 :: (rg 6 21 [])) | 100000 => (0 :: 1 :: 2 :: 3 :: (rg 5 22 [])) | _ => []
def ps_b34_0 : List (Pat RT) := (.flat (.rs .impl_Backend) :: .flat (.rs .impl_Backend) :: .flat .q :: .flat .q :: .flat .q :: .flat (.int .i64) :: (fq 21 []))
def os_b34_0 : List (OP RT) := []
def conv_b34_0 (r : Raw den ps_b34_0 os_b34_0) : ((Sl S_impl_Backend) × (Sl S_impl_Backend)) × (Int) := ((r.1.1, r.1.2.1), (e5 r.1).1)
def back_b34_0 (c : (Sl S_impl_Backend) × (Sl S_impl_Backend)) (w : Int) : St RT den := ⟨((.rs c.1.z .impl_Backend c.1.n c.1.f) :: (.rs c.2.z .impl_Backend c.2.n c.2.f) :: .q :: .q :: .q :: (ii w) :: (qs 21 [])), []⟩
def Bk_b34_0 {ρ : Type} (fu : Nat) (c : (Sl S_impl_Backend) × (Sl S_impl_Backend)) (k : Ex → St RT den → Option ρ) (w : Int) (go : (Int) → Option ρ) : Option ρ := F_laws_eqBackendS_B0 fu c.1 c.2 (k .ret ⟨(qs 4 ((.bool false) :: (qs 22 []))), []⟩) (k (.exit 0) ⟨(qs 27 []), []⟩) w go
def lp_b34 (fu : Nat) : Lp RT den (Bool) := ⟨fun b s k => match b with | 0 => handle ps_b34_0 os_b34_0 conv_b34_0 (Bk_b34_0 fu) fu s k | _ => none, inl0⟩
theorem ev_b34 (fu : Nat) (a_0 b_1 : (Sl S_impl_Backend)) : evFun E (pc_b34 fu) msk_b34 (lp_b34 fu) out_bo 71 [(.rs a_0.z .impl_Backend a_0.n a_0.f), (.rs b_1.z .impl_Backend b_1.n b_1.f)] = F_laws_eqBackendS fu a_0 b_1 := by kernel_rfl
noncomputable def body_b34 : Code := Try.f71.body.getD .skip
noncomputable def lc_b34_0 : Code := ((loops 0 body_b34).getD 0 (0, .skip)).2
theorem round_b34_0 (fu : Nat) : RoundOk E (pc_b34 fu) msk_b34 (lp_b34 fu) 0 lc_b34_0 back_b34_0 0 100000 0 (Bk_b34_0 fu) := fun it k c w => by kernel_rfl
theorem lpok_b34_0 (fu : Nat) : LpAt E (pc_b34 fu) msk_b34 (lp_b34 fu) 0 0 100000 0 lc_b34_0 :=
 handle_ok (ps := ps_b34_0) (os := os_b34_0) (conv := conv_b34_0) (B := Bk_b34_0 fu) (fu := fu) back_b34_0 (fun raw => by kernel_rfl) 0 (fun c w => by kernel_rfl) (round_b34_0 fu)
theorem lpok_b34 (fu : Nat) : LpOk E (pc_b34 fu) 0 msk_b34 (lp_b34 fu) (loops 0 body_b34) := lp_nil (loop_all 1 (by kernel_rfl) fun i hi => match i, hi with
 | 0, _ => by
  have h : (loops 0 body_b34).getD 0 (0, .skip) = (0, lc_b34_0) := by kernel_rfl
  rw [h]; exact lpok_b34_0 fu
 | i + 1, hi => absurd hi (by omega)) (by kernel_rfl)
def S_b34 (fu : Nat) (xs : List (D RT den)) : Option (Out RT den) := match xs with | [.rs za0_0 .impl_Backend na0_0 fa0_0, .rs za1_0 .impl_Backend na1_0 fa1_0] => some ⟨Bool, F_laws_eqBackendS fu (⟨za0_0, na0_0, fa0_0⟩ : (Sl S_impl_Backend)) (⟨za1_0, na1_0, fa1_0⟩ : (Sl S_impl_Backend)), enc_bo, fun _ => true⟩ | _ => none
theorem hpc_b34 (fu : Nat) : HpcOk E Try.prog (pcf_b34 fu) := by
 intro f xs o h
 unfold pcf_b34 at h
 split at h
 ·exact good_b33 fu xs o h
 ·cases h
theorem goodv_b34 (fu : Nat) (a_0 b_1 : (Sl S_impl_Backend)) (y : Bool) (hy : F_laws_eqBackendS fu a_0 b_1 = some y) : Vm.Good E Try.prog 71 [(.rs a_0.z .impl_Backend a_0.n a_0.f), (.rs b_1.z .impl_Backend b_1.n b_1.f)] (enc_bo y) :=
 fun_good E_ok (pc_good (pc := pc_b34 fu) (hpc_b34 fu) hpx0) (fn := Try.f71) (by kernel_rfl) (by kernel_rfl) (by kernel_rfl) (lpok_b34 fu) (fun d hd => out_bo_enc d _ hd) ((ev_b34 fu a_0 b_1).trans hy)
theorem good_b34 (fu : Nat) : GoodS E Try.prog 71 (S_b34 fu) := by
 intro xs o h y hy
 unfold S_b34 at h
 split at h
 ·rename_i za0_0 na0_0 fa0_0 za1_0 na1_0 fa1_0
  cases h
  exact goodv_b34 fu (⟨za0_0, na0_0, fa0_0⟩ : (Sl S_impl_Backend)) (⟨za1_0, na1_0, fa1_0⟩ : (Sl S_impl_Backend)) y hy
 ·cases h
def F_laws_eqInt64S_B0 {ρ : Type} (fu : Nat) (a0_0 b1_1 : (Sl Int)) (k0 : Option ρ) (k1 : Option ρ) (i5_2 : Int) (go : Int → Option ρ) : Option ρ :=
 (bif (decide (i5_2 < ((a0_0.n : Nat) : Int))) then ((bif (decide (0 ≤ i5_2) && decide ((Int.toNat i5_2) < a0_0.n)) then some () else none : Option Unit).bind fun _ => ((bif (decide (0 ≤ i5_2) &&
  decide ((Int.toNat i5_2) < b1_1.n)) then some () else none : Option Unit).bind fun _ => (bif ((a0_0.f (Int.toNat i5_2)) != (b1_1.f (Int.toNat i5_2))) then k0 else (go (IntKind.wrap .i64 (i5_2 + 1)))))) else
  k1)
def F_laws_eqInt64S (fu : Nat) (a_0 b_1 : (Sl Int)) : Option (Bool) :=
 (bif (((a_0.n : Nat) : Int) != ((b_1.n : Nat) : Int)) then (some false) else (L (fun w0 go0 => F_laws_eqInt64S_B0 fu a_0 b_1 (some false) (some true) w0 go0) fu (0 : Int)))
def pc_b35 (fu : Nat) : Pc RT den := ⟨pcf0, fun _ => false, fun _ => false, pcd0, pcd0, pcd0, pcx0⟩
def msk_b35 (b : Nat) : List Nat := match b with | 0 => (2 :: 3 :: 4 :: (rg 6 20 [])) | 100000 => (0 :: 1 :: 2 :: 3 :: (rg 5 21 [])) | _ => []
def ps_b35_0 : List (Pat RT) := (.flat (.rs .i64) :: .flat (.rs .i64) :: .flat .q :: .flat .q :: .flat .q :: .flat (.int .i64) :: (fq 20 []))
def os_b35_0 : List (OP RT) := []
def conv_b35_0 (r : Raw den ps_b35_0 os_b35_0) : ((Sl Int) × (Sl Int)) × (Int) := ((r.1.1, r.1.2.1), (e5 r.1).1)
def back_b35_0 (c : (Sl Int) × (Sl Int)) (w : Int) : St RT den := ⟨((.rs c.1.z .i64 c.1.n c.1.f) :: (.rs c.2.z .i64 c.2.n c.2.f) :: .q :: .q :: .q :: (ii w) :: (qs 20 [])), []⟩
def Bk_b35_0 {ρ : Type} (fu : Nat) (c : (Sl Int) × (Sl Int)) (k : Ex → St RT den → Option ρ) (w : Int) (go : (Int) → Option ρ) : Option ρ := F_laws_eqInt64S_B0 fu c.1 c.2 (k .ret ⟨(qs 4 ((.bool false) :: (qs 21 []))), []⟩) (k (.exit 0) ⟨(qs 26 []), []⟩) w go
def lp_b35 (fu : Nat) : Lp RT den (Bool) := ⟨fun b s k => match b with | 0 => handle ps_b35_0 os_b35_0 conv_b35_0 (Bk_b35_0 fu) fu s k | _ => none, inl0⟩
theorem ev_b35 (fu : Nat) (a_0 b_1 : (Sl Int)) : evFun E (pc_b35 fu) msk_b35 (lp_b35 fu) out_bo 138 [(.rs a_0.z .i64 a_0.n a_0.f), (.rs b_1.z .i64 b_1.n b_1.f)] = F_laws_eqInt64S fu a_0 b_1 := by kernel_rfl
noncomputable def body_b35 : Code := Try.f138.body.getD .skip
noncomputable def lc_b35_0 : Code := ((loops 0 body_b35).getD 0 (0, .skip)).2
theorem round_b35_0 (fu : Nat) : RoundOk E (pc_b35 fu) msk_b35 (lp_b35 fu) 0 lc_b35_0 back_b35_0 0 100000 0 (Bk_b35_0 fu) := fun it k c w => by kernel_rfl
theorem lpok_b35_0 (fu : Nat) : LpAt E (pc_b35 fu) msk_b35 (lp_b35 fu) 0 0 100000 0 lc_b35_0 :=
 handle_ok (ps := ps_b35_0) (os := os_b35_0) (conv := conv_b35_0) (B := Bk_b35_0 fu) (fu := fu) back_b35_0 (fun raw => by kernel_rfl) 0 (fun c w => by kernel_rfl) (round_b35_0 fu)
theorem lpok_b35 (fu : Nat) : LpOk E (pc_b35 fu) 0 msk_b35 (lp_b35 fu) (loops 0 body_b35) := lp_nil (loop_all 1 (by kernel_rfl) fun i hi => match i, hi with
 | 0, _ => by
  have h : (loops 0 body_b35).getD 0 (0, .skip) = (0, lc_b35_0) := by kernel_rfl
  rw [h]; exact lpok_b35_0 fu
 | i + 1, hi => absurd hi (by omega)) (by kernel_rfl)
def S_b35 (fu : Nat) (xs : List (D RT den)) : Option (Out RT den) := match xs with | [.rs za0_0 .i64 na0_0 fa0_0, .rs za1_0 .i64 na1_0 fa1_0] => some ⟨Bool, F_laws_eqInt64S fu (⟨za0_0, na0_0, fa0_0⟩ : (Sl Int)) (⟨za1_0, na1_0, fa1_0⟩ : (Sl Int)), enc_bo, fun _ => true⟩ | _ => none
theorem goodv_b35 (fu : Nat) (a_0 b_1 : (Sl Int)) (y : Bool) (hy : F_laws_eqInt64S fu a_0 b_1 = some y) : Vm.Good E Try.prog 138 [(.rs a_0.z .i64 a_0.n a_0.f), (.rs b_1.z .i64 b_1.n b_1.f)] (enc_bo y) :=
 fun_good E_ok (pc_good (pc := pc_b35 fu) hpc0 hpx0) (fn := Try.f138) (by kernel_rfl) (by kernel_rfl) (by kernel_rfl) (lpok_b35 fu) (fun d hd => out_bo_enc d _ hd) ((ev_b35 fu a_0 b_1).trans hy)
theorem good_b35 (fu : Nat) : GoodS E Try.prog 138 (S_b35 fu) := by
 intro xs o h y hy
 unfold S_b35 at h
 split at h
 ·rename_i za0_0 na0_0 fa0_0 za1_0 na1_0 fa1_0
  cases h
  exact goodv_b35 fu (⟨za0_0, na0_0, fa0_0⟩ : (Sl Int)) (⟨za1_0, na1_0, fa1_0⟩ : (Sl Int)) y hy
 ·cases h
def F_laws_eqVip (fu : Nat) (a_0 b_1 : S_impl_Vip) : Option (Bool) :=
 (bif (a_0.Address != b_1.Address) then (some false) else (bif (a_0.Port != b_1.Port) then (some false) else (bif (a_0.Proto != b_1.Proto) then (some false) else ((F_laws_eqInt64S fu a_0.Names b_1.Names).bind fun y276 =>
  (bif (!y276) then (some false) else (some true))))))
def pcf_b36 (fu f : Nat) (xs : List (D RT den)) : Option (Out RT den) := match f with | 138 => S_b35 fu xs | _ => none
def pc_b36 (fu : Nat) : Pc RT den := ⟨pcf_b36 fu, fun _ => false, fun _ => false, pcd0, pcd0, pcd0, pcx0⟩
def msk_b36 (b : Nat) : List Nat := []
def lp_b36 (fu : Nat) : Lp RT den (Bool) := ⟨fun b s k => none, inl0⟩
theorem ev_b36 (fu : Nat) (a_0 b_1 : S_impl_Vip) : evFun E (pc_b36 fu) msk_b36 (lp_b36 fu) out_bo 119 [(.agg [(ii a_0.Address), (ii a_0.Port), (ii a_0.Proto), (.rs a_0.Names.z .i64 a_0.Names.n a_0.Names.f)]), (.agg [(ii b_1.Address), (ii b_1.Port), (ii b_1.Proto), (.rs b_1.Names.z .i64 b_1.Names.n b_1.Names.f)])] = F_laws_eqVip fu a_0 b_1 := by kernel_rfl
noncomputable def body_b36 : Code := Try.f119.body.getD .skip
theorem lpok_b36 (fu : Nat) : LpOk E (pc_b36 fu) 0 msk_b36 (lp_b36 fu) (loops 0 body_b36) := lp_nil (loop_nil (by kernel_rfl)) (by kernel_rfl)
def S_b36 (fu : Nat) (xs : List (D RT den)) : Option (Out RT den) := match xs with | [.agg [.int .i64 a0_1, .int .i64 a0_2, .int .i64 a0_3, .rs za0_4 .i64 na0_4 fa0_4], .agg [.int .i64 a1_1, .int .i64 a1_2, .int .i64 a1_3, .rs za1_4 .i64 na1_4 fa1_4]] => some ⟨Bool, F_laws_eqVip fu (⟨a0_1, a0_2, a0_3, (⟨za0_4, na0_4, fa0_4⟩ : (Sl Int))⟩ : S_impl_Vip) (⟨a1_1, a1_2, a1_3, (⟨za1_4, na1_4, fa1_4⟩ : (Sl Int))⟩ : S_impl_Vip), enc_bo, fun _ => true⟩ | _ => none
theorem hpc_b36 (fu : Nat) : HpcOk E Try.prog (pcf_b36 fu) := by
 intro f xs o h
 unfold pcf_b36 at h
 split at h
 ·exact good_b35 fu xs o h
 ·cases h
theorem goodv_b36 (fu : Nat) (a_0 b_1 : S_impl_Vip) (y : Bool) (hy : F_laws_eqVip fu a_0 b_1 = some y) : Vm.Good E Try.prog 119 [(.agg [(ii a_0.Address), (ii a_0.Port), (ii a_0.Proto), (.rs a_0.Names.z .i64 a_0.Names.n a_0.Names.f)]), (.agg [(ii b_1.Address), (ii b_1.Port), (ii b_1.Proto), (.rs b_1.Names.z .i64 b_1.Names.n b_1.Names.f)])] (enc_bo y) :=
 fun_good E_ok (pc_good (pc := pc_b36 fu) (hpc_b36 fu) hpx0) (fn := Try.f119) (by kernel_rfl) (by kernel_rfl) (by kernel_rfl) (lpok_b36 fu) (fun d hd => out_bo_enc d _ hd) ((ev_b36 fu a_0 b_1).trans hy)
theorem good_b36 (fu : Nat) : GoodS E Try.prog 119 (S_b36 fu) := by
 intro xs o h y hy
 unfold S_b36 at h
 split at h
 ·rename_i a0_1 a0_2 a0_3 za0_4 na0_4 fa0_4 a1_1 a1_2 a1_3 za1_4 na1_4 fa1_4
  cases h
  exact goodv_b36 fu (⟨a0_1, a0_2, a0_3, (⟨za0_4, na0_4, fa0_4⟩ : (Sl Int))⟩ : S_impl_Vip) (⟨a1_1, a1_2, a1_3, (⟨za1_4, na1_4, fa1_4⟩ : (Sl Int))⟩ : S_impl_Vip) y hy
 ·cases h
def F_laws_eqVipS_B0 {ρ : Type} (fu : Nat) (a0_0 b1_1 : (Sl S_impl_Vip)) (k0 : Option ρ) (k1 : Option ρ) (i5_2 : Int) (go : Int → Option ρ) : Option ρ :=
 (bif (decide (i5_2 < ((a0_0.n : Nat) : Int))) then ((bif (decide (0 ≤ i5_2) && decide ((Int.toNat i5_2) < a0_0.n)) then some () else none : Option Unit).bind fun _ => ((bif (decide (0 ≤ i5_2) &&
  decide ((Int.toNat i5_2) < b1_1.n)) then some () else none : Option Unit).bind fun _ => ((F_laws_eqVip fu (a0_0.f (Int.toNat i5_2)) (b1_1.f (Int.toNat i5_2))).bind fun y275 =>
  (bif (!y275) then k0 else (go (IntKind.wrap .i64 (i5_2 + 1))))))) else k1)
def F_laws_eqVipS (fu : Nat) (a_0 b_1 : (Sl S_impl_Vip)) : Option (Bool) :=
 (bif (((a_0.n : Nat) : Int) != ((b_1.n : Nat) : Int)) then (some false) else (L (fun w0 go0 => F_laws_eqVipS_B0 fu a_0 b_1 (some false) (some true) w0 go0) fu (0 : Int)))
def pcf_b37 (fu f : Nat) (xs : List (D RT den)) : Option (Out RT den) := match f with | 119 => S_b36 fu xs | _ => none
def pc_b37 (fu : Nat) : Pc RT den := ⟨pcf_b37 fu, fun _ => false, fun _ => false, pcd0, pcd0, pcd0, pcx0⟩
def msk_b37 (b : Nat) : List Nat := match b with | 0 => (2 :: 3 :: 4 :: (rg 6 21 [])) | 100000 => (0 :: 1 :: 2 :: 3 :: (rg 5 22 [])) | _ => []
def ps_b37_0 : List (Pat RT) := (.flat (.rs .impl_Vip) :: .flat (.rs .impl_Vip) :: .flat .q :: .flat .q :: .flat .q :: .flat (.int .i64) :: (fq 21 []))
def os_b37_0 : List (OP RT) := []
def conv_b37_0 (r : Raw den ps_b37_0 os_b37_0) : ((Sl S_impl_Vip) × (Sl S_impl_Vip)) × (Int) := ((r.1.1, r.1.2.1), (e5 r.1).1)
def back_b37_0 (c : (Sl S_impl_Vip) × (Sl S_impl_Vip)) (w : Int) : St RT den := ⟨((.rs c.1.z .impl_Vip c.1.n c.1.f) :: (.rs c.2.z .impl_Vip c.2.n c.2.f) :: .q :: .q :: .q :: (ii w) :: (qs 21 [])), []⟩
def Bk_b37_0 {ρ : Type} (fu : Nat) (c : (Sl S_impl_Vip) × (Sl S_impl_Vip)) (k : Ex → St RT den → Option ρ) (w : Int) (go : (Int) → Option ρ) : Option ρ := F_laws_eqVipS_B0 fu c.1 c.2 (k .ret ⟨(qs 4 ((.bool false) :: (qs 22 []))), []⟩) (k (.exit 0) ⟨(qs 27 []), []⟩) w go
def lp_b37 (fu : Nat) : Lp RT den (Bool) := ⟨fun b s k => match b with | 0 => handle ps_b37_0 os_b37_0 conv_b37_0 (Bk_b37_0 fu) fu s k | _ => none, inl0⟩
theorem ev_b37 (fu : Nat) (a_0 b_1 : (Sl S_impl_Vip)) : evFun E (pc_b37 fu) msk_b37 (lp_b37 fu) out_bo 72 [(.rs a_0.z .impl_Vip a_0.n a_0.f), (.rs b_1.z .impl_Vip b_1.n b_1.f)] = F_laws_eqVipS fu a_0 b_1 := by kernel_rfl
noncomputable def body_b37 : Code := Try.f72.body.getD .skip
noncomputable def lc_b37_0 : Code := ((loops 0 body_b37).getD 0 (0, .skip)).2
theorem round_b37_0 (fu : Nat) : RoundOk E (pc_b37 fu) msk_b37 (lp_b37 fu) 0 lc_b37_0 back_b37_0 0 100000 0 (Bk_b37_0 fu) := fun it k c w => by kernel_rfl
theorem lpok_b37_0 (fu : Nat) : LpAt E (pc_b37 fu) msk_b37 (lp_b37 fu) 0 0 100000 0 lc_b37_0 :=
 handle_ok (ps := ps_b37_0) (os := os_b37_0) (conv := conv_b37_0) (B := Bk_b37_0 fu) (fu := fu) back_b37_0 (fun raw => by kernel_rfl) 0 (fun c w => by kernel_rfl) (round_b37_0 fu)
theorem lpok_b37 (fu : Nat) : LpOk E (pc_b37 fu) 0 msk_b37 (lp_b37 fu) (loops 0 body_b37) := lp_nil (loop_all 1 (by kernel_rfl) fun i hi => match i, hi with
 | 0, _ => by
  have h : (loops 0 body_b37).getD 0 (0, .skip) = (0, lc_b37_0) := by kernel_rfl
  rw [h]; exact lpok_b37_0 fu
 | i + 1, hi => absurd hi (by omega)) (by kernel_rfl)
def S_b37 (fu : Nat) (xs : List (D RT den)) : Option (Out RT den) := match xs with | [.rs za0_0 .impl_Vip na0_0 fa0_0, .rs za1_0 .impl_Vip na1_0 fa1_0] => some ⟨Bool, F_laws_eqVipS fu (⟨za0_0, na0_0, fa0_0⟩ : (Sl S_impl_Vip)) (⟨za1_0, na1_0, fa1_0⟩ : (Sl S_impl_Vip)), enc_bo, fun _ => true⟩ | _ => none
theorem hpc_b37 (fu : Nat) : HpcOk E Try.prog (pcf_b37 fu) := by
 intro f xs o h
 unfold pcf_b37 at h
 split at h
 ·exact good_b36 fu xs o h
 ·cases h
theorem goodv_b37 (fu : Nat) (a_0 b_1 : (Sl S_impl_Vip)) (y : Bool) (hy : F_laws_eqVipS fu a_0 b_1 = some y) : Vm.Good E Try.prog 72 [(.rs a_0.z .impl_Vip a_0.n a_0.f), (.rs b_1.z .impl_Vip b_1.n b_1.f)] (enc_bo y) :=
 fun_good E_ok (pc_good (pc := pc_b37 fu) (hpc_b37 fu) hpx0) (fn := Try.f72) (by kernel_rfl) (by kernel_rfl) (by kernel_rfl) (lpok_b37 fu) (fun d hd => out_bo_enc d _ hd) ((ev_b37 fu a_0 b_1).trans hy)
theorem good_b37 (fu : Nat) : GoodS E Try.prog 72 (S_b37 fu) := by
 intro xs o h y hy
 unfold S_b37 at h
 split at h
 ·rename_i za0_0 na0_0 fa0_0 za1_0 na1_0 fa1_0
  cases h
  exact goodv_b37 fu (⟨za0_0, na0_0, fa0_0⟩ : (Sl S_impl_Vip)) (⟨za1_0, na1_0, fa1_0⟩ : (Sl S_impl_Vip)) y hy
 ·cases h
def F_laws_eqConfig (fu : Nat) (a_0 b_1 : S_impl_Config) : Option (Bool) :=
 (bif (a_0.Version != b_1.Version) then (some false) else ((F_laws_eqBackendS fu a_0.Backends b_1.Backends).bind fun y272 => (bif (!y272) then (some false) else ((F_laws_eqVipS fu a_0.Vips b_1.Vips).bind fun y273 =>
  (bif (!y273) then (some false) else (some true))))))
def pcf_b38 (fu f : Nat) (xs : List (D RT den)) : Option (Out RT den) := match f with | 71 => S_b34 fu xs | 72 => S_b37 fu xs | _ => none
def pc_b38 (fu : Nat) : Pc RT den := ⟨pcf_b38 fu, fun _ => false, fun _ => false, pcd0, pcd0, pcd0, pcx0⟩
def msk_b38 (b : Nat) : List Nat := []
def lp_b38 (fu : Nat) : Lp RT den (Bool) := ⟨fun b s k => none, inl0⟩
theorem ev_b38 (fu : Nat) (a_0 b_1 : S_impl_Config) : evFun E (pc_b38 fu) msk_b38 (lp_b38 fu) out_bo 30 [(.agg [(ii a_0.Version), (.rs a_0.Backends.z .impl_Backend a_0.Backends.n a_0.Backends.f), (.rs a_0.Vips.z .impl_Vip a_0.Vips.n a_0.Vips.f)]), (.agg [(ii b_1.Version), (.rs b_1.Backends.z .impl_Backend b_1.Backends.n b_1.Backends.f), (.rs b_1.Vips.z .impl_Vip b_1.Vips.n b_1.Vips.f)])] = F_laws_eqConfig fu a_0 b_1 := by kernel_rfl
noncomputable def body_b38 : Code := Try.f30.body.getD .skip
theorem lpok_b38 (fu : Nat) : LpOk E (pc_b38 fu) 0 msk_b38 (lp_b38 fu) (loops 0 body_b38) := lp_nil (loop_nil (by kernel_rfl)) (by kernel_rfl)
def S_b38 (fu : Nat) (xs : List (D RT den)) : Option (Out RT den) := match xs with | [.agg [.int .i64 a0_1, .rs za0_2 .impl_Backend na0_2 fa0_2, .rs za0_3 .impl_Vip na0_3 fa0_3], .agg [.int .i64 a1_1, .rs za1_2 .impl_Backend na1_2 fa1_2, .rs za1_3 .impl_Vip na1_3 fa1_3]] => some ⟨Bool, F_laws_eqConfig fu (⟨a0_1, (⟨za0_2, na0_2, fa0_2⟩ : (Sl S_impl_Backend)), (⟨za0_3, na0_3, fa0_3⟩ : (Sl S_impl_Vip))⟩ : S_impl_Config) (⟨a1_1, (⟨za1_2, na1_2, fa1_2⟩ : (Sl S_impl_Backend)), (⟨za1_3, na1_3, fa1_3⟩ : (Sl S_impl_Vip))⟩ : S_impl_Config), enc_bo, fun _ => true⟩ | _ => none
theorem hpc_b38 (fu : Nat) : HpcOk E Try.prog (pcf_b38 fu) := by
 intro f xs o h
 unfold pcf_b38 at h
 split at h
 ·exact good_b34 fu xs o h
 ·exact good_b37 fu xs o h
 ·cases h
theorem goodv_b38 (fu : Nat) (a_0 b_1 : S_impl_Config) (y : Bool) (hy : F_laws_eqConfig fu a_0 b_1 = some y) : Vm.Good E Try.prog 30 [(.agg [(ii a_0.Version), (.rs a_0.Backends.z .impl_Backend a_0.Backends.n a_0.Backends.f), (.rs a_0.Vips.z .impl_Vip a_0.Vips.n a_0.Vips.f)]), (.agg [(ii b_1.Version), (.rs b_1.Backends.z .impl_Backend b_1.Backends.n b_1.Backends.f), (.rs b_1.Vips.z .impl_Vip b_1.Vips.n b_1.Vips.f)])] (enc_bo y) :=
 fun_good E_ok (pc_good (pc := pc_b38 fu) (hpc_b38 fu) hpx0) (fn := Try.f30) (by kernel_rfl) (by kernel_rfl) (by kernel_rfl) (lpok_b38 fu) (fun d hd => out_bo_enc d _ hd) ((ev_b38 fu a_0 b_1).trans hy)
theorem good_b38 (fu : Nat) : GoodS E Try.prog 30 (S_b38 fu) := by
 intro xs o h y hy
 unfold S_b38 at h
 split at h
 ·rename_i a0_1 za0_2 na0_2 fa0_2 za0_3 na0_3 fa0_3 a1_1 za1_2 na1_2 fa1_2 za1_3 na1_3 fa1_3
  cases h
  exact goodv_b38 fu (⟨a0_1, (⟨za0_2, na0_2, fa0_2⟩ : (Sl S_impl_Backend)), (⟨za0_3, na0_3, fa0_3⟩ : (Sl S_impl_Vip))⟩ : S_impl_Config) (⟨a1_1, (⟨za1_2, na1_2, fa1_2⟩ : (Sl S_impl_Backend)), (⟨za1_3, na1_3, fa1_3⟩ : (Sl S_impl_Vip))⟩ : S_impl_Config) y hy
 ·cases h
def F_laws_eqByteS_B0 {ρ : Type} (fu : Nat) (a0_0 b1_1 : (Sl Int)) (k0 : Option ρ) (k1 : Option ρ) (i5_2 : Int) (go : Int → Option ρ) : Option ρ :=
 (bif (decide (i5_2 < ((a0_0.n : Nat) : Int))) then ((bif (decide (0 ≤ i5_2) && decide ((Int.toNat i5_2) < a0_0.n)) then some () else none : Option Unit).bind fun _ => ((bif (decide (0 ≤ i5_2) &&
  decide ((Int.toNat i5_2) < b1_1.n)) then some () else none : Option Unit).bind fun _ => (bif ((a0_0.f (Int.toNat i5_2)) != (b1_1.f (Int.toNat i5_2))) then k0 else (go (IntKind.wrap .i64 (i5_2 + 1)))))) else
  k1)
def F_laws_eqByteS (fu : Nat) (a_0 b_1 : (Sl Int)) : Option (Bool) :=
 (bif (((a_0.n : Nat) : Int) != ((b_1.n : Nat) : Int)) then (some false) else (L (fun w0 go0 => F_laws_eqByteS_B0 fu a_0 b_1 (some false) (some true) w0 go0) fu (0 : Int)))
def pc_b39 (fu : Nat) : Pc RT den := ⟨pcf0, fun _ => false, fun _ => false, pcd0, pcd0, pcd0, pcx0⟩
def msk_b39 (b : Nat) : List Nat := match b with | 0 => (2 :: 3 :: 4 :: (rg 6 20 [])) | 100000 => (0 :: 1 :: 2 :: 3 :: (rg 5 21 [])) | _ => []
def ps_b39_0 : List (Pat RT) := (.flat (.rs .u8) :: .flat (.rs .u8) :: .flat .q :: .flat .q :: .flat .q :: .flat (.int .i64) :: (fq 20 []))
def os_b39_0 : List (OP RT) := []
def conv_b39_0 (r : Raw den ps_b39_0 os_b39_0) : ((Sl Int) × (Sl Int)) × (Int) := ((r.1.1, r.1.2.1), (e5 r.1).1)
def back_b39_0 (c : (Sl Int) × (Sl Int)) (w : Int) : St RT den := ⟨((.rs c.1.z .u8 c.1.n c.1.f) :: (.rs c.2.z .u8 c.2.n c.2.f) :: .q :: .q :: .q :: (ii w) :: (qs 20 [])), []⟩
def Bk_b39_0 {ρ : Type} (fu : Nat) (c : (Sl Int) × (Sl Int)) (k : Ex → St RT den → Option ρ) (w : Int) (go : (Int) → Option ρ) : Option ρ := F_laws_eqByteS_B0 fu c.1 c.2 (k .ret ⟨(qs 4 ((.bool false) :: (qs 21 []))), []⟩) (k (.exit 0) ⟨(qs 26 []), []⟩) w go
def lp_b39 (fu : Nat) : Lp RT den (Bool) := ⟨fun b s k => match b with | 0 => handle ps_b39_0 os_b39_0 conv_b39_0 (Bk_b39_0 fu) fu s k | _ => none, inl0⟩
theorem ev_b39 (fu : Nat) (a_0 b_1 : (Sl Int)) : evFun E (pc_b39 fu) msk_b39 (lp_b39 fu) out_bo 10 [(.rs a_0.z .u8 a_0.n a_0.f), (.rs b_1.z .u8 b_1.n b_1.f)] = F_laws_eqByteS fu a_0 b_1 := by kernel_rfl
noncomputable def body_b39 : Code := Try.f10.body.getD .skip
noncomputable def lc_b39_0 : Code := ((loops 0 body_b39).getD 0 (0, .skip)).2
theorem round_b39_0 (fu : Nat) : RoundOk E (pc_b39 fu) msk_b39 (lp_b39 fu) 0 lc_b39_0 back_b39_0 0 100000 0 (Bk_b39_0 fu) := fun it k c w => by kernel_rfl
theorem lpok_b39_0 (fu : Nat) : LpAt E (pc_b39 fu) msk_b39 (lp_b39 fu) 0 0 100000 0 lc_b39_0 :=
 handle_ok (ps := ps_b39_0) (os := os_b39_0) (conv := conv_b39_0) (B := Bk_b39_0 fu) (fu := fu) back_b39_0 (fun raw => by kernel_rfl) 0 (fun c w => by kernel_rfl) (round_b39_0 fu)
theorem lpok_b39 (fu : Nat) : LpOk E (pc_b39 fu) 0 msk_b39 (lp_b39 fu) (loops 0 body_b39) := lp_nil (loop_all 1 (by kernel_rfl) fun i hi => match i, hi with
 | 0, _ => by
  have h : (loops 0 body_b39).getD 0 (0, .skip) = (0, lc_b39_0) := by kernel_rfl
  rw [h]; exact lpok_b39_0 fu
 | i + 1, hi => absurd hi (by omega)) (by kernel_rfl)
def S_b39 (fu : Nat) (xs : List (D RT den)) : Option (Out RT den) := match xs with | [.rs za0_0 .u8 na0_0 fa0_0, .rs za1_0 .u8 na1_0 fa1_0] => some ⟨Bool, F_laws_eqByteS fu (⟨za0_0, na0_0, fa0_0⟩ : (Sl Int)) (⟨za1_0, na1_0, fa1_0⟩ : (Sl Int)), enc_bo, fun _ => true⟩ | _ => none
theorem goodv_b39 (fu : Nat) (a_0 b_1 : (Sl Int)) (y : Bool) (hy : F_laws_eqByteS fu a_0 b_1 = some y) : Vm.Good E Try.prog 10 [(.rs a_0.z .u8 a_0.n a_0.f), (.rs b_1.z .u8 b_1.n b_1.f)] (enc_bo y) :=
 fun_good E_ok (pc_good (pc := pc_b39 fu) hpc0 hpx0) (fn := Try.f10) (by kernel_rfl) (by kernel_rfl) (by kernel_rfl) (lpok_b39 fu) (fun d hd => out_bo_enc d _ hd) ((ev_b39 fu a_0 b_1).trans hy)
theorem good_b39 (fu : Nat) : GoodS E Try.prog 10 (S_b39 fu) := by
 intro xs o h y hy
 unfold S_b39 at h
 split at h
 ·rename_i za0_0 na0_0 fa0_0 za1_0 na1_0 fa1_0
  cases h
  exact goodv_b39 fu (⟨za0_0, na0_0, fa0_0⟩ : (Sl Int)) (⟨za1_0, na1_0, fa1_0⟩ : (Sl Int)) y hy
 ·cases h
def F_laws_FnExactMayGo (fu : Nat) (aC_0 : S_laws_Config) (aAddress_1 : Int) (aData_2 aOut_3 : (Sl Int)) : Option (Bool) :=
 (bif (decide (((aData_2.n : Nat) : Int) > 1048576)) then (some true) else (bif (decide (((aOut_3.n : Nat) : Int) > 1048576)) then (some true) else ((F_laws_szConfig fu aC_0 1048576).bind fun y1 =>
  (bif (decide (y1 < 0)) then (some true) else ((F_laws_toConfig_U fu aC_0).bind fun y16 => ((F_laws_toByteS_H fu aData_2).bind fun y19 => ((F_laws_toByteS_H fu aOut_3).bind fun y20 =>
  ((F_spec_MayGo fu (⟨y16.1, (⟨none, y16.2.1, y16.2.2.2.2.1⟩ : (Sl S_impl_Backend)), (⟨none, y16.2.2.1, y16.2.2.2.2.2.2⟩ : (Sl S_impl_Vip))⟩ : S_impl_Config) aAddress_1 (⟨none,
  y19.n, y19.f⟩ : (Sl Int)) (⟨none, y20.n, y20.f⟩ : (Sl Int))).bind fun y21 => ((F_laws_toConfig_U fu aC_0).bind fun y22 => ((F_laws_toByteS_H fu aData_2).bind fun y23 =>
  ((F_laws_toByteS_H fu aOut_3).bind fun y24 => ((F_impl_MayGo fu (⟨y22.1, (⟨none, y22.2.1, y22.2.2.2.2.1⟩ : (Sl S_impl_Backend)), (⟨none, y22.2.2.1, y22.2.2.2.2.2.2⟩ : (Sl S_impl_Vip))⟩ : S_impl_Config) aAddress_1 (⟨none,
  y23.n, y23.f⟩ : (Sl Int)) (⟨none, y24.n, y24.f⟩ : (Sl Int))).bind fun y25 => (bif (!(y25 == y21)) then (some false) else ((F_laws_toConfig_U fu aC_0).bind fun y26 =>
  ((F_laws_eqConfig fu (⟨y22.1, (⟨none, y22.2.1, y22.2.2.2.2.1⟩ : (Sl S_impl_Backend)), (⟨none, y22.2.2.1, y22.2.2.2.2.2.2⟩ : (Sl S_impl_Vip))⟩ : S_impl_Config) (⟨y26.1, (⟨none,
  y26.2.1, y26.2.2.2.2.1⟩ : (Sl S_impl_Backend)), (⟨none, y26.2.2.1, y26.2.2.2.2.2.2⟩ : (Sl S_impl_Vip))⟩ : S_impl_Config)).bind fun y27 => (bif (!y27) then (some false) else
  ((F_laws_toByteS_H fu aData_2).bind fun y28 => ((F_laws_eqByteS fu (⟨none, y23.n, y23.f⟩ : (Sl Int)) (⟨none, y28.n, y28.f⟩ : (Sl Int))).bind fun y29 => (bif (!y29) then (some false) else
  ((F_laws_toByteS_H fu aOut_3).bind fun y30 => ((F_laws_eqByteS fu (⟨none, y24.n, y24.f⟩ : (Sl Int)) (⟨none, y30.n, y30.f⟩ : (Sl Int))).bind fun y31 => (bif (!y31) then (some false) else
  (some true)))))))))))))))))))))))
def pcf_c0 (fu f : Nat) (xs : List (D RT den)) : Option (Out RT den) := match f with | 10 => S_b39 fu xs | 26 => S_a11 fu xs | 27 => S_a33 fu xs | 29 => S_b32 fu xs | 30 => S_b38 fu xs | _ => none
def pcx_c0 (fu f : Nat) (xs : List (D RT den)) (ins : List (Ob RT den)) : Option (OutX RT den) := match f with | 7 => S_a6 fu xs ins | 28 => S_a5 fu xs ins | _ => none
def pcd_c0 : Nat → Bool := fun f => match f with | 28 => true | _ => false
def pc_c0 (fu : Nat) : Pc RT den := ⟨pcf_c0 fu, fun f => match f with | 7 => true | 28 => true | _ => false, fun _ => false, pcd_c0, pcd0, pcd0, pcx_c0 fu⟩
def msk_c0 (b : Nat) : List Nat := []
def lp_c0 (fu : Nat) : Lp RT den (Bool) := ⟨fun b s k => none, inl0⟩
theorem ev_c0 (fu : Nat) (aC_0 : S_laws_Config) (aAddress_1 : Int) (aData_2 aOut_3 : (Sl Int)) : evFun E (pc_c0 fu) msk_c0 (lp_c0 fu) out_bo 5 [(.agg [(ii aC_0.Version), (.rs aC_0.Backends.z .impl_Backend aC_0.Backends.n aC_0.Backends.f), (.rs aC_0.Vips.z .impl_Vip aC_0.Vips.n aC_0.Vips.f)]), (ii aAddress_1), (.rs aData_2.z .u8 aData_2.n aData_2.f), (.rs aOut_3.z .u8 aOut_3.n aOut_3.f)] = F_laws_FnExactMayGo fu aC_0 aAddress_1 aData_2 aOut_3 := by kernel_rfl
noncomputable def body_c0 : Code := Try.f5.body.getD .skip
theorem lpok_c0 (fu : Nat) : LpOk E (pc_c0 fu) 0 msk_c0 (lp_c0 fu) (loops 0 body_c0) := lp_nil (loop_nil (by kernel_rfl)) (by kernel_rfl)
def S_c0 (fu : Nat) (xs : List (D RT den)) : Option (Out RT den) := match xs with | [.agg [.int .i64 a0_1, .rs za0_2 .impl_Backend na0_2 fa0_2, .rs za0_3 .impl_Vip na0_3 fa0_3], .int .i64 a1_0, .rs za2_0 .u8 na2_0 fa2_0, .rs za3_0 .u8 na3_0 fa3_0] => some ⟨Bool, F_laws_FnExactMayGo fu (⟨a0_1, (⟨za0_2, na0_2, fa0_2⟩ : (Sl S_impl_Backend)), (⟨za0_3, na0_3, fa0_3⟩ : (Sl S_impl_Vip))⟩ : S_laws_Config) a1_0 (⟨za2_0, na2_0, fa2_0⟩ : (Sl Int)) (⟨za3_0, na3_0, fa3_0⟩ : (Sl Int)), enc_bo, fun _ => true⟩ | _ => none
theorem hpc_c0 (fu : Nat) : HpcOk E Try.prog (pcf_c0 fu) := by
 intro f xs o h
 unfold pcf_c0 at h
 split at h
 ·exact good_b39 fu xs o h
 ·exact good_a11 fu xs o h
 ·exact good_a33 fu xs o h
 ·exact good_b32 fu xs o h
 ·exact good_b38 fu xs o h
 ·cases h
theorem hpx_c0 (fu : Nat) : HpxOk E Try.prog pcd_c0 pcd0 (pcx_c0 fu) := by
 intro f xs ins o h
 unfold pcx_c0 at h
 split at h
 ·exact good_a6 fu xs ins o h
 ·exact good_a5 fu xs ins o h
 ·cases h
theorem goodv_c0 (fu : Nat) (aC_0 : S_laws_Config) (aAddress_1 : Int) (aData_2 aOut_3 : (Sl Int)) (y : Bool) (hy : F_laws_FnExactMayGo fu aC_0 aAddress_1 aData_2 aOut_3 = some y) : Vm.Good E Try.prog 5 [(.agg [(ii aC_0.Version), (.rs aC_0.Backends.z .impl_Backend aC_0.Backends.n aC_0.Backends.f), (.rs aC_0.Vips.z .impl_Vip aC_0.Vips.n aC_0.Vips.f)]), (ii aAddress_1), (.rs aData_2.z .u8 aData_2.n aData_2.f), (.rs aOut_3.z .u8 aOut_3.n aOut_3.f)] (enc_bo y) :=
 fun_good E_ok (pc_good (pc := pc_c0 fu) (hpc_c0 fu) (hpx_c0 fu)) (fn := Try.f5) (by kernel_rfl) (by kernel_rfl) (by kernel_rfl) (lpok_c0 fu) (fun d hd => out_bo_enc d _ hd) ((ev_c0 fu aC_0 aAddress_1 aData_2 aOut_3).trans hy)
theorem good_c0 (fu : Nat) : GoodS E Try.prog 5 (S_c0 fu) := by
 intro xs o h y hy
 unfold S_c0 at h
 split at h
 ·rename_i a0_1 za0_2 na0_2 fa0_2 za0_3 na0_3 fa0_3 a1_0 za2_0 na2_0 fa2_0 za3_0 na3_0 fa3_0
  cases h
  exact goodv_c0 fu (⟨a0_1, (⟨za0_2, na0_2, fa0_2⟩ : (Sl S_impl_Backend)), (⟨za0_3, na0_3, fa0_3⟩ : (Sl S_impl_Vip))⟩ : S_laws_Config) a1_0 (⟨za2_0, na2_0, fa2_0⟩ : (Sl Int)) (⟨za3_0, na3_0, fa3_0⟩ : (Sl Int)) y hy
 ·cases h
end Go.Proofs.Ytcmfekgdlaffkaa.Pm
