/- The functions' evaluated forms, each a proved summary. Conditions: none. -/
import Derived.Test.YtcmfekgdlaffkaaPqF6
namespace Go.Proofs.Ytcmfekgdlaffkaa.Pq
open Go Go.RowKit Go.Proofs Vm
set_option linter.unusedVariables false
set_option linter.unusedSimpArgs false
set_option maxRecDepth 100000
def F_slices_Equal_impl_Backend_impl_Backend_B0 {ρ : Type} (fu : Nat) (s10_0 s21_1 : (Sl S_impl_Backend)) (t12_2 : Int) (k0 : Option ρ) (k1 : Option ρ) (t13_3 : Int) (go : Int → Option ρ) : Option ρ :=
 (bif (decide (t13_3 < t12_2)) then ((bif (decide (0 ≤ t13_3) && decide ((Int.toNat t13_3) < s10_0.n)) then some () else none : Option Unit).bind fun _ => ((bif (decide (0 ≤ t13_3) &&
  decide ((Int.toNat t13_3) < s21_1.n)) then some () else none : Option Unit).bind fun _ => (bif (!(((s10_0.f (Int.toNat t13_3)).Name == (s21_1.f (Int.toNat t13_3)).Name) &&
  (((s10_0.f (Int.toNat t13_3)).Address == (s21_1.f (Int.toNat t13_3)).Address) && (((s10_0.f (Int.toNat t13_3)).Weight == (s21_1.f (Int.toNat t13_3)).Weight) && (((s10_0.f (Int.toNat t13_3)).Stage == (s21_1.f (Int.toNat t13_3)).Stage) &&
  (((s10_0.f (Int.toNat t13_3)).Up == (s21_1.f (Int.toNat t13_3)).Up) && true)))))) then k0 else (go (IntKind.wrap .i64 (t13_3 + 1)))))) else k1)
def F_slices_Equal_impl_Backend_impl_Backend (fu : Nat) (s1_0 s2_1 : (Sl S_impl_Backend)) : Option (Bool) :=
 (bif (((s1_0.n : Nat) : Int) != ((s2_1.n : Nat) : Int)) then (some false) else (L (fun w0 go0 => F_slices_Equal_impl_Backend_impl_Backend_B0 fu s1_0 s2_1 ((s1_0.n : Nat) : Int) (some false) (some true) w0 go0) fu (0 : Int)))
def pc_b32 (fu : Nat) : Pc RT den := ⟨pcf0, fun _ => false, fun _ => false, pcd0, pcd0, pcd0, pcx0⟩
def msk_b32 (b : Nat) : List Nat := match b with | 0 => (rg 2 10 (rg 14 12 [])) | 100000 => (0 :: 1 :: 2 :: 3 :: (rg 5 21 [])) | _ => []
def ps_b32_0 : List (Pat RT) := (.flat (.rs .impl_Backend) :: .flat (.rs .impl_Backend) :: (fq 10 (.flat (.int .i64) :: .flat (.int .i64) :: (fq 12 []))))
def os_b32_0 : List (OP RT) := []
def conv_b32_0 (r : Raw den ps_b32_0 os_b32_0) : ((Sl S_impl_Backend) × (Sl S_impl_Backend) × Int) × (Int) := ((r.1.1, r.1.2.1, (e10 r.1).2.2.1), (e10 r.1).2.2.2.1)
def back_b32_0 (c : (Sl S_impl_Backend) × (Sl S_impl_Backend) × Int) (w : Int) : St RT den := ⟨((.rs c.1.z .impl_Backend c.1.n c.1.f) :: (.rs c.2.1.z .impl_Backend c.2.1.n c.2.1.f) :: (qs 10 ((ii c.2.2) :: (ii w) :: (qs 12 [])))), []⟩
def Bk_b32_0 {ρ : Type} (fu : Nat) (c : (Sl S_impl_Backend) × (Sl S_impl_Backend) × Int) (k : Ex → St RT den → Option ρ) (w : Int) (go : (Int) → Option ρ) : Option ρ := F_slices_Equal_impl_Backend_impl_Backend_B0 fu c.1 c.2.1 c.2.2 (k .ret ⟨(qs 4 ((.bool false) :: (qs 21 []))), []⟩) (k (.exit 0) ⟨(qs 26 []), []⟩) w go
def lp_b32 (fu : Nat) : Lp RT den (Bool) := ⟨fun b s k => match b with | 0 => handle ps_b32_0 os_b32_0 conv_b32_0 (Bk_b32_0 fu) fu s k | _ => none, inl0⟩
theorem ev_b32 (fu : Nat) (s1_0 s2_1 : (Sl S_impl_Backend)) : evFun E (pc_b32 fu) msk_b32 (lp_b32 fu) out_bo 101 [(.rs s1_0.z .impl_Backend s1_0.n s1_0.f), (.rs s2_1.z .impl_Backend s2_1.n s2_1.f)] = F_slices_Equal_impl_Backend_impl_Backend fu s1_0 s2_1 := by kernel_rfl
noncomputable def body_b32 : Code := Try.f101.body.getD .skip
noncomputable def lc_b32_0 : Code := ((loops 0 body_b32).getD 0 (0, .skip)).2
theorem round_b32_0 (fu : Nat) : RoundOk E (pc_b32 fu) msk_b32 (lp_b32 fu) 0 lc_b32_0 back_b32_0 0 100000 0 (Bk_b32_0 fu) := fun it k c w => by kernel_rfl
theorem lpok_b32_0 (fu : Nat) : LpAt E (pc_b32 fu) msk_b32 (lp_b32 fu) 0 0 100000 0 lc_b32_0 :=
 handle_ok (ps := ps_b32_0) (os := os_b32_0) (conv := conv_b32_0) (B := Bk_b32_0 fu) (fu := fu) back_b32_0 (fun raw => by kernel_rfl) 0 (fun c w => by kernel_rfl) (round_b32_0 fu)
theorem lpok_b32 (fu : Nat) : LpOk E (pc_b32 fu) 0 msk_b32 (lp_b32 fu) (loops 0 body_b32) := lp_nil (loop_all 1 (by kernel_rfl) fun i hi => match i, hi with
 | 0, _ => by
  have h : (loops 0 body_b32).getD 0 (0, .skip) = (0, lc_b32_0) := by kernel_rfl
  rw [h]; exact lpok_b32_0 fu
 | i + 1, hi => absurd hi (by omega)) (by kernel_rfl)
def S_b32 (fu : Nat) (xs : List (D RT den)) : Option (Out RT den) := match xs with | [.rs za0_0 .impl_Backend na0_0 fa0_0, .rs za1_0 .impl_Backend na1_0 fa1_0] => some ⟨Bool, F_slices_Equal_impl_Backend_impl_Backend fu (⟨za0_0, na0_0, fa0_0⟩ : (Sl S_impl_Backend)) (⟨za1_0, na1_0, fa1_0⟩ : (Sl S_impl_Backend)), enc_bo, fun _ => true⟩ | _ => none
theorem goodv_b32 (fu : Nat) (s1_0 s2_1 : (Sl S_impl_Backend)) (y : Bool) (hy : F_slices_Equal_impl_Backend_impl_Backend fu s1_0 s2_1 = some y) : Good E Try.prog 101 [(.rs s1_0.z .impl_Backend s1_0.n s1_0.f), (.rs s2_1.z .impl_Backend s2_1.n s2_1.f)] (enc_bo y) :=
 fun_good E_ok (pc_good (pc := pc_b32 fu) hpc0 hpx0) (fn := Try.f101) (by kernel_rfl) (by kernel_rfl) (by kernel_rfl) (lpok_b32 fu) (fun d hd => out_bo_enc d _ hd) ((ev_b32 fu s1_0 s2_1).trans hy)
theorem good_b32 (fu : Nat) : GoodS E Try.prog 101 (S_b32 fu) := by
 intro xs o h y hy
 unfold S_b32 at h
 split at h
 ·rename_i za0_0 na0_0 fa0_0 za1_0 na1_0 fa1_0
  cases h
  exact goodv_b32 fu (⟨za0_0, na0_0, fa0_0⟩ : (Sl S_impl_Backend)) (⟨za1_0, na1_0, fa1_0⟩ : (Sl S_impl_Backend)) y hy
 ·cases h
def F_slices_Equal_int64_int64_B0 {ρ : Type} (fu : Nat) (s10_0 s21_1 : (Sl Int)) (t12_2 : Int) (k0 : Option ρ) (k1 : Option ρ) (t13_3 : Int) (go : Int → Option ρ) : Option ρ :=
 (bif (decide (t13_3 < t12_2)) then ((bif (decide (0 ≤ t13_3) && decide ((Int.toNat t13_3) < s10_0.n)) then some () else none : Option Unit).bind fun _ => ((bif (decide (0 ≤ t13_3) &&
  decide ((Int.toNat t13_3) < s21_1.n)) then some () else none : Option Unit).bind fun _ => (bif ((s10_0.f (Int.toNat t13_3)) != (s21_1.f (Int.toNat t13_3))) then k0 else (go (IntKind.wrap .i64 (t13_3 + 1)))))) else
  k1)
def F_slices_Equal_int64_int64 (fu : Nat) (s1_0 s2_1 : (Sl Int)) : Option (Bool) :=
 (bif (((s1_0.n : Nat) : Int) != ((s2_1.n : Nat) : Int)) then (some false) else (L (fun w0 go0 => F_slices_Equal_int64_int64_B0 fu s1_0 s2_1 ((s1_0.n : Nat) : Int) (some false) (some true) w0 go0) fu (0 : Int)))
def pc_b33 (fu : Nat) : Pc RT den := ⟨pcf0, fun _ => false, fun _ => false, pcd0, pcd0, pcd0, pcx0⟩
def msk_b33 (b : Nat) : List Nat := match b with | 0 => (rg 2 10 (rg 14 12 [])) | 100000 => (0 :: 1 :: 2 :: 3 :: (rg 5 21 [])) | _ => []
def ps_b33_0 : List (Pat RT) := (.flat (.rs .i64) :: .flat (.rs .i64) :: (fq 10 (.flat (.int .i64) :: .flat (.int .i64) :: (fq 12 []))))
def os_b33_0 : List (OP RT) := []
def conv_b33_0 (r : Raw den ps_b33_0 os_b33_0) : ((Sl Int) × (Sl Int) × Int) × (Int) := ((r.1.1, r.1.2.1, (e10 r.1).2.2.1), (e10 r.1).2.2.2.1)
def back_b33_0 (c : (Sl Int) × (Sl Int) × Int) (w : Int) : St RT den := ⟨((.rs c.1.z .i64 c.1.n c.1.f) :: (.rs c.2.1.z .i64 c.2.1.n c.2.1.f) :: (qs 10 ((ii c.2.2) :: (ii w) :: (qs 12 [])))), []⟩
def Bk_b33_0 {ρ : Type} (fu : Nat) (c : (Sl Int) × (Sl Int) × Int) (k : Ex → St RT den → Option ρ) (w : Int) (go : (Int) → Option ρ) : Option ρ := F_slices_Equal_int64_int64_B0 fu c.1 c.2.1 c.2.2 (k .ret ⟨(qs 4 ((.bool false) :: (qs 21 []))), []⟩) (k (.exit 0) ⟨(qs 26 []), []⟩) w go
def lp_b33 (fu : Nat) : Lp RT den (Bool) := ⟨fun b s k => match b with | 0 => handle ps_b33_0 os_b33_0 conv_b33_0 (Bk_b33_0 fu) fu s k | _ => none, inl0⟩
theorem ev_b33 (fu : Nat) (s1_0 s2_1 : (Sl Int)) : evFun E (pc_b33 fu) msk_b33 (lp_b33 fu) out_bo 129 [(.rs s1_0.z .i64 s1_0.n s1_0.f), (.rs s2_1.z .i64 s2_1.n s2_1.f)] = F_slices_Equal_int64_int64 fu s1_0 s2_1 := by kernel_rfl
noncomputable def body_b33 : Code := Try.f129.body.getD .skip
noncomputable def lc_b33_0 : Code := ((loops 0 body_b33).getD 0 (0, .skip)).2
theorem round_b33_0 (fu : Nat) : RoundOk E (pc_b33 fu) msk_b33 (lp_b33 fu) 0 lc_b33_0 back_b33_0 0 100000 0 (Bk_b33_0 fu) := fun it k c w => by kernel_rfl
theorem lpok_b33_0 (fu : Nat) : LpAt E (pc_b33 fu) msk_b33 (lp_b33 fu) 0 0 100000 0 lc_b33_0 :=
 handle_ok (ps := ps_b33_0) (os := os_b33_0) (conv := conv_b33_0) (B := Bk_b33_0 fu) (fu := fu) back_b33_0 (fun raw => by kernel_rfl) 0 (fun c w => by kernel_rfl) (round_b33_0 fu)
theorem lpok_b33 (fu : Nat) : LpOk E (pc_b33 fu) 0 msk_b33 (lp_b33 fu) (loops 0 body_b33) := lp_nil (loop_all 1 (by kernel_rfl) fun i hi => match i, hi with
 | 0, _ => by
  have h : (loops 0 body_b33).getD 0 (0, .skip) = (0, lc_b33_0) := by kernel_rfl
  rw [h]; exact lpok_b33_0 fu
 | i + 1, hi => absurd hi (by omega)) (by kernel_rfl)
def S_b33 (fu : Nat) (xs : List (D RT den)) : Option (Out RT den) := match xs with | [.rs za0_0 .i64 na0_0 fa0_0, .rs za1_0 .i64 na1_0 fa1_0] => some ⟨Bool, F_slices_Equal_int64_int64 fu (⟨za0_0, na0_0, fa0_0⟩ : (Sl Int)) (⟨za1_0, na1_0, fa1_0⟩ : (Sl Int)), enc_bo, fun _ => true⟩ | _ => none
theorem goodv_b33 (fu : Nat) (s1_0 s2_1 : (Sl Int)) (y : Bool) (hy : F_slices_Equal_int64_int64 fu s1_0 s2_1 = some y) : Good E Try.prog 129 [(.rs s1_0.z .i64 s1_0.n s1_0.f), (.rs s2_1.z .i64 s2_1.n s2_1.f)] (enc_bo y) :=
 fun_good E_ok (pc_good (pc := pc_b33 fu) hpc0 hpx0) (fn := Try.f129) (by kernel_rfl) (by kernel_rfl) (by kernel_rfl) (lpok_b33 fu) (fun d hd => out_bo_enc d _ hd) ((ev_b33 fu s1_0 s2_1).trans hy)
theorem good_b33 (fu : Nat) : GoodS E Try.prog 129 (S_b33 fu) := by
 intro xs o h y hy
 unfold S_b33 at h
 split at h
 ·rename_i za0_0 na0_0 fa0_0 za1_0 na1_0 fa1_0
  cases h
  exact goodv_b33 fu (⟨za0_0, na0_0, fa0_0⟩ : (Sl Int)) (⟨za1_0, na1_0, fa1_0⟩ : (Sl Int)) y hy
 ·cases h
def F_impl_sameVip (fu : Nat) (a_0 b_1 : S_impl_Vip) : Option (Bool) :=
 ((((F_impl_compareVip fu a_0 b_1).bind fun a => (bif (a == 0) then ((F_slices_Equal_int64_int64 fu a_0.Names b_1.Names).bind fun b => (some b)) else (some false))) : Option Bool).bind fun d =>
  (some d))
def pcf_b34 (fu f : Nat) (xs : List (D RT den)) : Option (Out RT den) := match f with | 81 => S_a34 fu xs | 129 => S_b33 fu xs | _ => none
def pc_b34 (fu : Nat) : Pc RT den := ⟨pcf_b34 fu, fun _ => false, fun _ => false, pcd0, pcd0, pcd0, pcx0⟩
def msk_b34 (b : Nat) : List Nat := match b with | 200001 => [4] | _ => []
def lp_b34 (fu : Nat) : Lp RT den (Bool) := ⟨fun b s k => none, inl0⟩
theorem ev_b34 (fu : Nat) (a_0 b_1 : S_impl_Vip) : evFun E (pc_b34 fu) msk_b34 (lp_b34 fu) out_bo 103 [(.agg [(ii a_0.Address), (ii a_0.Port), (ii a_0.Proto), (.rs a_0.Names.z .i64 a_0.Names.n a_0.Names.f)]), (.agg [(ii b_1.Address), (ii b_1.Port), (ii b_1.Proto), (.rs b_1.Names.z .i64 b_1.Names.n b_1.Names.f)])] = F_impl_sameVip fu a_0 b_1 := by kernel_rfl
noncomputable def body_b34 : Code := Try.f103.body.getD .skip
theorem lpok_b34 (fu : Nat) : LpOk E (pc_b34 fu) 0 msk_b34 (lp_b34 fu) (loops 0 body_b34) := lp_nil (loop_nil (by kernel_rfl)) (by kernel_rfl)
def S_b34 (fu : Nat) (xs : List (D RT den)) : Option (Out RT den) := match xs with | [.agg [.int .i64 a0_1, .int .i64 a0_2, .int .i64 a0_3, .rs za0_4 .i64 na0_4 fa0_4], .agg [.int .i64 a1_1, .int .i64 a1_2, .int .i64 a1_3, .rs za1_4 .i64 na1_4 fa1_4]] => some ⟨Bool, F_impl_sameVip fu (⟨a0_1, a0_2, a0_3, (⟨za0_4, na0_4, fa0_4⟩ : (Sl Int))⟩ : S_impl_Vip) (⟨a1_1, a1_2, a1_3, (⟨za1_4, na1_4, fa1_4⟩ : (Sl Int))⟩ : S_impl_Vip), enc_bo, fun _ => true⟩ | _ => none
theorem hpc_b34 (fu : Nat) : HpcOk E Try.prog (pcf_b34 fu) := by
 intro f xs o h
 unfold pcf_b34 at h
 split at h
 ·exact good_a34 fu xs o h
 ·exact good_b33 fu xs o h
 ·cases h
theorem goodv_b34 (fu : Nat) (a_0 b_1 : S_impl_Vip) (y : Bool) (hy : F_impl_sameVip fu a_0 b_1 = some y) : Good E Try.prog 103 [(.agg [(ii a_0.Address), (ii a_0.Port), (ii a_0.Proto), (.rs a_0.Names.z .i64 a_0.Names.n a_0.Names.f)]), (.agg [(ii b_1.Address), (ii b_1.Port), (ii b_1.Proto), (.rs b_1.Names.z .i64 b_1.Names.n b_1.Names.f)])] (enc_bo y) :=
 fun_good E_ok (pc_good (pc := pc_b34 fu) (hpc_b34 fu) hpx0) (fn := Try.f103) (by kernel_rfl) (by kernel_rfl) (by kernel_rfl) (lpok_b34 fu) (fun d hd => out_bo_enc d _ hd) ((ev_b34 fu a_0 b_1).trans hy)
theorem good_b34 (fu : Nat) : GoodS E Try.prog 103 (S_b34 fu) := by
 intro xs o h y hy
 unfold S_b34 at h
 split at h
 ·rename_i a0_1 a0_2 a0_3 za0_4 na0_4 fa0_4 a1_1 a1_2 a1_3 za1_4 na1_4 fa1_4
  cases h
  exact goodv_b34 fu (⟨a0_1, a0_2, a0_3, (⟨za0_4, na0_4, fa0_4⟩ : (Sl Int))⟩ : S_impl_Vip) (⟨a1_1, a1_2, a1_3, (⟨za1_4, na1_4, fa1_4⟩ : (Sl Int))⟩ : S_impl_Vip) y hy
 ·cases h
def F_slices_EqualFunc_impl_Vip_impl_Vip_impl_Vip_impl_Vip_w_impl_sameVip_B0 {ρ : Type} (fu : Nat) (s21_0 t15_1 : (Sl S_impl_Vip)) (t16_2 : Int) (k0 : Int → Int → Int → (Sl Int) → Int → Int → Int → (Sl Int) → Option ρ) (k1 : Option ρ) (t17_3 : Int) (go : Int → Option ρ) : Option ρ :=
 (bif (decide (t17_3 < t16_2)) then ((bif (decide (0 ≤ t17_3) && decide ((Int.toNat t17_3) < t15_1.n)) then some () else none : Option Unit).bind fun _ => ((bif (decide (0 ≤ t17_3) &&
  decide ((Int.toNat t17_3) < s21_0.n)) then some () else none : Option Unit).bind fun _ => ((F_impl_sameVip fu (t15_1.f (Int.toNat t17_3)) (s21_0.f (Int.toNat t17_3))).bind fun a =>
  (bif (!a) then (k0 (t15_1.f (Int.toNat t17_3)).Address (t15_1.f (Int.toNat t17_3)).Port (t15_1.f (Int.toNat t17_3)).Proto (t15_1.f (Int.toNat t17_3)).Names (s21_0.f (Int.toNat t17_3)).Address (s21_0.f (Int.toNat t17_3)).Port (s21_0.f (Int.toNat t17_3)).Proto (s21_0.f (Int.toNat t17_3)).Names) else
  (go (IntKind.wrap .i64 (t17_3 + 1))))))) else k1)
def F_slices_EqualFunc_impl_Vip_impl_Vip_impl_Vip_impl_Vip_w_impl_sameVip (fu : Nat) (s1_0 s2_1 : (Sl S_impl_Vip)) : Option (Bool) :=
 (bif (((s1_0.n : Nat) : Int) != ((s2_1.n : Nat) : Int)) then (some false) else (L (fun w0 go0 => F_slices_EqualFunc_impl_Vip_impl_Vip_impl_Vip_impl_Vip_w_impl_sameVip_B0 fu s2_1 s1_0 ((s1_0.n : Nat) : Int) (fun a b d g h j l o =>
  (some false)) (some true) w0 go0) fu (0 : Int)))
def pcf_b35 (fu f : Nat) (xs : List (D RT den)) : Option (Out RT den) := match f with | 103 => S_b34 fu xs | _ => none
def pc_b35 (fu : Nat) : Pc RT den := ⟨pcf_b35 fu, fun _ => false, fun _ => false, pcd0, pcd0, pcd0, pcx0⟩
def msk_b35 (b : Nat) : List Nat := match b with | 0 => (0 :: (rg 3 12 (rg 18 14 []))) | 100000 => (rg 0 6 (rg 7 25 [])) | _ => []
def ps_b35_0 : List (Pat RT) := (.flat .q :: .flat (.rs .impl_Vip) :: .fn 103 [] :: (fq 12 (.flat (.rs .impl_Vip) :: .flat (.int .i64) :: .flat (.int .i64) :: (fq 14 []))))
def os_b35_0 : List (OP RT) := []
def conv_b35_0 (r : Raw den ps_b35_0 os_b35_0) : ((Sl S_impl_Vip) × (Sl S_impl_Vip) × Int) × (Int) := ((r.1.2.1, (e5 (e10 r.1)).1, (e5 (e10 r.1)).2.1), (e5 (e10 r.1)).2.2.1)
def back_b35_0 (c : (Sl S_impl_Vip) × (Sl S_impl_Vip) × Int) (w : Int) : St RT den := ⟨(.q :: (.rs c.1.z .impl_Vip c.1.n c.1.f) :: (.fn 103 []) :: (qs 12 ((.rs c.2.1.z .impl_Vip c.2.1.n c.2.1.f) :: (ii c.2.2) :: (ii w) :: (qs 14 [])))), []⟩
def Bk_b35_0 {ρ : Type} (fu : Nat) (c : (Sl S_impl_Vip) × (Sl S_impl_Vip) × Int) (k : Ex → St RT den → Option ρ) (w : Int) (go : (Int) → Option ρ) : Option ρ := F_slices_EqualFunc_impl_Vip_impl_Vip_impl_Vip_impl_Vip_w_impl_sameVip_B0 fu c.1 c.2.1 c.2.2 (fun a0 a1 a2 a3 a4 a5 a6 a7 => k .ret ⟨(qs 6 ((.bool false) :: (qs 25 []))), [(.box false [(ii a0), (ii a1), (ii a2), (.rs a3.z .i64 a3.n a3.f)]), (.box false [(ii a4), (ii a5), (ii a6), (.rs a7.z .i64 a7.n a7.f)])]⟩) (k (.exit 0) ⟨(qs 32 []), []⟩) w go
def lp_b35 (fu : Nat) : Lp RT den (Bool) := ⟨fun b s k => match b with | 0 => handle ps_b35_0 os_b35_0 conv_b35_0 (Bk_b35_0 fu) fu s k | _ => none, inl0⟩
theorem ev_b35 (fu : Nat) (s1_0 s2_1 : (Sl S_impl_Vip)) : evFun E (pc_b35 fu) msk_b35 (lp_b35 fu) out_bo 102 [(.rs s1_0.z .impl_Vip s1_0.n s1_0.f), (.rs s2_1.z .impl_Vip s2_1.n s2_1.f), (.fn 103 [])] = F_slices_EqualFunc_impl_Vip_impl_Vip_impl_Vip_impl_Vip_w_impl_sameVip fu s1_0 s2_1 := by kernel_rfl
noncomputable def body_b35 : Code := Try.f102.body.getD .skip
noncomputable def lc_b35_0 : Code := ((loops 0 body_b35).getD 0 (0, .skip)).2
theorem round_b35_0 (fu : Nat) : RoundOk E (pc_b35 fu) msk_b35 (lp_b35 fu) 0 lc_b35_0 back_b35_0 0 100000 0 (Bk_b35_0 fu) := fun it k c w => by kernel_rfl
theorem lpok_b35_0 (fu : Nat) : LpAt E (pc_b35 fu) msk_b35 (lp_b35 fu) 0 0 100000 0 lc_b35_0 :=
 handle_ok (ps := ps_b35_0) (os := os_b35_0) (conv := conv_b35_0) (B := Bk_b35_0 fu) (fu := fu) back_b35_0 (fun raw => by kernel_rfl) 0 (fun c w => by kernel_rfl) (round_b35_0 fu)
theorem lpok_b35 (fu : Nat) : LpOk E (pc_b35 fu) 0 msk_b35 (lp_b35 fu) (loops 0 body_b35) := lp_nil (loop_all 1 (by kernel_rfl) fun i hi => match i, hi with
 | 0, _ => by
  have h : (loops 0 body_b35).getD 0 (0, .skip) = (0, lc_b35_0) := by kernel_rfl
  rw [h]; exact lpok_b35_0 fu
 | i + 1, hi => absurd hi (by omega)) (by kernel_rfl)
def S_b35 (fu : Nat) (xs : List (D RT den)) : Option (Out RT den) := match xs with | [.rs za0_0 .impl_Vip na0_0 fa0_0, .rs za1_0 .impl_Vip na1_0 fa1_0, .fn 103 []] => some ⟨Bool, F_slices_EqualFunc_impl_Vip_impl_Vip_impl_Vip_impl_Vip_w_impl_sameVip fu (⟨za0_0, na0_0, fa0_0⟩ : (Sl S_impl_Vip)) (⟨za1_0, na1_0, fa1_0⟩ : (Sl S_impl_Vip)), enc_bo, fun _ => true⟩ | _ => none
theorem hpc_b35 (fu : Nat) : HpcOk E Try.prog (pcf_b35 fu) := by
 intro f xs o h
 unfold pcf_b35 at h
 split at h
 ·exact good_b34 fu xs o h
 ·cases h
theorem goodv_b35 (fu : Nat) (s1_0 s2_1 : (Sl S_impl_Vip)) (y : Bool) (hy : F_slices_EqualFunc_impl_Vip_impl_Vip_impl_Vip_impl_Vip_w_impl_sameVip fu s1_0 s2_1 = some y) : Good E Try.prog 102 [(.rs s1_0.z .impl_Vip s1_0.n s1_0.f), (.rs s2_1.z .impl_Vip s2_1.n s2_1.f), (.fn 103 [])] (enc_bo y) :=
 fun_good E_ok (pc_good (pc := pc_b35 fu) (hpc_b35 fu) hpx0) (fn := Try.f102) (by kernel_rfl) (by kernel_rfl) (by kernel_rfl) (lpok_b35 fu) (fun d hd => out_bo_enc d _ hd) ((ev_b35 fu s1_0 s2_1).trans hy)
theorem good_b35 (fu : Nat) : GoodS E Try.prog 102 (S_b35 fu) := by
 intro xs o h y hy
 unfold S_b35 at h
 split at h
 ·rename_i za0_0 na0_0 fa0_0 za1_0 na1_0 fa1_0
  cases h
  exact goodv_b35 fu (⟨za0_0, na0_0, fa0_0⟩ : (Sl S_impl_Vip)) (⟨za1_0, na1_0, fa1_0⟩ : (Sl S_impl_Vip)) y hy
 ·cases h
def F_impl_sameConfigs (fu : Nat) (a_0 b_1 : S_impl_Config) : Option (Bool) :=
 (((bif (a_0.Version == b_1.Version) then ((F_slices_Equal_impl_Backend_impl_Backend fu a_0.Backends b_1.Backends).bind fun a => (bif a then
  ((F_slices_EqualFunc_impl_Vip_impl_Vip_impl_Vip_impl_Vip_w_impl_sameVip fu a_0.Vips b_1.Vips).bind fun b => (some b)) else (some false))) else (some false)) : Option Bool).bind fun d =>
  (some d))
def pcf_b36 (fu f : Nat) (xs : List (D RT den)) : Option (Out RT den) := match f with | 101 => S_b32 fu xs | 102 => S_b35 fu xs | _ => none
def pc_b36 (fu : Nat) : Pc RT den := ⟨pcf_b36 fu, fun _ => false, fun _ => false, pcd0, pcd0, pcd0, pcx0⟩
def msk_b36 (b : Nat) : List Nat := match b with | 200001 => [4] | _ => []
def lp_b36 (fu : Nat) : Lp RT den (Bool) := ⟨fun b s k => none, inl0⟩
theorem ev_b36 (fu : Nat) (a_0 b_1 : S_impl_Config) : evFun E (pc_b36 fu) msk_b36 (lp_b36 fu) out_bo 52 [(.agg [(ii a_0.Version), (.rs a_0.Backends.z .impl_Backend a_0.Backends.n a_0.Backends.f), (.rs a_0.Vips.z .impl_Vip a_0.Vips.n a_0.Vips.f)]), (.agg [(ii b_1.Version), (.rs b_1.Backends.z .impl_Backend b_1.Backends.n b_1.Backends.f), (.rs b_1.Vips.z .impl_Vip b_1.Vips.n b_1.Vips.f)])] = F_impl_sameConfigs fu a_0 b_1 := by kernel_rfl
noncomputable def body_b36 : Code := Try.f52.body.getD .skip
theorem lpok_b36 (fu : Nat) : LpOk E (pc_b36 fu) 0 msk_b36 (lp_b36 fu) (loops 0 body_b36) := lp_nil (loop_nil (by kernel_rfl)) (by kernel_rfl)
def S_b36 (fu : Nat) (xs : List (D RT den)) : Option (Out RT den) := match xs with | [.agg [.int .i64 a0_1, .rs za0_2 .impl_Backend na0_2 fa0_2, .rs za0_3 .impl_Vip na0_3 fa0_3], .agg [.int .i64 a1_1, .rs za1_2 .impl_Backend na1_2 fa1_2, .rs za1_3 .impl_Vip na1_3 fa1_3]] => some ⟨Bool, F_impl_sameConfigs fu (⟨a0_1, (⟨za0_2, na0_2, fa0_2⟩ : (Sl S_impl_Backend)), (⟨za0_3, na0_3, fa0_3⟩ : (Sl S_impl_Vip))⟩ : S_impl_Config) (⟨a1_1, (⟨za1_2, na1_2, fa1_2⟩ : (Sl S_impl_Backend)), (⟨za1_3, na1_3, fa1_3⟩ : (Sl S_impl_Vip))⟩ : S_impl_Config), enc_bo, fun _ => true⟩ | _ => none
theorem hpc_b36 (fu : Nat) : HpcOk E Try.prog (pcf_b36 fu) := by
 intro f xs o h
 unfold pcf_b36 at h
 split at h
 ·exact good_b32 fu xs o h
 ·exact good_b35 fu xs o h
 ·cases h
theorem goodv_b36 (fu : Nat) (a_0 b_1 : S_impl_Config) (y : Bool) (hy : F_impl_sameConfigs fu a_0 b_1 = some y) : Good E Try.prog 52 [(.agg [(ii a_0.Version), (.rs a_0.Backends.z .impl_Backend a_0.Backends.n a_0.Backends.f), (.rs a_0.Vips.z .impl_Vip a_0.Vips.n a_0.Vips.f)]), (.agg [(ii b_1.Version), (.rs b_1.Backends.z .impl_Backend b_1.Backends.n b_1.Backends.f), (.rs b_1.Vips.z .impl_Vip b_1.Vips.n b_1.Vips.f)])] (enc_bo y) :=
 fun_good E_ok (pc_good (pc := pc_b36 fu) (hpc_b36 fu) hpx0) (fn := Try.f52) (by kernel_rfl) (by kernel_rfl) (by kernel_rfl) (lpok_b36 fu) (fun d hd => out_bo_enc d _ hd) ((ev_b36 fu a_0 b_1).trans hy)
theorem good_b36 (fu : Nat) : GoodS E Try.prog 52 (S_b36 fu) := by
 intro xs o h y hy
 unfold S_b36 at h
 split at h
 ·rename_i a0_1 za0_2 na0_2 fa0_2 za0_3 na0_3 fa0_3 a1_1 za1_2 na1_2 fa1_2 za1_3 na1_3 fa1_3
  cases h
  exact goodv_b36 fu (⟨a0_1, (⟨za0_2, na0_2, fa0_2⟩ : (Sl S_impl_Backend)), (⟨za0_3, na0_3, fa0_3⟩ : (Sl S_impl_Vip))⟩ : S_impl_Config) (⟨a1_1, (⟨za1_2, na1_2, fa1_2⟩ : (Sl S_impl_Backend)), (⟨za1_3, na1_3, fa1_3⟩ : (Sl S_impl_Vip))⟩ : S_impl_Config) y hy
 ·cases h
def F_impl_SameConfigs (fu : Nat) (a_0 b_1 : S_impl_Config) : Option (Bool) :=
 ((F_impl_sameConfigs fu a_0 b_1).bind fun a => (some a))
def pcf_b37 (fu f : Nat) (xs : List (D RT den)) : Option (Out RT den) := match f with | 52 => S_b36 fu xs | _ => none
def pc_b37 (fu : Nat) : Pc RT den := ⟨pcf_b37 fu, fun _ => false, fun _ => false, pcd0, pcd0, pcd0, pcx0⟩
def msk_b37 (b : Nat) : List Nat := []
def lp_b37 (fu : Nat) : Lp RT den (Bool) := ⟨fun b s k => none, inl0⟩
theorem ev_b37 (fu : Nat) (a_0 b_1 : S_impl_Config) : evFun E (pc_b37 fu) msk_b37 (lp_b37 fu) out_bo 25 [(.agg [(ii a_0.Version), (.rs a_0.Backends.z .impl_Backend a_0.Backends.n a_0.Backends.f), (.rs a_0.Vips.z .impl_Vip a_0.Vips.n a_0.Vips.f)]), (.agg [(ii b_1.Version), (.rs b_1.Backends.z .impl_Backend b_1.Backends.n b_1.Backends.f), (.rs b_1.Vips.z .impl_Vip b_1.Vips.n b_1.Vips.f)])] = F_impl_SameConfigs fu a_0 b_1 := by kernel_rfl
noncomputable def body_b37 : Code := Try.f25.body.getD .skip
theorem lpok_b37 (fu : Nat) : LpOk E (pc_b37 fu) 0 msk_b37 (lp_b37 fu) (loops 0 body_b37) := lp_nil (loop_nil (by kernel_rfl)) (by kernel_rfl)
def S_b37 (fu : Nat) (xs : List (D RT den)) : Option (Out RT den) := match xs with | [.agg [.int .i64 a0_1, .rs za0_2 .impl_Backend na0_2 fa0_2, .rs za0_3 .impl_Vip na0_3 fa0_3], .agg [.int .i64 a1_1, .rs za1_2 .impl_Backend na1_2 fa1_2, .rs za1_3 .impl_Vip na1_3 fa1_3]] => some ⟨Bool, F_impl_SameConfigs fu (⟨a0_1, (⟨za0_2, na0_2, fa0_2⟩ : (Sl S_impl_Backend)), (⟨za0_3, na0_3, fa0_3⟩ : (Sl S_impl_Vip))⟩ : S_impl_Config) (⟨a1_1, (⟨za1_2, na1_2, fa1_2⟩ : (Sl S_impl_Backend)), (⟨za1_3, na1_3, fa1_3⟩ : (Sl S_impl_Vip))⟩ : S_impl_Config), enc_bo, fun _ => true⟩ | _ => none
theorem hpc_b37 (fu : Nat) : HpcOk E Try.prog (pcf_b37 fu) := by
 intro f xs o h
 unfold pcf_b37 at h
 split at h
 ·exact good_b36 fu xs o h
 ·cases h
theorem goodv_b37 (fu : Nat) (a_0 b_1 : S_impl_Config) (y : Bool) (hy : F_impl_SameConfigs fu a_0 b_1 = some y) : Good E Try.prog 25 [(.agg [(ii a_0.Version), (.rs a_0.Backends.z .impl_Backend a_0.Backends.n a_0.Backends.f), (.rs a_0.Vips.z .impl_Vip a_0.Vips.n a_0.Vips.f)]), (.agg [(ii b_1.Version), (.rs b_1.Backends.z .impl_Backend b_1.Backends.n b_1.Backends.f), (.rs b_1.Vips.z .impl_Vip b_1.Vips.n b_1.Vips.f)])] (enc_bo y) :=
 fun_good E_ok (pc_good (pc := pc_b37 fu) (hpc_b37 fu) hpx0) (fn := Try.f25) (by kernel_rfl) (by kernel_rfl) (by kernel_rfl) (lpok_b37 fu) (fun d hd => out_bo_enc d _ hd) ((ev_b37 fu a_0 b_1).trans hy)
theorem good_b37 (fu : Nat) : GoodS E Try.prog 25 (S_b37 fu) := by
 intro xs o h y hy
 unfold S_b37 at h
 split at h
 ·rename_i a0_1 za0_2 na0_2 fa0_2 za0_3 na0_3 fa0_3 a1_1 za1_2 na1_2 fa1_2 za1_3 na1_3 fa1_3
  cases h
  exact goodv_b37 fu (⟨a0_1, (⟨za0_2, na0_2, fa0_2⟩ : (Sl S_impl_Backend)), (⟨za0_3, na0_3, fa0_3⟩ : (Sl S_impl_Vip))⟩ : S_impl_Config) (⟨a1_1, (⟨za1_2, na1_2, fa1_2⟩ : (Sl S_impl_Backend)), (⟨za1_3, na1_3, fa1_3⟩ : (Sl S_impl_Vip))⟩ : S_impl_Config) y hy
 ·cases h
def F_laws_FnCodecs_t2 (fu : Nat) (a : S_impl_Cmd) (b : S_impl_BytesResult) (code_0 : (Sl Int)) : Option (Bool) :=
 ((F_spec_PackCmd_H fu a).bind fun d => (bif (b.Code != d.Code) then (some false) else ((F_spec_DrawPackConfig fu code_0).bind fun g =>
  ((F_impl_PackConfig fu g).bind fun h => (bif (h.Code != 0) then ((F_spec_PackConfig fu g).bind fun j => (some (j.Code == h.Code))) else
  ((((F_impl_UnpackConfig fu h.Bytes).bind fun l => ((F_impl_SameConfigs fu l.Config g).bind fun n => (bif n then ((F_impl_UnpackConfig fu h.Bytes).bind fun o =>
  (some (o.Code == 0))) else (some false)))) : Option Bool).bind fun p => (some p)))))))
def F_laws_FnCodecs_t0 (fu : Nat) (code_0 : (Sl Int)) : Option (Bool) :=
 ((F_spec_DrawPackCmd fu code_0).bind fun a => ((F_impl_PackCmd_H fu a).bind fun b =>
  (bif (b.Code == 0) then ((F_impl_UnpackCmd fu (⟨none, b.Bytes.n, b.Bytes.f⟩ : (Sl Int))).bind fun d => (bif (!((d.Cmd.Kind == a.Kind) &&
  ((d.Cmd.Expect == a.Expect) && ((d.Cmd.Name == a.Name) && ((d.Cmd.Addr == a.Addr) && ((d.Cmd.Number == a.Number) && ((d.Cmd.Proto == a.Proto) &&
  true))))))) then (some false) else (F_laws_FnCodecs_t2 fu a b code_0))) else (F_laws_FnCodecs_t2 fu a b code_0))))
def F_laws_FnCodecs_t1 (a : S_impl_ConfigResult) (fu : Nat) (b : (Sl Int)) (code_0 : (Sl Int)) : Option (Bool) :=
 (bif (a.Code == 0) then ((F_impl_PackConfig fu a.Config).bind fun d =>
  (bif (!(ByteArray.toList (bytesOf d.Bytes.n (fun i => (d.Bytes.f i))) == ByteArray.toList (bytesOf b.n (fun i => (b.f i))))) then (some false) else (bif (a.Code != 0) then
  ((F_spec_UnpackConfig fu b).bind fun g => (bif (g.Code != a.Code) then (some false) else (F_laws_FnCodecs_t0 fu code_0))) else
  (F_laws_FnCodecs_t0 fu code_0)))) else (bif (a.Code != 0) then ((F_spec_UnpackConfig fu b).bind fun h => (bif (h.Code != a.Code) then (some false) else
  (F_laws_FnCodecs_t0 fu code_0))) else (F_laws_FnCodecs_t0 fu code_0)))
def F_laws_FnCodecs (fu : Nat) (code_0 : (Sl Int)) : Option (Bool) :=
 ((F_laws_lwBig fu code_0).bind fun a => (bif a then (some true) else ((F_spec_DrawUnpackCmd fu code_0).bind fun b => ((F_impl_UnpackCmd fu b).bind fun d =>
  ((F_spec_DrawUnpackConfig fu code_0).bind fun g => ((F_impl_UnpackConfig fu g).bind fun h => (bif (d.Code == 0) then ((F_impl_PackCmd_H fu d.Cmd).bind fun j =>
  (bif (!(ByteArray.toList (bytesOf j.Bytes.n (fun i => (j.Bytes.f i))) == ByteArray.toList (bytesOf b.n (fun i => (b.f i))))) then (some false) else (bif (d.Code != 0) then
  ((F_spec_UnpackCmd fu b).bind fun l => (bif (l.Code != d.Code) then (some false) else (F_laws_FnCodecs_t1 h fu g code_0))) else (F_laws_FnCodecs_t1 h fu g code_0)))) else (bif (d.Code != 0) then ((F_spec_UnpackCmd fu b).bind fun o => (bif (o.Code != d.Code) then (some false) else (F_laws_FnCodecs_t1 h fu g code_0))) else (F_laws_FnCodecs_t1 h fu g code_0)))))))))
def pcf_b38 (fu f : Nat) (xs : List (D RT den)) : Option (Out RT den) := match f with | 6 => S_b20 fu xs | 8 => S_b3 fu xs | 14 => S_b27 fu xs | 15 => S_a9 fu xs | 16 => S_b28 fu xs | 17 => S_a20 fu xs | 19 => S_b29 fu xs | 20 => S_b9 fu xs | 21 => S_b31 fu xs | 23 => S_b25 fu xs | 24 => S_b26 fu xs | 25 => S_b37 fu xs | _ => none
def pcx_b38 (fu f : Nat) (xs : List (D RT den)) (ins : List (Ob RT den)) : Option (OutX RT den) := match f with | 18 => S_b8 fu xs ins | 22 => S_b23 fu xs ins | _ => none
def pcd_b38 : Nat → Bool := fun _ => false
def pc_b38 (fu : Nat) : Pc RT den := ⟨pcf_b38 fu, fun f => match f with | 18 => true | 22 => true | _ => false, fun _ => false, pcd_b38, pcd0, pcd0, pcx_b38 fu⟩
def msk_b38 (b : Nat) : List Nat := match b with | 200017 => [2] | _ => []
def lp_b38 (fu : Nat) : Lp RT den (Bool) := ⟨fun b s k => none, inl0⟩
theorem ev_b38 (fu : Nat) (code_0 : (Sl Int)) : evFun E (pc_b38 fu) msk_b38 (lp_b38 fu) out_bo 4 [(.rs code_0.z .u8 code_0.n code_0.f)] = F_laws_FnCodecs fu code_0 := by kernel_rfl
noncomputable def body_b38 : Code := Try.f4.body.getD .skip
theorem lpok_b38 (fu : Nat) : LpOk E (pc_b38 fu) 0 msk_b38 (lp_b38 fu) (loops 0 body_b38) := lp_nil (loop_nil (by kernel_rfl)) (by kernel_rfl)
def S_b38 (fu : Nat) (xs : List (D RT den)) : Option (Out RT den) := match xs with | [.rs za0_0 .u8 na0_0 fa0_0] => some ⟨Bool, F_laws_FnCodecs fu (⟨za0_0, na0_0, fa0_0⟩ : (Sl Int)), enc_bo, fun _ => true⟩ | _ => none
theorem hpc_b38 (fu : Nat) : HpcOk E Try.prog (pcf_b38 fu) := by
 intro f xs o h
 unfold pcf_b38 at h
 split at h
 ·exact good_b20 fu xs o h
 ·exact good_b3 fu xs o h
 ·exact good_b27 fu xs o h
 ·exact good_a9 fu xs o h
 ·exact good_b28 fu xs o h
 ·exact good_a20 fu xs o h
 ·exact good_b29 fu xs o h
 ·exact good_b9 fu xs o h
 ·exact good_b31 fu xs o h
 ·exact good_b25 fu xs o h
 ·exact good_b26 fu xs o h
 ·exact good_b37 fu xs o h
 ·cases h
theorem hpx_b38 (fu : Nat) : HpxOk E Try.prog pcd_b38 pcd0 (pcx_b38 fu) := by
 intro f xs ins o h
 unfold pcx_b38 at h
 split at h
 ·exact good_b8 fu xs ins o h
 ·exact good_b23 fu xs ins o h
 ·cases h
theorem goodv_b38 (fu : Nat) (code_0 : (Sl Int)) (y : Bool) (hy : F_laws_FnCodecs fu code_0 = some y) : Good E Try.prog 4 [(.rs code_0.z .u8 code_0.n code_0.f)] (enc_bo y) :=
 fun_good E_ok (pc_good (pc := pc_b38 fu) (hpc_b38 fu) (hpx_b38 fu)) (fn := Try.f4) (by kernel_rfl) (by kernel_rfl) (by kernel_rfl) (lpok_b38 fu) (fun d hd => out_bo_enc d _ hd) ((ev_b38 fu code_0).trans hy)
theorem good_b38 (fu : Nat) : GoodS E Try.prog 4 (S_b38 fu) := by
 intro xs o h y hy
 unfold S_b38 at h
 split at h
 ·rename_i za0_0 na0_0 fa0_0
  cases h
  exact goodv_b38 fu (⟨za0_0, na0_0, fa0_0⟩ : (Sl Int)) y hy
 ·cases h
end Go.Proofs.Ytcmfekgdlaffkaa.Pq
