/- The functions' evaluated forms, each a proved summary. Conditions: none. -/
import Derived.Test.YtcmfekgdlaffkaaPqF3
namespace Go.Proofs.Ytcmfekgdlaffkaa.Pq
open Go Go.RowKit Go.Proofs Vm
set_option linter.unusedVariables false
set_option linter.unusedSimpArgs false
set_option maxRecDepth 100000
abbrev Ye0 : Type := (Sl Int) × Int × (Sl S_impl_Backend) × (Sl S_impl_Vip) × Int
abbrev Ye1 : Type := (Sl S_impl_Vip) × Int × Int × (Sl S_impl_Backend) × (Sl S_impl_Vip)
abbrev Ye2 : Type := (Sl S_impl_Backend) × Int × Int × (Sl S_impl_Backend) × (Sl S_impl_Vip)
abbrev Ye3 : Type := (Sl S_impl_Vip) × Int × Int × Int × (Sl S_impl_Backend) × (Sl S_impl_Vip) × Int × Int × Int × (Sl Int)
def F_impl_isBackend (fu : Nat) (b_0 : S_impl_Backend) : Option (Bool) :=
 ((((F_impl_isName fu b_0.Name).bind fun a => (bif a then ((F_impl_isAddress fu b_0.Address).bind fun b => (bif b then ((F_impl_in fu b_0.Weight 0 9).bind fun d =>
  (bif d then ((F_impl_in fu b_0.Stage 1 3).bind fun g => (some g)) else (some false))) else (some false))) else (some false))) : Option Bool).bind fun h => (some h))
def pcf_a28 (fu f : Nat) (xs : List (D RT den)) : Option (Out RT den) := match f with | 63 => S_a27 fu xs | 77 => S_a25 fu xs | 93 => S_a26 fu xs | _ => none
def pc_a28 (fu : Nat) : Pc RT den := ⟨pcf_a28 fu, fun _ => false, fun _ => false, pcd0, pcd0, pcd0, pcx0⟩
def msk_a28 (b : Nat) : List Nat := match b with | 200001 => [2] | _ => []
def lp_a28 (fu : Nat) : Lp RT den (Bool) := ⟨fun b s k => none, inl0⟩
theorem ev_a28 (fu : Nat) (b_0 : S_impl_Backend) : evFun E (pc_a28 fu) msk_a28 (lp_a28 fu) out_bo 78 [(.agg [(ii b_0.Name), (ii b_0.Address), (ii b_0.Weight), (ii b_0.Stage), (.bool b_0.Up)])] = F_impl_isBackend fu b_0 := by kernel_rfl
noncomputable def body_a28 : Code := Try.f78.body.getD .skip
theorem lpok_a28 (fu : Nat) : LpOk E (pc_a28 fu) 0 msk_a28 (lp_a28 fu) (loops 0 body_a28) := lp_nil (loop_nil (by kernel_rfl)) (by kernel_rfl)
def S_a28 (fu : Nat) (xs : List (D RT den)) : Option (Out RT den) := match xs with | [.agg [.int .i64 a0_1, .int .i64 a0_2, .int .i64 a0_3, .int .i64 a0_4, .bool a0_5]] => some ⟨Bool, F_impl_isBackend fu (⟨a0_1, a0_2, a0_3, a0_4, a0_5⟩ : S_impl_Backend), enc_bo, fun _ => true⟩ | _ => none
theorem hpc_a28 (fu : Nat) : HpcOk E Try.prog (pcf_a28 fu) := by
 intro f xs o h
 unfold pcf_a28 at h
 split at h
 ·exact good_a27 fu xs o h
 ·exact good_a25 fu xs o h
 ·exact good_a26 fu xs o h
 ·cases h
theorem goodv_a28 (fu : Nat) (b_0 : S_impl_Backend) (y : Bool) (hy : F_impl_isBackend fu b_0 = some y) : Good E Try.prog 78 [(.agg [(ii b_0.Name), (ii b_0.Address), (ii b_0.Weight), (ii b_0.Stage), (.bool b_0.Up)])] (enc_bo y) :=
 fun_good E_ok (pc_good (pc := pc_a28 fu) (hpc_a28 fu) hpx0) (fn := Try.f78) (by kernel_rfl) (by kernel_rfl) (by kernel_rfl) (lpok_a28 fu) (fun d hd => out_bo_enc d _ hd) ((ev_a28 fu b_0).trans hy)
theorem good_a28 (fu : Nat) : GoodS E Try.prog 78 (S_a28 fu) := by
 intro xs o h y hy
 unfold S_a28 at h
 split at h
 ·rename_i a0_1 a0_2 a0_3 a0_4 a0_5
  cases h
  exact goodv_a28 fu (⟨a0_1, a0_2, a0_3, a0_4, a0_5⟩ : S_impl_Backend) y hy
 ·cases h
def F_impl_isPort (fu : Nat) (n_0 : Int) : Option (Bool) :=
 ((F_impl_in fu n_0 0 65535).bind fun a => (some a))
def pcf_a29 (fu f : Nat) (xs : List (D RT den)) : Option (Out RT den) := match f with | 77 => S_a25 fu xs | _ => none
def pc_a29 (fu : Nat) : Pc RT den := ⟨pcf_a29 fu, fun _ => false, fun _ => false, pcd0, pcd0, pcd0, pcx0⟩
def msk_a29 (b : Nat) : List Nat := []
def lp_a29 (fu : Nat) : Lp RT den (Bool) := ⟨fun b s k => none, inl0⟩
theorem ev_a29 (fu : Nat) (n_0 : Int) : evFun E (pc_a29 fu) msk_a29 (lp_a29 fu) out_bo 79 [(ii n_0)] = F_impl_isPort fu n_0 := by kernel_rfl
noncomputable def body_a29 : Code := Try.f79.body.getD .skip
theorem lpok_a29 (fu : Nat) : LpOk E (pc_a29 fu) 0 msk_a29 (lp_a29 fu) (loops 0 body_a29) := lp_nil (loop_nil (by kernel_rfl)) (by kernel_rfl)
def S_a29 (fu : Nat) (xs : List (D RT den)) : Option (Out RT den) := match xs with | [.int .i64 a0_0] => some ⟨Bool, F_impl_isPort fu a0_0, enc_bo, fun _ => true⟩ | _ => none
theorem hpc_a29 (fu : Nat) : HpcOk E Try.prog (pcf_a29 fu) := by
 intro f xs o h
 unfold pcf_a29 at h
 split at h
 ·exact good_a25 fu xs o h
 ·cases h
theorem goodv_a29 (fu : Nat) (n_0 : Int) (y : Bool) (hy : F_impl_isPort fu n_0 = some y) : Good E Try.prog 79 [(ii n_0)] (enc_bo y) :=
 fun_good E_ok (pc_good (pc := pc_a29 fu) (hpc_a29 fu) hpx0) (fn := Try.f79) (by kernel_rfl) (by kernel_rfl) (by kernel_rfl) (lpok_a29 fu) (fun d hd => out_bo_enc d _ hd) ((ev_a29 fu n_0).trans hy)
theorem good_a29 (fu : Nat) : GoodS E Try.prog 79 (S_a29 fu) := by
 intro xs o h y hy
 unfold S_a29 at h
 split at h
 ·rename_i a0_0
  cases h
  exact goodv_a29 fu a0_0 y hy
 ·cases h
def F_impl_isProto (fu : Nat) (n_0 : Int) : Option (Bool) :=
 (((bif (n_0 == 6) then (some true) else (some (n_0 == 17))) : Option Bool).bind fun a => (some a))
def pc_a30 (fu : Nat) : Pc RT den := ⟨pcf0, fun _ => false, fun _ => false, pcd0, pcd0, pcd0, pcx0⟩
def msk_a30 (b : Nat) : List Nat := match b with | 200001 => [2] | _ => []
def lp_a30 (fu : Nat) : Lp RT den (Bool) := ⟨fun b s k => none, inl0⟩
theorem ev_a30 (fu : Nat) (n_0 : Int) : evFun E (pc_a30 fu) msk_a30 (lp_a30 fu) out_bo 80 [(ii n_0)] = F_impl_isProto fu n_0 := by kernel_rfl
noncomputable def body_a30 : Code := Try.f80.body.getD .skip
theorem lpok_a30 (fu : Nat) : LpOk E (pc_a30 fu) 0 msk_a30 (lp_a30 fu) (loops 0 body_a30) := lp_nil (loop_nil (by kernel_rfl)) (by kernel_rfl)
def S_a30 (fu : Nat) (xs : List (D RT den)) : Option (Out RT den) := match xs with | [.int .i64 a0_0] => some ⟨Bool, F_impl_isProto fu a0_0, enc_bo, fun _ => true⟩ | _ => none
theorem goodv_a30 (fu : Nat) (n_0 : Int) (y : Bool) (hy : F_impl_isProto fu n_0 = some y) : Good E Try.prog 80 [(ii n_0)] (enc_bo y) :=
 fun_good E_ok (pc_good (pc := pc_a30 fu) hpc0 hpx0) (fn := Try.f80) (by kernel_rfl) (by kernel_rfl) (by kernel_rfl) (lpok_a30 fu) (fun d hd => out_bo_enc d _ hd) ((ev_a30 fu n_0).trans hy)
theorem good_a30 (fu : Nat) : GoodS E Try.prog 80 (S_a30 fu) := by
 intro xs o h y hy
 unfold S_a30 at h
 split at h
 ·rename_i a0_0
  cases h
  exact goodv_a30 fu a0_0 y hy
 ·cases h
def F_cmp_isNaN_int64 (fu : Nat) (x_0 : Int) : Option (Bool) :=
 (some (x_0 != x_0))
def pc_a31 (fu : Nat) : Pc RT den := ⟨pcf0, fun _ => false, fun _ => false, pcd0, pcd0, pcd0, pcx0⟩
def msk_a31 (b : Nat) : List Nat := []
def lp_a31 (fu : Nat) : Lp RT den (Bool) := ⟨fun b s k => none, inl0⟩
theorem ev_a31 (fu : Nat) (x_0 : Int) : evFun E (pc_a31 fu) msk_a31 (lp_a31 fu) out_bo 139 [(ii x_0)] = F_cmp_isNaN_int64 fu x_0 := by kernel_rfl
noncomputable def body_a31 : Code := Try.f139.body.getD .skip
theorem lpok_a31 (fu : Nat) : LpOk E (pc_a31 fu) 0 msk_a31 (lp_a31 fu) (loops 0 body_a31) := lp_nil (loop_nil (by kernel_rfl)) (by kernel_rfl)
def S_a31 (fu : Nat) (xs : List (D RT den)) : Option (Out RT den) := match xs with | [.int .i64 a0_0] => some ⟨Bool, F_cmp_isNaN_int64 fu a0_0, enc_bo, fun _ => true⟩ | _ => none
theorem goodv_a31 (fu : Nat) (x_0 : Int) (y : Bool) (hy : F_cmp_isNaN_int64 fu x_0 = some y) : Good E Try.prog 139 [(ii x_0)] (enc_bo y) :=
 fun_good E_ok (pc_good (pc := pc_a31 fu) hpc0 hpx0) (fn := Try.f139) (by kernel_rfl) (by kernel_rfl) (by kernel_rfl) (lpok_a31 fu) (fun d hd => out_bo_enc d _ hd) ((ev_a31 fu x_0).trans hy)
theorem good_a31 (fu : Nat) : GoodS E Try.prog 139 (S_a31 fu) := by
 intro xs o h y hy
 unfold S_a31 at h
 split at h
 ·rename_i a0_0
  cases h
  exact goodv_a31 fu a0_0 y hy
 ·cases h
def F_cmp_Compare_int64 (fu : Nat) (x_0 y_1 : Int) : Option (Int) :=
 ((F_cmp_isNaN_int64 fu x_0).bind fun a => ((F_cmp_isNaN_int64 fu y_1).bind fun b => (bif a then (bif b then (some 0) else (some (-1))) else (bif b then (some 1) else
  (bif (decide (x_0 < y_1)) then (some (-1)) else (bif (decide (x_0 > y_1)) then (some 1) else (some 0)))))))
def pcf_a32 (fu f : Nat) (xs : List (D RT den)) : Option (Out RT den) := match f with | 139 => S_a31 fu xs | _ => none
def pc_a32 (fu : Nat) : Pc RT den := ⟨pcf_a32 fu, fun _ => false, fun _ => false, pcd0, pcd0, pcd0, pcx0⟩
def msk_a32 (b : Nat) : List Nat := []
def lp_a32 (fu : Nat) : Lp RT den (Int) := ⟨fun b s k => none, inl0⟩
theorem ev_a32 (fu : Nat) (x_0 y_1 : Int) : evFun E (pc_a32 fu) msk_a32 (lp_a32 fu) out_i64 123 [(ii x_0), (ii y_1)] = F_cmp_Compare_int64 fu x_0 y_1 := by kernel_rfl
noncomputable def body_a32 : Code := Try.f123.body.getD .skip
theorem lpok_a32 (fu : Nat) : LpOk E (pc_a32 fu) 0 msk_a32 (lp_a32 fu) (loops 0 body_a32) := lp_nil (loop_nil (by kernel_rfl)) (by kernel_rfl)
def S_a32 (fu : Nat) (xs : List (D RT den)) : Option (Out RT den) := match xs with | [.int .i64 a0_0, .int .i64 a1_0] => some ⟨Int, F_cmp_Compare_int64 fu a0_0 a1_0, enc_i64, fun _ => true⟩ | _ => none
theorem hpc_a32 (fu : Nat) : HpcOk E Try.prog (pcf_a32 fu) := by
 intro f xs o h
 unfold pcf_a32 at h
 split at h
 ·exact good_a31 fu xs o h
 ·cases h
theorem goodv_a32 (fu : Nat) (x_0 y_1 y : Int) (hy : F_cmp_Compare_int64 fu x_0 y_1 = some y) : Good E Try.prog 123 [(ii x_0), (ii y_1)] (enc_i64 y) :=
 fun_good E_ok (pc_good (pc := pc_a32 fu) (hpc_a32 fu) hpx0) (fn := Try.f123) (by kernel_rfl) (by kernel_rfl) (by kernel_rfl) (lpok_a32 fu) (fun d hd => out_i64_enc d _ hd) ((ev_a32 fu x_0 y_1).trans hy)
theorem good_a32 (fu : Nat) : GoodS E Try.prog 123 (S_a32 fu) := by
 intro xs o h y hy
 unfold S_a32 at h
 split at h
 ·rename_i a0_0 a1_0
  cases h
  exact goodv_a32 fu a0_0 a1_0 y hy
 ·cases h
def F_cmp_Or_int_B0 {ρ : Type} (fu : Nat) (zero3_0 : Int) (t6_1 : (Sl Int)) (t7_2 : Int) (k0 : Int → Option ρ) (k1 : Option ρ) (t8_3 : Int) (go : Int → Option ρ) : Option ρ :=
 (bif (decide (t8_3 < t7_2)) then ((bif (decide (0 ≤ t8_3) && decide ((Int.toNat t8_3) < t6_1.n)) then some () else none : Option Unit).bind fun _ => (bif ((t6_1.f (Int.toNat t8_3)) != zero3_0) then
  (k0 (t6_1.f (Int.toNat t8_3))) else (go (IntKind.wrap .i64 (t8_3 + 1))))) else k1)
def F_cmp_Or_int (fu : Nat) (vals_0 : (Sl Int)) : Option (Int) :=
 (L (fun w0 go0 => F_cmp_Or_int_B0 fu 0 vals_0 ((vals_0.n : Nat) : Int) (fun a => (some a)) (some 0) w0 go0) fu (0 : Int))
def pc_a33 (fu : Nat) : Pc RT den := ⟨pcf0, fun _ => false, fun _ => false, pcd0, pcd0, pcd0, pcx0⟩
def msk_a33 (b : Nat) : List Nat := match b with | 0 => (0 :: 1 :: 2 :: 4 :: 5 :: (rg 9 9 [])) | 100000 => (0 :: 1 :: (rg 4 14 [])) | _ => []
def ps_a33_0 : List (Pat RT) := (.flat .q :: .flat .q :: .flat .q :: .flat (.int .i64) :: .flat .q :: .flat .q :: .flat (.rs .i64) :: .flat (.int .i64) :: .flat (.int .i64) :: (fq 9 []))
def os_a33_0 : List (OP RT) := []
def conv_a33_0 (r : Raw den ps_a33_0 os_a33_0) : (Int × (Sl Int) × Int) × (Int) := ((r.1.2.2.2.1, (e5 r.1).2.1, (e5 r.1).2.2.1), (e5 r.1).2.2.2.1)
def back_a33_0 (c : Int × (Sl Int) × Int) (w : Int) : St RT den := ⟨(.q :: .q :: .q :: (ii c.1) :: .q :: .q :: (.rs c.2.1.z .i64 c.2.1.n c.2.1.f) :: (ii c.2.2) :: (ii w) :: (qs 9 [])), []⟩
def Bk_a33_0 {ρ : Type} (fu : Nat) (c : Int × (Sl Int) × Int) (k : Ex → St RT den → Option ρ) (w : Int) (go : (Int) → Option ρ) : Option ρ := F_cmp_Or_int_B0 fu c.1 c.2.1 c.2.2 (fun a0 => k .ret ⟨(.q :: .q :: (ii a0) :: (ii c.1) :: (qs 14 [])), []⟩) (k (.exit 0) ⟨(.q :: .q :: .q :: (ii c.1) :: (qs 14 [])), []⟩) w go
def lp_a33 (fu : Nat) : Lp RT den (Int) := ⟨fun b s k => match b with | 0 => handle ps_a33_0 os_a33_0 conv_a33_0 (Bk_a33_0 fu) fu s k | _ => none, inl0⟩
theorem ev_a33 (fu : Nat) (vals_0 : (Sl Int)) : evFun E (pc_a33 fu) msk_a33 (lp_a33 fu) out_i64 122 [(.rs vals_0.z .i64 vals_0.n vals_0.f)] = F_cmp_Or_int fu vals_0 := by kernel_rfl
noncomputable def body_a33 : Code := Try.f122.body.getD .skip
noncomputable def lc_a33_0 : Code := ((loops 0 body_a33).getD 0 (0, .skip)).2
theorem round_a33_0 (fu : Nat) : RoundOk E (pc_a33 fu) msk_a33 (lp_a33 fu) 0 lc_a33_0 back_a33_0 0 100000 0 (Bk_a33_0 fu) := fun it k c w => by kernel_rfl
theorem lpok_a33_0 (fu : Nat) : LpAt E (pc_a33 fu) msk_a33 (lp_a33 fu) 0 0 100000 0 lc_a33_0 :=
 handle_ok (ps := ps_a33_0) (os := os_a33_0) (conv := conv_a33_0) (B := Bk_a33_0 fu) (fu := fu) back_a33_0 (fun raw => by kernel_rfl) 0 (fun c w => by kernel_rfl) (round_a33_0 fu)
theorem lpok_a33 (fu : Nat) : LpOk E (pc_a33 fu) 0 msk_a33 (lp_a33 fu) (loops 0 body_a33) := lp_nil (loop_all 1 (by kernel_rfl) fun i hi => match i, hi with
 | 0, _ => by
  have h : (loops 0 body_a33).getD 0 (0, .skip) = (0, lc_a33_0) := by kernel_rfl
  rw [h]; exact lpok_a33_0 fu
 | i + 1, hi => absurd hi (by omega)) (by kernel_rfl)
def S_a33 (fu : Nat) (xs : List (D RT den)) : Option (Out RT den) := match xs with | [.rs za0_0 .i64 na0_0 fa0_0] => some ⟨Int, F_cmp_Or_int fu (⟨za0_0, na0_0, fa0_0⟩ : (Sl Int)), enc_i64, fun _ => true⟩ | _ => none
theorem goodv_a33 (fu : Nat) (vals_0 : (Sl Int)) (y : Int) (hy : F_cmp_Or_int fu vals_0 = some y) : Good E Try.prog 122 [(.rs vals_0.z .i64 vals_0.n vals_0.f)] (enc_i64 y) :=
 fun_good E_ok (pc_good (pc := pc_a33 fu) hpc0 hpx0) (fn := Try.f122) (by kernel_rfl) (by kernel_rfl) (by kernel_rfl) (lpok_a33 fu) (fun d hd => out_i64_enc d _ hd) ((ev_a33 fu vals_0).trans hy)
theorem good_a33 (fu : Nat) : GoodS E Try.prog 122 (S_a33 fu) := by
 intro xs o h y hy
 unfold S_a33 at h
 split at h
 ·rename_i za0_0 na0_0 fa0_0
  cases h
  exact goodv_a33 fu (⟨za0_0, na0_0, fa0_0⟩ : (Sl Int)) y hy
 ·cases h
def F_impl_compareVip (fu : Nat) (a_0 b_1 : S_impl_Vip) : Option (Int) :=
 ((F_cmp_Compare_int64 fu a_0.Address b_1.Address).bind fun a => ((F_cmp_Compare_int64 fu a_0.Port b_1.Port).bind fun b => ((F_cmp_Compare_int64 fu a_0.Proto b_1.Proto).bind fun d =>
  ((F_cmp_Or_int fu (⟨(some false), 3, (fun i => ([a, b, d] : List (Int)).getD i (dflt .i64))⟩ : (Sl Int))).bind fun g => (some g)))))
def pcf_a34 (fu f : Nat) (xs : List (D RT den)) : Option (Out RT den) := match f with | 122 => S_a33 fu xs | 123 => S_a32 fu xs | _ => none
def pc_a34 (fu : Nat) : Pc RT den := ⟨pcf_a34 fu, fun _ => false, fun _ => false, pcd0, pcd0, pcd0, pcx0⟩
def msk_a34 (b : Nat) : List Nat := []
def lp_a34 (fu : Nat) : Lp RT den (Int) := ⟨fun b s k => none, inl0⟩
theorem ev_a34 (fu : Nat) (a_0 b_1 : S_impl_Vip) : evFun E (pc_a34 fu) msk_a34 (lp_a34 fu) out_i64 81 [(.agg [(ii a_0.Address), (ii a_0.Port), (ii a_0.Proto), (.rs a_0.Names.z .i64 a_0.Names.n a_0.Names.f)]), (.agg [(ii b_1.Address), (ii b_1.Port), (ii b_1.Proto), (.rs b_1.Names.z .i64 b_1.Names.n b_1.Names.f)])] = F_impl_compareVip fu a_0 b_1 := by kernel_rfl
noncomputable def body_a34 : Code := Try.f81.body.getD .skip
theorem lpok_a34 (fu : Nat) : LpOk E (pc_a34 fu) 0 msk_a34 (lp_a34 fu) (loops 0 body_a34) := lp_nil (loop_nil (by kernel_rfl)) (by kernel_rfl)
def S_a34 (fu : Nat) (xs : List (D RT den)) : Option (Out RT den) := match xs with | [.agg [.int .i64 a0_1, .int .i64 a0_2, .int .i64 a0_3, .rs za0_4 .i64 na0_4 fa0_4], .agg [.int .i64 a1_1, .int .i64 a1_2, .int .i64 a1_3, .rs za1_4 .i64 na1_4 fa1_4]] => some ⟨Int, F_impl_compareVip fu (⟨a0_1, a0_2, a0_3, (⟨za0_4, na0_4, fa0_4⟩ : (Sl Int))⟩ : S_impl_Vip) (⟨a1_1, a1_2, a1_3, (⟨za1_4, na1_4, fa1_4⟩ : (Sl Int))⟩ : S_impl_Vip), enc_i64, fun _ => true⟩ | _ => none
theorem hpc_a34 (fu : Nat) : HpcOk E Try.prog (pcf_a34 fu) := by
 intro f xs o h
 unfold pcf_a34 at h
 split at h
 ·exact good_a33 fu xs o h
 ·exact good_a32 fu xs o h
 ·cases h
theorem goodv_a34 (fu : Nat) (a_0 b_1 : S_impl_Vip) (y : Int) (hy : F_impl_compareVip fu a_0 b_1 = some y) : Good E Try.prog 81 [(.agg [(ii a_0.Address), (ii a_0.Port), (ii a_0.Proto), (.rs a_0.Names.z .i64 a_0.Names.n a_0.Names.f)]), (.agg [(ii b_1.Address), (ii b_1.Port), (ii b_1.Proto), (.rs b_1.Names.z .i64 b_1.Names.n b_1.Names.f)])] (enc_i64 y) :=
 fun_good E_ok (pc_good (pc := pc_a34 fu) (hpc_a34 fu) hpx0) (fn := Try.f81) (by kernel_rfl) (by kernel_rfl) (by kernel_rfl) (lpok_a34 fu) (fun d hd => out_i64_enc d _ hd) ((ev_a34 fu a_0 b_1).trans hy)
theorem good_a34 (fu : Nat) : GoodS E Try.prog 81 (S_a34 fu) := by
 intro xs o h y hy
 unfold S_a34 at h
 split at h
 ·rename_i a0_1 a0_2 a0_3 za0_4 na0_4 fa0_4 a1_1 a1_2 a1_3 za1_4 na1_4 fa1_4
  cases h
  exact goodv_a34 fu (⟨a0_1, a0_2, a0_3, (⟨za0_4, na0_4, fa0_4⟩ : (Sl Int))⟩ : S_impl_Vip) (⟨a1_1, a1_2, a1_3, (⟨za1_4, na1_4, fa1_4⟩ : (Sl Int))⟩ : S_impl_Vip) y hy
 ·cases h
def F_impl_Config_backend_c1 (fu : Nat) (b_0 : S_impl_Backend) (x_1_1 : Int) : Option (Bool) :=
 (some (b_0.Name == x_1_1))
def pc_a35 (fu : Nat) : Pc RT den := ⟨pcf0, fun _ => false, fun _ => false, pcd0, pcd0, pcd0, pcx0⟩
def msk_a35 (b : Nat) : List Nat := []
def lp_a35 (fu : Nat) : Lp RT den (Bool) := ⟨fun b s k => none, inl0⟩
theorem ev_a35 (fu : Nat) (b_0 : S_impl_Backend) (x_1_1 : Int) : evFun E (pc_a35 fu) msk_a35 (lp_a35 fu) out_bo 117 [(.agg [(ii b_0.Name), (ii b_0.Address), (ii b_0.Weight), (ii b_0.Stage), (.bool b_0.Up)]), (.rptr [(ii x_1_1)])] = F_impl_Config_backend_c1 fu b_0 x_1_1 := by kernel_rfl
noncomputable def body_a35 : Code := Try.f117.body.getD .skip
theorem lpok_a35 (fu : Nat) : LpOk E (pc_a35 fu) 0 msk_a35 (lp_a35 fu) (loops 0 body_a35) := lp_nil (loop_nil (by kernel_rfl)) (by kernel_rfl)
def S_a35 (fu : Nat) (xs : List (D RT den)) : Option (Out RT den) := match xs with | [.agg [.int .i64 a0_1, .int .i64 a0_2, .int .i64 a0_3, .int .i64 a0_4, .bool a0_5], .rptr [.int .i64 a1_0]] => some ⟨Bool, F_impl_Config_backend_c1 fu (⟨a0_1, a0_2, a0_3, a0_4, a0_5⟩ : S_impl_Backend) a1_0, enc_bo, fun _ => true⟩ | _ => none
theorem goodv_a35 (fu : Nat) (b_0 : S_impl_Backend) (x_1_1 : Int) (y : Bool) (hy : F_impl_Config_backend_c1 fu b_0 x_1_1 = some y) : Good E Try.prog 117 [(.agg [(ii b_0.Name), (ii b_0.Address), (ii b_0.Weight), (ii b_0.Stage), (.bool b_0.Up)]), (.rptr [(ii x_1_1)])] (enc_bo y) :=
 fun_good E_ok (pc_good (pc := pc_a35 fu) hpc0 hpx0) (fn := Try.f117) (by kernel_rfl) (by kernel_rfl) (by kernel_rfl) (lpok_a35 fu) (fun d hd => out_bo_enc d _ hd) ((ev_a35 fu b_0 x_1_1).trans hy)
theorem good_a35 (fu : Nat) : GoodS E Try.prog 117 (S_a35 fu) := by
 intro xs o h y hy
 unfold S_a35 at h
 split at h
 ·rename_i a0_1 a0_2 a0_3 a0_4 a0_5 a1_0
  cases h
  exact goodv_a35 fu (⟨a0_1, a0_2, a0_3, a0_4, a0_5⟩ : S_impl_Backend) a1_0 y hy
 ·cases h
def F_slices_IndexFunc_impl_Backend_impl_Backend_w_impl_Config_backend_c1_B0 {ρ : Type} (fu : Nat) (s0_0 : (Sl S_impl_Backend)) (f1_1 t7_2 : Int) (k0 : Int → Option ρ) (k1 : Option ρ) (t8_3 : Int) (go : Int → Option ρ) : Option ρ :=
 (bif (decide (t8_3 < t7_2)) then ((bif (decide (0 ≤ t8_3) && decide ((Int.toNat t8_3) < s0_0.n)) then some () else none : Option Unit).bind fun _ => ((F_impl_Config_backend_c1 fu (s0_0.f (Int.toNat t8_3)) f1_1).bind fun a =>
  (bif a then (k0 t8_3) else (go (IntKind.wrap .i64 (t8_3 + 1)))))) else k1)
def F_slices_IndexFunc_impl_Backend_impl_Backend_w_impl_Config_backend_c1 (fu : Nat) (s_0 : (Sl S_impl_Backend)) (f_1_1 : Int) : Option (Int) :=
 (L (fun w0 go0 => F_slices_IndexFunc_impl_Backend_impl_Backend_w_impl_Config_backend_c1_B0 fu s_0 f_1_1 ((s_0.n : Nat) : Int) (fun a => (some a)) (some (-1)) w0 go0) fu (0 : Int))
def pcf_a36 (fu f : Nat) (xs : List (D RT den)) : Option (Out RT den) := match f with | 117 => S_a35 fu xs | _ => none
def pc_a36 (fu : Nat) : Pc RT den := ⟨pcf_a36 fu, fun _ => false, fun _ => false, pcd0, pcd0, pcd0, pcx0⟩
def msk_a36 (b : Nat) : List Nat := match b with | 0 => (rg 2 5 (rg 9 10 [])) | 100000 => (0 :: 1 :: 2 :: 3 :: (rg 5 14 [])) | _ => []
def ps_a36_0 : List (Pat RT) := (.flat (.rs .impl_Backend) :: .fn 117 [.rptr [(.int .i64)]] :: (fq 5 (.flat (.int .i64) :: .flat (.int .i64) :: (fq 10 []))))
def os_a36_0 : List (OP RT) := []
def conv_a36_0 (r : Raw den ps_a36_0 os_a36_0) : ((Sl S_impl_Backend) × Int × Int) × (Int) := ((r.1.1, r.1.2.1.1.1, (e5 r.1).2.2.1), (e5 r.1).2.2.2.1)
def back_a36_0 (c : (Sl S_impl_Backend) × Int × Int) (w : Int) : St RT den := ⟨((.rs c.1.z .impl_Backend c.1.n c.1.f) :: (.fn 117 [(.rptr [(ii c.2.1)])]) :: (qs 5 ((ii c.2.2) :: (ii w) :: (qs 10 [])))), []⟩
def Bk_a36_0 {ρ : Type} (fu : Nat) (c : (Sl S_impl_Backend) × Int × Int) (k : Ex → St RT den → Option ρ) (w : Int) (go : (Int) → Option ρ) : Option ρ := F_slices_IndexFunc_impl_Backend_impl_Backend_w_impl_Config_backend_c1_B0 fu c.1 c.2.1 c.2.2 (fun a0 => k .ret ⟨(qs 4 ((ii a0) :: (qs 14 []))), []⟩) (k (.exit 0) ⟨(qs 19 []), []⟩) w go
def lp_a36 (fu : Nat) : Lp RT den (Int) := ⟨fun b s k => match b with | 0 => handle ps_a36_0 os_a36_0 conv_a36_0 (Bk_a36_0 fu) fu s k | _ => none, inl0⟩
theorem ev_a36 (fu : Nat) (s_0 : (Sl S_impl_Backend)) (f_1_1 : Int) : evFun E (pc_a36 fu) msk_a36 (lp_a36 fu) out_i64 116 [(.rs s_0.z .impl_Backend s_0.n s_0.f), (.fn 117 [(.rptr [(ii f_1_1)])])] = F_slices_IndexFunc_impl_Backend_impl_Backend_w_impl_Config_backend_c1 fu s_0 f_1_1 := by kernel_rfl
noncomputable def body_a36 : Code := Try.f116.body.getD .skip
noncomputable def lc_a36_0 : Code := ((loops 0 body_a36).getD 0 (0, .skip)).2
theorem round_a36_0 (fu : Nat) : RoundOk E (pc_a36 fu) msk_a36 (lp_a36 fu) 0 lc_a36_0 back_a36_0 0 100000 0 (Bk_a36_0 fu) := fun it k c w => by kernel_rfl
theorem lpok_a36_0 (fu : Nat) : LpAt E (pc_a36 fu) msk_a36 (lp_a36 fu) 0 0 100000 0 lc_a36_0 :=
 handle_ok (ps := ps_a36_0) (os := os_a36_0) (conv := conv_a36_0) (B := Bk_a36_0 fu) (fu := fu) back_a36_0 (fun raw => by kernel_rfl) 0 (fun c w => by kernel_rfl) (round_a36_0 fu)
theorem lpok_a36 (fu : Nat) : LpOk E (pc_a36 fu) 0 msk_a36 (lp_a36 fu) (loops 0 body_a36) := lp_nil (loop_all 1 (by kernel_rfl) fun i hi => match i, hi with
 | 0, _ => by
  have h : (loops 0 body_a36).getD 0 (0, .skip) = (0, lc_a36_0) := by kernel_rfl
  rw [h]; exact lpok_a36_0 fu
 | i + 1, hi => absurd hi (by omega)) (by kernel_rfl)
def S_a36 (fu : Nat) (xs : List (D RT den)) : Option (Out RT den) := match xs with | [.rs za0_0 .impl_Backend na0_0 fa0_0, .fn 117 [.rptr [.int .i64 a1_0]]] => some ⟨Int, F_slices_IndexFunc_impl_Backend_impl_Backend_w_impl_Config_backend_c1 fu (⟨za0_0, na0_0, fa0_0⟩ : (Sl S_impl_Backend)) a1_0, enc_i64, fun _ => true⟩ | _ => none
theorem hpc_a36 (fu : Nat) : HpcOk E Try.prog (pcf_a36 fu) := by
 intro f xs o h
 unfold pcf_a36 at h
 split at h
 ·exact good_a35 fu xs o h
 ·cases h
theorem goodv_a36 (fu : Nat) (s_0 : (Sl S_impl_Backend)) (f_1_1 y : Int) (hy : F_slices_IndexFunc_impl_Backend_impl_Backend_w_impl_Config_backend_c1 fu s_0 f_1_1 = some y) : Good E Try.prog 116 [(.rs s_0.z .impl_Backend s_0.n s_0.f), (.fn 117 [(.rptr [(ii f_1_1)])])] (enc_i64 y) :=
 fun_good E_ok (pc_good (pc := pc_a36 fu) (hpc_a36 fu) hpx0) (fn := Try.f116) (by kernel_rfl) (by kernel_rfl) (by kernel_rfl) (lpok_a36 fu) (fun d hd => out_i64_enc d _ hd) ((ev_a36 fu s_0 f_1_1).trans hy)
theorem good_a36 (fu : Nat) : GoodS E Try.prog 116 (S_a36 fu) := by
 intro xs o h y hy
 unfold S_a36 at h
 split at h
 ·rename_i za0_0 na0_0 fa0_0 a1_0
  cases h
  exact goodv_a36 fu (⟨za0_0, na0_0, fa0_0⟩ : (Sl S_impl_Backend)) a1_0 y hy
 ·cases h
def F_impl_Config_backend (fu : Nat) (c_0 : S_impl_Config) (name_1 : Int) : Option (Int) :=
 ((F_slices_IndexFunc_impl_Backend_impl_Backend_w_impl_Config_backend_c1 fu c_0.Backends name_1).bind fun a => (some a))
def pcf_a37 (fu f : Nat) (xs : List (D RT den)) : Option (Out RT den) := match f with | 116 => S_a36 fu xs | _ => none
def pc_a37 (fu : Nat) : Pc RT den := ⟨pcf_a37 fu, fun _ => false, fun _ => false, pcd0, pcd0, pcd0, pcx0⟩
def msk_a37 (b : Nat) : List Nat := []
def lp_a37 (fu : Nat) : Lp RT den (Int) := ⟨fun b s k => none, inl0⟩
theorem ev_a37 (fu : Nat) (c_0 : S_impl_Config) (name_1 : Int) : evFun E (pc_a37 fu) msk_a37 (lp_a37 fu) out_i64 70 [(.rptr [(ii c_0.Version), (.rs c_0.Backends.z .impl_Backend c_0.Backends.n c_0.Backends.f), (.rs c_0.Vips.z .impl_Vip c_0.Vips.n c_0.Vips.f)]), (ii name_1)] = F_impl_Config_backend fu c_0 name_1 := by kernel_rfl
noncomputable def body_a37 : Code := Try.f70.body.getD .skip
theorem lpok_a37 (fu : Nat) : LpOk E (pc_a37 fu) 0 msk_a37 (lp_a37 fu) (loops 0 body_a37) := lp_nil (loop_nil (by kernel_rfl)) (by kernel_rfl)
def S_a37 (fu : Nat) (xs : List (D RT den)) : Option (Out RT den) := match xs with | [.rptr (.int .i64 a0_1 :: .rs za0_2 .impl_Backend na0_2 fa0_2 :: .rs za0_3 .impl_Vip na0_3 fa0_3 :: ra0), .int .i64 a1_0] => some ⟨Int, F_impl_Config_backend fu (⟨a0_1, (⟨za0_2, na0_2, fa0_2⟩ : (Sl S_impl_Backend)), (⟨za0_3, na0_3, fa0_3⟩ : (Sl S_impl_Vip))⟩ : S_impl_Config) a1_0, enc_i64, fun _ => true⟩ | _ => none
theorem hpc_a37 (fu : Nat) : HpcOk E Try.prog (pcf_a37 fu) := by
 intro f xs o h
 unfold pcf_a37 at h
 split at h
 ·exact good_a36 fu xs o h
 ·cases h
theorem goodv_a37 (fu : Nat) (c_0 : S_impl_Config) (name_1 y : Int) (hy : F_impl_Config_backend fu c_0 name_1 = some y) : Good E Try.prog 70 [(.rptr [(ii c_0.Version), (.rs c_0.Backends.z .impl_Backend c_0.Backends.n c_0.Backends.f), (.rs c_0.Vips.z .impl_Vip c_0.Vips.n c_0.Vips.f)]), (ii name_1)] (enc_i64 y) :=
 fun_good E_ok (pc_good (pc := pc_a37 fu) (hpc_a37 fu) hpx0) (fn := Try.f70) (by kernel_rfl) (by kernel_rfl) (by kernel_rfl) (lpok_a37 fu) (fun d hd => out_i64_enc d _ hd) ((ev_a37 fu c_0 name_1).trans hy)
theorem good_a37 (fu : Nat) : GoodS E Try.prog 70 (S_a37 fu) := by
 intro xs o h y hy
 unfold S_a37 at h
 split at h
 ·rename_i a0_1 za0_2 na0_2 fa0_2 za0_3 na0_3 fa0_3 ra0 a1_0
  cases h
  exact (goodv_a37 fu (⟨a0_1, (⟨za0_2, na0_2, fa0_2⟩ : (Sl S_impl_Backend)), (⟨za0_3, na0_3, fa0_3⟩ : (Sl S_impl_Vip))⟩ : S_impl_Config) a1_0 y hy).sub ⟨Sub.of_eq ra0 rfl, .refl _, trivial⟩
 ·cases h
def F_impl_ConfigFault_c1 (fu : Nat) (name_0 x_1_1 : Int) (x_1_2 : (Sl S_impl_Backend)) (x_1_3 : (Sl S_impl_Vip)) : Option (Bool) :=
 ((F_impl_Config_backend fu (⟨x_1_1, x_1_2, x_1_3⟩ : S_impl_Config) name_0).bind fun a => (some (decide (a < 0))))
def pcf_a38 (fu f : Nat) (xs : List (D RT den)) : Option (Out RT den) := match f with | 70 => S_a37 fu xs | _ => none
def pc_a38 (fu : Nat) : Pc RT den := ⟨pcf_a38 fu, fun _ => false, fun _ => false, pcd0, pcd0, pcd0, pcx0⟩
def msk_a38 (b : Nat) : List Nat := []
def lp_a38 (fu : Nat) : Lp RT den (Bool) := ⟨fun b s k => none, inl0⟩
theorem ev_a38 (fu : Nat) (name_0 x_1_1 : Int) (x_1_2 : (Sl S_impl_Backend)) (x_1_3 : (Sl S_impl_Vip)) : evFun E (pc_a38 fu) msk_a38 (lp_a38 fu) out_bo 82 [(ii name_0), (.rptr [(ii x_1_1), (.rs x_1_2.z .impl_Backend x_1_2.n x_1_2.f), (.rs x_1_3.z .impl_Vip x_1_3.n x_1_3.f)])] = F_impl_ConfigFault_c1 fu name_0 x_1_1 x_1_2 x_1_3 := by kernel_rfl
noncomputable def body_a38 : Code := Try.f82.body.getD .skip
theorem lpok_a38 (fu : Nat) : LpOk E (pc_a38 fu) 0 msk_a38 (lp_a38 fu) (loops 0 body_a38) := lp_nil (loop_nil (by kernel_rfl)) (by kernel_rfl)
def S_a38 (fu : Nat) (xs : List (D RT den)) : Option (Out RT den) := match xs with | [.int .i64 a0_0, .rptr [.int .i64 a1_0, .rs za1_1 .impl_Backend na1_1 fa1_1, .rs za1_2 .impl_Vip na1_2 fa1_2]] => some ⟨Bool, F_impl_ConfigFault_c1 fu a0_0 a1_0 (⟨za1_1, na1_1, fa1_1⟩ : (Sl S_impl_Backend)) (⟨za1_2, na1_2, fa1_2⟩ : (Sl S_impl_Vip)), enc_bo, fun _ => true⟩ | _ => none
theorem hpc_a38 (fu : Nat) : HpcOk E Try.prog (pcf_a38 fu) := by
 intro f xs o h
 unfold pcf_a38 at h
 split at h
 ·exact good_a37 fu xs o h
 ·cases h
theorem goodv_a38 (fu : Nat) (name_0 x_1_1 : Int) (x_1_2 : (Sl S_impl_Backend)) (x_1_3 : (Sl S_impl_Vip)) (y : Bool) (hy : F_impl_ConfigFault_c1 fu name_0 x_1_1 x_1_2 x_1_3 = some y) : Good E Try.prog 82 [(ii name_0), (.rptr [(ii x_1_1), (.rs x_1_2.z .impl_Backend x_1_2.n x_1_2.f), (.rs x_1_3.z .impl_Vip x_1_3.n x_1_3.f)])] (enc_bo y) :=
 fun_good E_ok (pc_good (pc := pc_a38 fu) (hpc_a38 fu) hpx0) (fn := Try.f82) (by kernel_rfl) (by kernel_rfl) (by kernel_rfl) (lpok_a38 fu) (fun d hd => out_bo_enc d _ hd) ((ev_a38 fu name_0 x_1_1 x_1_2 x_1_3).trans hy)
theorem good_a38 (fu : Nat) : GoodS E Try.prog 82 (S_a38 fu) := by
 intro xs o h y hy
 unfold S_a38 at h
 split at h
 ·rename_i a0_0 a1_0 za1_1 na1_1 fa1_1 za1_2 na1_2 fa1_2
  cases h
  exact goodv_a38 fu a0_0 a1_0 (⟨za1_1, na1_1, fa1_1⟩ : (Sl S_impl_Backend)) (⟨za1_2, na1_2, fa1_2⟩ : (Sl S_impl_Vip)) y hy
 ·cases h
def F_slices_IndexFunc_int64_int64_w_impl_ConfigFault_c1_B0 {ρ : Type} (fu : Nat) (s0_0 : (Sl Int)) (f1_1 : Int) (f1_2 : (Sl S_impl_Backend)) (f1_3 : (Sl S_impl_Vip)) (t7_4 : Int) (k0 : Int → Option ρ) (k1 : Option ρ) (t8_5 : Int) (go : Int → Option ρ) : Option ρ :=
 (bif (decide (t8_5 < t7_4)) then ((bif (decide (0 ≤ t8_5) && decide ((Int.toNat t8_5) < s0_0.n)) then some () else none : Option Unit).bind fun _ => ((F_impl_ConfigFault_c1 fu (s0_0.f (Int.toNat t8_5)) f1_1 f1_2 f1_3).bind fun a =>
  (bif a then (k0 t8_5) else (go (IntKind.wrap .i64 (t8_5 + 1)))))) else k1)
def F_slices_IndexFunc_int64_int64_w_impl_ConfigFault_c1 (fu : Nat) (s_0 : (Sl Int)) (f_1_1 : Int) (f_1_2 : (Sl S_impl_Backend)) (f_1_3 : (Sl S_impl_Vip)) : Option (Int) :=
 (L (fun w0 go0 => F_slices_IndexFunc_int64_int64_w_impl_ConfigFault_c1_B0 fu s_0 f_1_1 f_1_2 f_1_3 ((s_0.n : Nat) : Int) (fun a => (some a)) (some (-1)) w0 go0) fu (0 : Int))
def pcf_a39 (fu f : Nat) (xs : List (D RT den)) : Option (Out RT den) := match f with | 82 => S_a38 fu xs | _ => none
def pc_a39 (fu : Nat) : Pc RT den := ⟨pcf_a39 fu, fun _ => false, fun _ => false, pcd0, pcd0, pcd0, pcx0⟩
def msk_a39 (b : Nat) : List Nat := match b with | 0 => (rg 2 5 (rg 9 10 [])) | 100000 => (0 :: 1 :: 2 :: 3 :: (rg 5 14 [])) | _ => []
def ps_a39_0 : List (Pat RT) := (.flat (.rs .i64) :: .fn 82 [.rptr [(.int .i64), (.rs .impl_Backend), (.rs .impl_Vip)]] :: (fq 5 (.flat (.int .i64) :: .flat (.int .i64) :: (fq 10 []))))
def os_a39_0 : List (OP RT) := []
def conv_a39_0 (r : Raw den ps_a39_0 os_a39_0) : (Ye0) × (Int) := ((r.1.1, r.1.2.1.1.1, r.1.2.1.1.2.1, r.1.2.1.1.2.2.1, (e5 r.1).2.2.1), (e5 r.1).2.2.2.1)
def back_a39_0 (c : Ye0) (w : Int) : St RT den := ⟨((.rs c.1.z .i64 c.1.n c.1.f) :: (.fn 82 [(.rptr [(ii c.2.1), (.rs c.2.2.1.z .impl_Backend c.2.2.1.n c.2.2.1.f), (.rs c.2.2.2.1.z .impl_Vip c.2.2.2.1.n c.2.2.2.1.f)])]) :: (qs 5 ((ii c.2.2.2.2) :: (ii w) :: (qs 10 [])))), []⟩
def Bk_a39_0 {ρ : Type} (fu : Nat) (c : Ye0) (k : Ex → St RT den → Option ρ) (w : Int) (go : (Int) → Option ρ) : Option ρ := F_slices_IndexFunc_int64_int64_w_impl_ConfigFault_c1_B0 fu c.1 c.2.1 c.2.2.1 c.2.2.2.1 c.2.2.2.2 (fun a0 => k .ret ⟨(qs 4 ((ii a0) :: (qs 14 []))), []⟩) (k (.exit 0) ⟨(qs 19 []), []⟩) w go
def lp_a39 (fu : Nat) : Lp RT den (Int) := ⟨fun b s k => match b with | 0 => handle ps_a39_0 os_a39_0 conv_a39_0 (Bk_a39_0 fu) fu s k | _ => none, inl0⟩
theorem ev_a39 (fu : Nat) (s_0 : (Sl Int)) (f_1_1 : Int) (f_1_2 : (Sl S_impl_Backend)) (f_1_3 : (Sl S_impl_Vip)) : evFun E (pc_a39 fu) msk_a39 (lp_a39 fu) out_i64 113 [(.rs s_0.z .i64 s_0.n s_0.f), (.fn 82 [(.rptr [(ii f_1_1), (.rs f_1_2.z .impl_Backend f_1_2.n f_1_2.f), (.rs f_1_3.z .impl_Vip f_1_3.n f_1_3.f)])])] = F_slices_IndexFunc_int64_int64_w_impl_ConfigFault_c1 fu s_0 f_1_1 f_1_2 f_1_3 := by kernel_rfl
noncomputable def body_a39 : Code := Try.f113.body.getD .skip
noncomputable def lc_a39_0 : Code := ((loops 0 body_a39).getD 0 (0, .skip)).2
theorem round_a39_0 (fu : Nat) : RoundOk E (pc_a39 fu) msk_a39 (lp_a39 fu) 0 lc_a39_0 back_a39_0 0 100000 0 (Bk_a39_0 fu) := fun it k c w => by kernel_rfl
theorem lpok_a39_0 (fu : Nat) : LpAt E (pc_a39 fu) msk_a39 (lp_a39 fu) 0 0 100000 0 lc_a39_0 :=
 handle_ok (ps := ps_a39_0) (os := os_a39_0) (conv := conv_a39_0) (B := Bk_a39_0 fu) (fu := fu) back_a39_0 (fun raw => by kernel_rfl) 0 (fun c w => by kernel_rfl) (round_a39_0 fu)
theorem lpok_a39 (fu : Nat) : LpOk E (pc_a39 fu) 0 msk_a39 (lp_a39 fu) (loops 0 body_a39) := lp_nil (loop_all 1 (by kernel_rfl) fun i hi => match i, hi with
 | 0, _ => by
  have h : (loops 0 body_a39).getD 0 (0, .skip) = (0, lc_a39_0) := by kernel_rfl
  rw [h]; exact lpok_a39_0 fu
 | i + 1, hi => absurd hi (by omega)) (by kernel_rfl)
def S_a39 (fu : Nat) (xs : List (D RT den)) : Option (Out RT den) := match xs with | [.rs za0_0 .i64 na0_0 fa0_0, .fn 82 [.rptr [.int .i64 a1_0, .rs za1_1 .impl_Backend na1_1 fa1_1, .rs za1_2 .impl_Vip na1_2 fa1_2]]] => some ⟨Int, F_slices_IndexFunc_int64_int64_w_impl_ConfigFault_c1 fu (⟨za0_0, na0_0, fa0_0⟩ : (Sl Int)) a1_0 (⟨za1_1, na1_1, fa1_1⟩ : (Sl S_impl_Backend)) (⟨za1_2, na1_2, fa1_2⟩ : (Sl S_impl_Vip)), enc_i64, fun _ => true⟩ | _ => none
theorem hpc_a39 (fu : Nat) : HpcOk E Try.prog (pcf_a39 fu) := by
 intro f xs o h
 unfold pcf_a39 at h
 split at h
 ·exact good_a38 fu xs o h
 ·cases h
theorem goodv_a39 (fu : Nat) (s_0 : (Sl Int)) (f_1_1 : Int) (f_1_2 : (Sl S_impl_Backend)) (f_1_3 : (Sl S_impl_Vip)) (y : Int) (hy : F_slices_IndexFunc_int64_int64_w_impl_ConfigFault_c1 fu s_0 f_1_1 f_1_2 f_1_3 = some y) : Good E Try.prog 113 [(.rs s_0.z .i64 s_0.n s_0.f), (.fn 82 [(.rptr [(ii f_1_1), (.rs f_1_2.z .impl_Backend f_1_2.n f_1_2.f), (.rs f_1_3.z .impl_Vip f_1_3.n f_1_3.f)])])] (enc_i64 y) :=
 fun_good E_ok (pc_good (pc := pc_a39 fu) (hpc_a39 fu) hpx0) (fn := Try.f113) (by kernel_rfl) (by kernel_rfl) (by kernel_rfl) (lpok_a39 fu) (fun d hd => out_i64_enc d _ hd) ((ev_a39 fu s_0 f_1_1 f_1_2 f_1_3).trans hy)
theorem good_a39 (fu : Nat) : GoodS E Try.prog 113 (S_a39 fu) := by
 intro xs o h y hy
 unfold S_a39 at h
 split at h
 ·rename_i za0_0 na0_0 fa0_0 a1_0 za1_1 na1_1 fa1_1 za1_2 na1_2 fa1_2
  cases h
  exact goodv_a39 fu (⟨za0_0, na0_0, fa0_0⟩ : (Sl Int)) a1_0 (⟨za1_1, na1_1, fa1_1⟩ : (Sl S_impl_Backend)) (⟨za1_2, na1_2, fa1_2⟩ : (Sl S_impl_Vip)) y hy
 ·cases h
def F_slices_ContainsFunc_int64_int64_w_impl_ConfigFault_c1 (fu : Nat) (s_0 : (Sl Int)) (f_1_1 : Int) (f_1_2 : (Sl S_impl_Backend)) (f_1_3 : (Sl S_impl_Vip)) : Option (Bool) :=
 ((F_slices_IndexFunc_int64_int64_w_impl_ConfigFault_c1 fu s_0 f_1_1 f_1_2 f_1_3).bind fun a => (some (decide (a ≥ 0))))
def pcf_b0 (fu f : Nat) (xs : List (D RT den)) : Option (Out RT den) := match f with | 113 => S_a39 fu xs | _ => none
def pc_b0 (fu : Nat) : Pc RT den := ⟨pcf_b0 fu, fun _ => false, fun _ => false, pcd0, pcd0, pcd0, pcx0⟩
def msk_b0 (b : Nat) : List Nat := []
def lp_b0 (fu : Nat) : Lp RT den (Bool) := ⟨fun b s k => none, inl0⟩
theorem ev_b0 (fu : Nat) (s_0 : (Sl Int)) (f_1_1 : Int) (f_1_2 : (Sl S_impl_Backend)) (f_1_3 : (Sl S_impl_Vip)) : evFun E (pc_b0 fu) msk_b0 (lp_b0 fu) out_bo 66 [(.rs s_0.z .i64 s_0.n s_0.f), (.fn 82 [(.rptr [(ii f_1_1), (.rs f_1_2.z .impl_Backend f_1_2.n f_1_2.f), (.rs f_1_3.z .impl_Vip f_1_3.n f_1_3.f)])])] = F_slices_ContainsFunc_int64_int64_w_impl_ConfigFault_c1 fu s_0 f_1_1 f_1_2 f_1_3 := by kernel_rfl
noncomputable def body_b0 : Code := Try.f66.body.getD .skip
theorem lpok_b0 (fu : Nat) : LpOk E (pc_b0 fu) 0 msk_b0 (lp_b0 fu) (loops 0 body_b0) := lp_nil (loop_nil (by kernel_rfl)) (by kernel_rfl)
def S_b0 (fu : Nat) (xs : List (D RT den)) : Option (Out RT den) := match xs with | [.rs za0_0 .i64 na0_0 fa0_0, .fn 82 [.rptr [.int .i64 a1_0, .rs za1_1 .impl_Backend na1_1 fa1_1, .rs za1_2 .impl_Vip na1_2 fa1_2]]] => some ⟨Bool, F_slices_ContainsFunc_int64_int64_w_impl_ConfigFault_c1 fu (⟨za0_0, na0_0, fa0_0⟩ : (Sl Int)) a1_0 (⟨za1_1, na1_1, fa1_1⟩ : (Sl S_impl_Backend)) (⟨za1_2, na1_2, fa1_2⟩ : (Sl S_impl_Vip)), enc_bo, fun _ => true⟩ | _ => none
theorem hpc_b0 (fu : Nat) : HpcOk E Try.prog (pcf_b0 fu) := by
 intro f xs o h
 unfold pcf_b0 at h
 split at h
 ·exact good_a39 fu xs o h
 ·cases h
theorem goodv_b0 (fu : Nat) (s_0 : (Sl Int)) (f_1_1 : Int) (f_1_2 : (Sl S_impl_Backend)) (f_1_3 : (Sl S_impl_Vip)) (y : Bool) (hy : F_slices_ContainsFunc_int64_int64_w_impl_ConfigFault_c1 fu s_0 f_1_1 f_1_2 f_1_3 = some y) : Good E Try.prog 66 [(.rs s_0.z .i64 s_0.n s_0.f), (.fn 82 [(.rptr [(ii f_1_1), (.rs f_1_2.z .impl_Backend f_1_2.n f_1_2.f), (.rs f_1_3.z .impl_Vip f_1_3.n f_1_3.f)])])] (enc_bo y) :=
 fun_good E_ok (pc_good (pc := pc_b0 fu) (hpc_b0 fu) hpx0) (fn := Try.f66) (by kernel_rfl) (by kernel_rfl) (by kernel_rfl) (lpok_b0 fu) (fun d hd => out_bo_enc d _ hd) ((ev_b0 fu s_0 f_1_1 f_1_2 f_1_3).trans hy)
theorem good_b0 (fu : Nat) : GoodS E Try.prog 66 (S_b0 fu) := by
 intro xs o h y hy
 unfold S_b0 at h
 split at h
 ·rename_i za0_0 na0_0 fa0_0 a1_0 za1_1 na1_1 fa1_1 za1_2 na1_2 fa1_2
  cases h
  exact goodv_b0 fu (⟨za0_0, na0_0, fa0_0⟩ : (Sl Int)) a1_0 (⟨za1_1, na1_1, fa1_1⟩ : (Sl S_impl_Backend)) (⟨za1_2, na1_2, fa1_2⟩ : (Sl S_impl_Vip)) y hy
 ·cases h
def F_impl_ConfigFault_B1 {ρ : Type} (fu : Nat) (t25_0 : (Sl S_impl_Backend)) (t26_1 o0_3 : Int) (o0_4 : (Sl S_impl_Backend)) (o0_5 : (Sl S_impl_Vip)) (k0 : Int → Int → Int → Int → Bool → Option ρ) (k1 : Int → Int → Int → Int → Bool → Option ρ) (k2 : Option ρ) (t27_2 : Int) (go : Int → Option ρ) : Option ρ :=
 (bif (decide (t27_2 < t26_1)) then ((bif (decide (0 ≤ t27_2) && decide ((Int.toNat t27_2) < t25_0.n)) then some () else none : Option Unit).bind fun _ => ((F_impl_isBackend fu (t25_0.f (Int.toNat t27_2))).bind fun a =>
  (bif (!a) then (k0 (t25_0.f (Int.toNat t27_2)).Name (t25_0.f (Int.toNat t27_2)).Address (t25_0.f (Int.toNat t27_2)).Weight (t25_0.f (Int.toNat t27_2)).Stage (t25_0.f (Int.toNat t27_2)).Up) else
  (((bif (decide (t27_2 > 0)) then ((bif (decide (0 ≤ (IntKind.wrap .i64 (t27_2 - 1))) && decide ((Int.toNat (IntKind.wrap .i64 (t27_2 - 1))) < o0_4.n)) then some () else none : Option Unit).bind fun _ =>
  (some (decide ((t25_0.f (Int.toNat t27_2)).Name ≤ (o0_4.f (Int.toNat (IntKind.wrap .i64 (t27_2 - 1)))).Name)))) else (some false)) : Option Bool).bind fun b => (bif b then
  (k1 (t25_0.f (Int.toNat t27_2)).Name (t25_0.f (Int.toNat t27_2)).Address (t25_0.f (Int.toNat t27_2)).Weight (t25_0.f (Int.toNat t27_2)).Stage (t25_0.f (Int.toNat t27_2)).Up) else
  (go (IntKind.wrap .i64 (t27_2 + 1)))))))) else k2)
def F_impl_ConfigFault_B5 {ρ : Type} (fu : Nat) (t51_1 : (Sl S_impl_Vip)) (t52_2 t53_3 o0_4 : Int) (o0_5 : (Sl S_impl_Backend)) (o0_6 : (Sl S_impl_Vip)) (o1_7 o1_8 o1_9 : Int) (o1_10 : (Sl Int)) (k0 : Option ρ) (k1 : Option ρ) (k7_0 : Int) (go : Int → Option ρ) : Option ρ :=
 (bif (decide (k7_0 < ((o1_10.n : Nat) : Int))) then ((bif (decide (0 ≤ k7_0) && decide ((Int.toNat k7_0) < o1_10.n)) then some () else none : Option Unit).bind fun _ => ((bif (decide (0 ≤ (IntKind.wrap .i64 (k7_0 - 1))) &&
  decide ((Int.toNat (IntKind.wrap .i64 (k7_0 - 1))) < o1_10.n)) then some () else none : Option Unit).bind fun _ => (bif (decide ((o1_10.f (Int.toNat k7_0)) ≤ (o1_10.f (Int.toNat (IntKind.wrap .i64 (k7_0 - 1)))))) then
  k0 else (go (IntKind.wrap .i64 (k7_0 + 1)))))) else k1)
def F_impl_ConfigFault_B3 {ρ : Type} (fu : Nat) (t51_0 : (Sl S_impl_Vip)) (t52_1 o0_3 : Int) (o0_4 : (Sl S_impl_Backend)) (o0_5 : (Sl S_impl_Vip)) (k0 : Int → Int → Int → (Sl Int) → Option ρ) (k1 : Int → Int → Int → (Sl Int) → Option ρ) (k2 : Int → Int → Int → (Sl Int) → Option ρ) (k3 : Option ρ) (t53_2 : Int) (go : Int → Option ρ) : Option ρ :=
 (bif (decide (t53_2 < t52_1)) then ((bif (decide (0 ≤ t53_2) && decide ((Int.toNat t53_2) < t51_0.n)) then some () else none : Option Unit).bind fun _ => ((((F_impl_isAddress fu (t51_0.f (Int.toNat t53_2)).Address).bind fun a =>
  (bif (!a) then (some true) else ((F_impl_isPort fu (t51_0.f (Int.toNat t53_2)).Port).bind fun b => (bif (!b) then (some true) else ((F_impl_isProto fu (t51_0.f (Int.toNat t53_2)).Proto).bind fun d =>
  (some (!d))))))) : Option Bool).bind fun g => (bif g then (k0 (t51_0.f (Int.toNat t53_2)).Address (t51_0.f (Int.toNat t53_2)).Port (t51_0.f (Int.toNat t53_2)).Proto (t51_0.f (Int.toNat t53_2)).Names) else
  (((bif (decide (t53_2 > 0)) then ((bif (decide (0 ≤ (IntKind.wrap .i64 (t53_2 - 1))) && decide ((Int.toNat (IntKind.wrap .i64 (t53_2 - 1))) < o0_5.n)) then some () else none : Option Unit).bind fun _ =>
  ((F_impl_compareVip fu (o0_5.f (Int.toNat (IntKind.wrap .i64 (t53_2 - 1)))) (t51_0.f (Int.toNat t53_2))).bind fun h => (some (decide (h ≥ 0))))) else (some false)) : Option Bool).bind fun j =>
  (bif j then (k1 (t51_0.f (Int.toNat t53_2)).Address (t51_0.f (Int.toNat t53_2)).Port (t51_0.f (Int.toNat t53_2)).Proto (t51_0.f (Int.toNat t53_2)).Names) else
  ((F_slices_ContainsFunc_int64_int64_w_impl_ConfigFault_c1 fu (t51_0.f (Int.toNat t53_2)).Names o0_3 o0_4 o0_5).bind fun l => (bif l then (k2 (t51_0.f (Int.toNat t53_2)).Address (t51_0.f (Int.toNat t53_2)).Port (t51_0.f (Int.toNat t53_2)).Proto (t51_0.f (Int.toNat t53_2)).Names) else
  (L (fun w5 go5 => F_impl_ConfigFault_B5 fu t51_0 t52_1 t53_2 o0_3 o0_4 o0_5 ((t51_0.f (Int.toNat t53_2)).Address) ((t51_0.f (Int.toNat t53_2)).Port) ((t51_0.f (Int.toNat t53_2)).Proto) ((t51_0.f (Int.toNat t53_2)).Names) ((k1 (t51_0.f (Int.toNat t53_2)).Address (t51_0.f (Int.toNat t53_2)).Port (t51_0.f (Int.toNat t53_2)).Proto (t51_0.f (Int.toNat t53_2)).Names)) ((go (IntKind.wrap .i64 (t53_2 + 1)))) w5 go5) fu (1 : Int))))))))) else
  k3)
def F_impl_ConfigFault (fu : Nat) (c_0 : S_impl_Config) : Option (Int) :=
 ((F_impl_in fu c_0.Version 0 1000000).bind fun a => (bif (!a) then (some 3) else (((bif (decide (((c_0.Backends.n : Nat) : Int) > 8)) then (some true) else (some (decide (((c_0.Vips.n : Nat) : Int) > 4)))) : Option Bool).bind fun b =>
  (bif b then (some 2) else (L (fun w1 go1 => F_impl_ConfigFault_B1 fu c_0.Backends ((c_0.Backends.n : Nat) : Int) c_0.Version c_0.Backends c_0.Vips (fun d g h j l =>
  (some 3)) (fun o p q r t => (some 1)) (L (fun w3 go3 => F_impl_ConfigFault_B3 fu c_0.Vips ((c_0.Vips.n : Nat) : Int) c_0.Version c_0.Backends c_0.Vips (fun u v w y0 =>
  (some 3)) (fun y1 y2 y3 y4 => (some 1)) (fun y5 y6 y7 y8 => (some 4)) (some 0) w3 go3) fu (0 : Int)) w1 go1) fu (0 : Int))))))
def pcf_b1 (fu f : Nat) (xs : List (D RT den)) : Option (Out RT den) := match f with | 63 => S_a27 fu xs | 66 => S_b0 fu xs | 77 => S_a25 fu xs | 78 => S_a28 fu xs | 79 => S_a29 fu xs | 80 => S_a30 fu xs | 81 => S_a34 fu xs | _ => none
def pc_b1 (fu : Nat) : Pc RT den := ⟨pcf_b1 fu, fun _ => false, fun _ => false, pcd0, pcd0, pcd0, pcx0⟩
def msk_b1 (b : Nat) : List Nat := match b with | 1 => (0 :: (rg 2 23 (rg 28 83 []))) | 100001 => (0 :: (rg 3 108 [])) | 3 => (0 :: (rg 2 49 (rg 54 57 []))) | 100003 => (0 :: 1 :: (rg 3 108 [])) | 5 => (0 :: 2 :: 3 :: 4 :: 5 :: (rg 8 43 (rg 54 57 []))) | 100005 => (0 :: (rg 3 48 (rg 54 57 []))) | 200003 => [13] | 200010 => [48] | 200016 => [73] | 200018 => [86] | _ => []
def ps_b1_1 : List (Pat RT) := (.flat .q :: .flat (.ref 0 0) :: (fq 23 (.flat (.rs .impl_Backend) :: .flat (.int .i64) :: .flat (.int .i64) :: (fq 83 []))))
def os_b1_1 : List (OP RT) := [.box false [(.int .i64), (.rs .impl_Backend), (.rs .impl_Vip)]]
def conv_b1_1 (r : Raw den ps_b1_1 os_b1_1) : (Ye2) × (Int) := (((e5 (e20 r.1)).1, (e5 (e20 r.1)).2.1, r.2.1.1, r.2.1.2.1, r.2.1.2.2.1), (e5 (e20 r.1)).2.2.1)
def back_b1_1 (c : Ye2) (w : Int) : St RT den := ⟨(.q :: (.ref 0 0) :: (qs 23 ((.rs c.1.z .impl_Backend c.1.n c.1.f) :: (ii c.2.1) :: (ii w) :: (qs 83 [])))), [(.box false [(ii c.2.2.1), (.rs c.2.2.2.1.z .impl_Backend c.2.2.2.1.n c.2.2.2.1.f), (.rs c.2.2.2.2.z .impl_Vip c.2.2.2.2.n c.2.2.2.2.f)])]⟩
def Bk_b1_1 {ρ : Type} (fu : Nat) (c : Ye2) (k : Ex → St RT den → Option ρ) (w : Int) (go : (Int) → Option ρ) : Option ρ := F_impl_ConfigFault_B1 fu c.1 c.2.1 c.2.2.1 c.2.2.2.1 c.2.2.2.2 (fun a0 a1 a2 a3 a4 => k .ret ⟨(.q :: (.ref 0 0) :: (ii 3) :: (qs 108 [])), [(.box false [(ii c.2.2.1), (.rs c.2.2.2.1.z .impl_Backend c.2.2.2.1.n c.2.2.2.1.f), (.rs c.2.2.2.2.z .impl_Vip c.2.2.2.2.n c.2.2.2.2.f)]), (.box false [(ii a0), (ii a1), (ii a2), (ii a3), (.bool a4)])]⟩) (fun a0 a1 a2 a3 a4 => k .ret ⟨(.q :: (.ref 0 0) :: (ii 1) :: (qs 108 [])), [(.box false [(ii c.2.2.1), (.rs c.2.2.2.1.z .impl_Backend c.2.2.2.1.n c.2.2.2.1.f), (.rs c.2.2.2.2.z .impl_Vip c.2.2.2.2.n c.2.2.2.2.f)]), (.box false [(ii a0), (ii a1), (ii a2), (ii a3), (.bool a4)])]⟩) (k (.exit 1) ⟨(.q :: (.ref 0 0) :: (qs 109 [])), [(.box false [(ii c.2.2.1), (.rs c.2.2.2.1.z .impl_Backend c.2.2.2.1.n c.2.2.2.1.f), (.rs c.2.2.2.2.z .impl_Vip c.2.2.2.2.n c.2.2.2.2.f)])]⟩) w go
def ps_b1_5 : List (Pat RT) := (.flat .q :: .flat (.ref 0 0) :: (fq 4 (.flat (.ref 1 0) :: .flat (.int .i64) :: (fq 43 (.flat (.rs .impl_Vip) :: .flat (.int .i64) :: .flat (.int .i64) :: (fq 57 []))))))
def os_b1_5 : List (OP RT) := [.box false [(.int .i64), (.rs .impl_Backend), (.rs .impl_Vip)], .box false [(.int .i64), (.int .i64), (.int .i64), (.rs .i64)]]
def conv_b1_5 (r : Raw den ps_b1_5 os_b1_5) : (Ye3) × (Int) := (((e10 (e40 r.1)).2.1, (e10 (e40 r.1)).2.2.1, (e10 (e40 r.1)).2.2.2.1, r.2.1.1, r.2.1.2.1, r.2.1.2.2.1, r.2.2.1.1, r.2.2.1.2.1, r.2.2.1.2.2.1, r.2.2.1.2.2.2.1), (e5 r.1).2.2.1)
def back_b1_5 (c : Ye3) (w : Int) : St RT den := ⟨(.q :: (.ref 0 0) :: (qs 4 ((.ref 1 0) :: (ii w) :: (qs 43 ((.rs c.1.z .impl_Vip c.1.n c.1.f) :: (ii c.2.1) :: (ii c.2.2.1) :: (qs 57 [])))))), [(.box false [(ii c.2.2.2.1), (.rs c.2.2.2.2.1.z .impl_Backend c.2.2.2.2.1.n c.2.2.2.2.1.f), (.rs (e5 c).1.z .impl_Vip (e5 c).1.n (e5 c).1.f)]), (.box false [(ii (e5 c).2.1), (ii (e5 c).2.2.1), (ii (e5 c).2.2.2.1), (.rs (e5 c).2.2.2.2.z .i64 (e5 c).2.2.2.2.n (e5 c).2.2.2.2.f)])]⟩
def Bk_b1_5 {ρ : Type} (fu : Nat) (c : Ye3) (k : Ex → St RT den → Option ρ) (w : Int) (go : (Int) → Option ρ) : Option ρ := F_impl_ConfigFault_B5 fu c.1 c.2.1 c.2.2.1 c.2.2.2.1 c.2.2.2.2.1 (e5 c).1 (e5 c).2.1 (e5 c).2.2.1 (e5 c).2.2.2.1 (e5 c).2.2.2.2 (k .ret ⟨(.q :: (.ref 0 0) :: (ii 1) :: (qs 48 ((.rs c.1.z .impl_Vip c.1.n c.1.f) :: (ii c.2.1) :: (ii c.2.2.1) :: (qs 57 [])))), [(.box false [(ii c.2.2.2.1), (.rs c.2.2.2.2.1.z .impl_Backend c.2.2.2.2.1.n c.2.2.2.2.1.f), (.rs (e5 c).1.z .impl_Vip (e5 c).1.n (e5 c).1.f)]), (.box false [(ii (e5 c).2.1), (ii (e5 c).2.2.1), (ii (e5 c).2.2.2.1), (.rs (e5 c).2.2.2.2.z .i64 (e5 c).2.2.2.2.n (e5 c).2.2.2.2.f)])]⟩) (k (.exit 5) ⟨(.q :: (.ref 0 0) :: (qs 49 ((.rs c.1.z .impl_Vip c.1.n c.1.f) :: (ii c.2.1) :: (ii c.2.2.1) :: (qs 57 [])))), [(.box false [(ii c.2.2.2.1), (.rs c.2.2.2.2.1.z .impl_Backend c.2.2.2.2.1.n c.2.2.2.2.1.f), (.rs (e5 c).1.z .impl_Vip (e5 c).1.n (e5 c).1.f)]), (.box false [(ii (e5 c).2.1), (ii (e5 c).2.2.1), (ii (e5 c).2.2.2.1), (.rs (e5 c).2.2.2.2.z .i64 (e5 c).2.2.2.2.n (e5 c).2.2.2.2.f)])]⟩) w go
def ps_b1_3 : List (Pat RT) := (.flat .q :: .flat (.ref 0 0) :: (fq 49 (.flat (.rs .impl_Vip) :: .flat (.int .i64) :: .flat (.int .i64) :: (fq 57 []))))
def os_b1_3 : List (OP RT) := [.box false [(.int .i64), (.rs .impl_Backend), (.rs .impl_Vip)]]
def conv_b1_3 (r : Raw den ps_b1_3 os_b1_3) : (Ye1) × (Int) := (((e10 (e40 r.1)).2.1, (e10 (e40 r.1)).2.2.1, r.2.1.1, r.2.1.2.1, r.2.1.2.2.1), (e10 (e40 r.1)).2.2.2.1)
def back_b1_3 (c : Ye1) (w : Int) : St RT den := ⟨(.q :: (.ref 0 0) :: (qs 49 ((.rs c.1.z .impl_Vip c.1.n c.1.f) :: (ii c.2.1) :: (ii w) :: (qs 57 [])))), [(.box false [(ii c.2.2.1), (.rs c.2.2.2.1.z .impl_Backend c.2.2.2.1.n c.2.2.2.1.f), (.rs c.2.2.2.2.z .impl_Vip c.2.2.2.2.n c.2.2.2.2.f)])]⟩
def Bk_b1_3 {ρ : Type} (fu : Nat) (c : Ye1) (k : Ex → St RT den → Option ρ) (w : Int) (go : (Int) → Option ρ) : Option ρ := F_impl_ConfigFault_B3 fu c.1 c.2.1 c.2.2.1 c.2.2.2.1 c.2.2.2.2 (fun a0 a1 a2 a3 => k .ret ⟨(.q :: .q :: (ii 3) :: (qs 108 [])), [(.box false [(ii c.2.2.1), (.rs c.2.2.2.1.z .impl_Backend c.2.2.2.1.n c.2.2.2.1.f), (.rs c.2.2.2.2.z .impl_Vip c.2.2.2.2.n c.2.2.2.2.f)]), (.box false [(ii a0), (ii a1), (ii a2), (.rs a3.z .i64 a3.n a3.f)])]⟩) (fun a0 a1 a2 a3 => k .ret ⟨(.q :: .q :: (ii 1) :: (qs 108 [])), [(.box false [(ii c.2.2.1), (.rs c.2.2.2.1.z .impl_Backend c.2.2.2.1.n c.2.2.2.1.f), (.rs c.2.2.2.2.z .impl_Vip c.2.2.2.2.n c.2.2.2.2.f)]), (.box false [(ii a0), (ii a1), (ii a2), (.rs a3.z .i64 a3.n a3.f)])]⟩) (fun a0 a1 a2 a3 => k .ret ⟨(.q :: .q :: (ii 4) :: (qs 108 [])), [(.box false [(ii c.2.2.1), (.rs c.2.2.2.1.z .impl_Backend c.2.2.2.1.n c.2.2.2.1.f), (.rs c.2.2.2.2.z .impl_Vip c.2.2.2.2.n c.2.2.2.2.f)]), (.box false [(ii a0), (ii a1), (ii a2), (.rs a3.z .i64 a3.n a3.f)])]⟩) (k (.exit 3) ⟨(qs 111 []), [(.box false [(ii c.2.2.1), (.rs c.2.2.2.1.z .impl_Backend c.2.2.2.1.n c.2.2.2.1.f), (.rs c.2.2.2.2.z .impl_Vip c.2.2.2.2.n c.2.2.2.2.f)])]⟩) w go
def lp_b1 (fu : Nat) : Lp RT den (Int) := ⟨fun b s k => match b with | 1 => handle ps_b1_1 os_b1_1 conv_b1_1 (Bk_b1_1 fu) fu s k | 3 => handle ps_b1_3 os_b1_3 conv_b1_3 (Bk_b1_3 fu) fu s k | 5 => handle ps_b1_5 os_b1_5 conv_b1_5 (Bk_b1_5 fu) fu s k | _ => none, inl0⟩
theorem ev_b1 (fu : Nat) (c_0 : S_impl_Config) : evFun E (pc_b1 fu) msk_b1 (lp_b1 fu) out_i64 35 [(.agg [(ii c_0.Version), (.rs c_0.Backends.z .impl_Backend c_0.Backends.n c_0.Backends.f), (.rs c_0.Vips.z .impl_Vip c_0.Vips.n c_0.Vips.f)])] = F_impl_ConfigFault fu c_0 := by kernel_rfl
noncomputable def body_b1 : Code := Try.f35.body.getD .skip
noncomputable def lc_b1_1 : Code := ((loops 0 body_b1).getD 0 (0, .skip)).2
theorem round_b1_1 (fu : Nat) : RoundOk E (pc_b1 fu) msk_b1 (lp_b1 fu) 1 lc_b1_1 back_b1_1 1 100001 1 (Bk_b1_1 fu) := fun it k c w => by kernel_rfl
theorem lpok_b1_1 (fu : Nat) : LpAt E (pc_b1 fu) msk_b1 (lp_b1 fu) 1 1 100001 1 lc_b1_1 :=
 handle_ok (ps := ps_b1_1) (os := os_b1_1) (conv := conv_b1_1) (B := Bk_b1_1 fu) (fu := fu) back_b1_1 (fun raw => by kernel_rfl) 1 (fun c w => by kernel_rfl) (round_b1_1 fu)
noncomputable def lc_b1_3 : Code := ((loops 0 body_b1).getD 1 (0, .skip)).2
theorem round_b1_3 (fu : Nat) : RoundOk E (pc_b1 fu) msk_b1 (lp_b1 fu) 3 lc_b1_3 back_b1_3 3 100003 1 (Bk_b1_3 fu) := fun it k c w => by kernel_rfl
theorem lpok_b1_3 (fu : Nat) : LpAt E (pc_b1 fu) msk_b1 (lp_b1 fu) 3 3 100003 3 lc_b1_3 :=
 handle_ok (ps := ps_b1_3) (os := os_b1_3) (conv := conv_b1_3) (B := Bk_b1_3 fu) (fu := fu) back_b1_3 (fun raw => by kernel_rfl) 1 (fun c w => by kernel_rfl) (round_b1_3 fu)
noncomputable def lc_b1_5 : Code := ((loops 0 body_b1).getD 2 (0, .skip)).2
theorem round_b1_5 (fu : Nat) : RoundOk E (pc_b1 fu) msk_b1 (lp_b1 fu) 5 lc_b1_5 back_b1_5 5 100005 2 (Bk_b1_5 fu) := fun it k c w => by kernel_rfl
theorem lpok_b1_5 (fu : Nat) : LpAt E (pc_b1 fu) msk_b1 (lp_b1 fu) 5 5 100005 5 lc_b1_5 :=
 handle_ok (ps := ps_b1_5) (os := os_b1_5) (conv := conv_b1_5) (B := Bk_b1_5 fu) (fu := fu) back_b1_5 (fun raw => by kernel_rfl) 2 (fun c w => by kernel_rfl) (round_b1_5 fu)
theorem lpok_b1 (fu : Nat) : LpOk E (pc_b1 fu) 0 msk_b1 (lp_b1 fu) (loops 0 body_b1) := lp_nil (loop_all 3 (by kernel_rfl) fun i hi => match i, hi with
 | 0, _ => by
  have h : (loops 0 body_b1).getD 0 (0, .skip) = (1, lc_b1_1) := by kernel_rfl
  rw [h]; exact lpok_b1_1 fu
 | 1, _ => by
  have h : (loops 0 body_b1).getD 1 (0, .skip) = (3, lc_b1_3) := by kernel_rfl
  rw [h]; exact lpok_b1_3 fu
 | 2, _ => by
  have h : (loops 0 body_b1).getD 2 (0, .skip) = (5, lc_b1_5) := by kernel_rfl
  rw [h]; exact lpok_b1_5 fu
 | i + 3, hi => absurd hi (by omega)) (by kernel_rfl)
def S_b1 (fu : Nat) (xs : List (D RT den)) : Option (Out RT den) := match xs with | [.agg [.int .i64 a0_1, .rs za0_2 .impl_Backend na0_2 fa0_2, .rs za0_3 .impl_Vip na0_3 fa0_3]] => some ⟨Int, F_impl_ConfigFault fu (⟨a0_1, (⟨za0_2, na0_2, fa0_2⟩ : (Sl S_impl_Backend)), (⟨za0_3, na0_3, fa0_3⟩ : (Sl S_impl_Vip))⟩ : S_impl_Config), enc_i64, fun _ => true⟩ | _ => none
theorem hpc_b1 (fu : Nat) : HpcOk E Try.prog (pcf_b1 fu) := by
 intro f xs o h
 unfold pcf_b1 at h
 split at h
 ·exact good_a27 fu xs o h
 ·exact good_b0 fu xs o h
 ·exact good_a25 fu xs o h
 ·exact good_a28 fu xs o h
 ·exact good_a29 fu xs o h
 ·exact good_a30 fu xs o h
 ·exact good_a34 fu xs o h
 ·cases h
theorem goodv_b1 (fu : Nat) (c_0 : S_impl_Config) (y : Int) (hy : F_impl_ConfigFault fu c_0 = some y) : Good E Try.prog 35 [(.agg [(ii c_0.Version), (.rs c_0.Backends.z .impl_Backend c_0.Backends.n c_0.Backends.f), (.rs c_0.Vips.z .impl_Vip c_0.Vips.n c_0.Vips.f)])] (enc_i64 y) :=
 fun_good E_ok (pc_good (pc := pc_b1 fu) (hpc_b1 fu) hpx0) (fn := Try.f35) (by kernel_rfl) (by kernel_rfl) (by kernel_rfl) (lpok_b1 fu) (fun d hd => out_i64_enc d _ hd) ((ev_b1 fu c_0).trans hy)
theorem good_b1 (fu : Nat) : GoodS E Try.prog 35 (S_b1 fu) := by
 intro xs o h y hy
 unfold S_b1 at h
 split at h
 ·rename_i a0_1 za0_2 na0_2 fa0_2 za0_3 na0_3 fa0_3
  cases h
  exact goodv_b1 fu (⟨a0_1, (⟨za0_2, na0_2, fa0_2⟩ : (Sl S_impl_Backend)), (⟨za0_3, na0_3, fa0_3⟩ : (Sl S_impl_Vip))⟩ : S_impl_Config) y hy
 ·cases h
def F_bytes_Equal (fu : Nat) (a_0 b_1 : (Sl Int)) : Option (Bool) :=
 (some (ByteArray.toList (bytesOf a_0.n (fun i => (a_0.f i))) == ByteArray.toList (bytesOf b_1.n (fun i => (b_1.f i)))))
def pc_b2 (fu : Nat) : Pc RT den := ⟨pcf0, fun _ => false, fun _ => false, pcd0, pcd0, pcd0, pcx0⟩
def msk_b2 (b : Nat) : List Nat := []
def lp_b2 (fu : Nat) : Lp RT den (Bool) := ⟨fun b s k => none, inl0⟩
theorem ev_b2 (fu : Nat) (a_0 b_1 : (Sl Int)) : evFun E (pc_b2 fu) msk_b2 (lp_b2 fu) out_bo 36 [(.rs a_0.z .u8 a_0.n a_0.f), (.rs b_1.z .u8 b_1.n b_1.f)] = F_bytes_Equal fu a_0 b_1 := by kernel_rfl
noncomputable def body_b2 : Code := Try.f36.body.getD .skip
theorem lpok_b2 (fu : Nat) : LpOk E (pc_b2 fu) 0 msk_b2 (lp_b2 fu) (loops 0 body_b2) := lp_nil (loop_nil (by kernel_rfl)) (by kernel_rfl)
def S_b2 (fu : Nat) (xs : List (D RT den)) : Option (Out RT den) := match xs with | [.rs za0_0 .u8 na0_0 fa0_0, .rs za1_0 .u8 na1_0 fa1_0] => some ⟨Bool, F_bytes_Equal fu (⟨za0_0, na0_0, fa0_0⟩ : (Sl Int)) (⟨za1_0, na1_0, fa1_0⟩ : (Sl Int)), enc_bo, fun _ => true⟩ | _ => none
theorem goodv_b2 (fu : Nat) (a_0 b_1 : (Sl Int)) (y : Bool) (hy : F_bytes_Equal fu a_0 b_1 = some y) : Good E Try.prog 36 [(.rs a_0.z .u8 a_0.n a_0.f), (.rs b_1.z .u8 b_1.n b_1.f)] (enc_bo y) :=
 fun_good E_ok (pc_good (pc := pc_b2 fu) hpc0 hpx0) (fn := Try.f36) (by kernel_rfl) (by kernel_rfl) (by kernel_rfl) (lpok_b2 fu) (fun d hd => out_bo_enc d _ hd) ((ev_b2 fu a_0 b_1).trans hy)
theorem good_b2 (fu : Nat) : GoodS E Try.prog 36 (S_b2 fu) := by
 intro xs o h y hy
 unfold S_b2 at h
 split at h
 ·rename_i za0_0 na0_0 fa0_0 za1_0 na1_0 fa1_0
  cases h
  exact goodv_b2 fu (⟨za0_0, na0_0, fa0_0⟩ : (Sl Int)) (⟨za1_0, na1_0, fa1_0⟩ : (Sl Int)) y hy
 ·cases h
end Go.Proofs.Ytcmfekgdlaffkaa.Pq
