/- The functions' evaluated forms, each a proved summary. Conditions: none. -/
import Derived.Test.YtcmfekgdlaffkaaPcF3
namespace Go.Proofs.Ytcmfekgdlaffkaa.Pc
open Go Go.RowKit Go.Proofs Vm
set_option linter.unusedVariables false
set_option linter.unusedSimpArgs false
set_option maxRecDepth 100000
abbrev Ye0 : Type := Int × Nat × (Nat → S_impl_Backend) × Nat × Nat × (Nat → S_impl_Vip)
def F_laws_markVipS_U_B0 {ρ : Type} (fu a0_0 on0_3 op0_4 : Nat) (k0 : Int → (Nat → S_impl_Vip) → Option ρ) (k1_1 i5_2 : Int) (of0_5 : (Nat → S_impl_Vip)) (go : Int → Int → (Nat → S_impl_Vip) → Option ρ) : Option ρ :=
 (bif (decide (i5_2 < ((a0_0 : Nat) : Int))) then ((bif (decide (0 ≤ i5_2) && decide ((Int.toNat i5_2) < a0_0)) then some () else none : Option Unit).bind fun _ => ((bif (decide (0 ≤ i5_2) &&
  decide ((Int.toNat i5_2) < a0_0)) then some () else none : Option Unit).bind fun _ => ((bif (decide (0 ≤ i5_2) && decide ((Int.toNat i5_2) < a0_0)) then some () else none : Option Unit).bind fun _ =>
  ((bif (decide (0 ≤ i5_2) && decide ((Int.toNat i5_2) < a0_0)) then some () else none : Option Unit).bind fun _ => ((bif (decide ((Int.toNat i5_2) < op0_4)) then some () else
  none : Option Unit).bind fun _ => (bif (decide ((Int.toNat i5_2) < op0_4) && true) then ((F_laws_markInt64S_U fu (((upd_impl_Vip_2_1 (upd_impl_Vip_1_1 (upd_impl_Vip_0_1 of0_5 (Int.toNat i5_2) k1_1) (Int.toNat i5_2) (IntKind.wrap .i64 (k1_1 + 1))) (Int.toNat i5_2) (IntKind.wrap .i64 ((IntKind.wrap .i64 (k1_1 + 1)) + 1))) (Int.toNat i5_2)).Names.n) (IntKind.wrap .i64 ((IntKind.wrap .i64 ((IntKind.wrap .i64 (k1_1 + 1)) + 1)) + 1)) (((upd_impl_Vip_2_1 (upd_impl_Vip_1_1 (upd_impl_Vip_0_1 of0_5 (Int.toNat i5_2) k1_1) (Int.toNat i5_2) (IntKind.wrap .i64 (k1_1 + 1))) (Int.toNat i5_2) (IntKind.wrap .i64 ((IntKind.wrap .i64 (k1_1 + 1)) + 1))) (Int.toNat i5_2)).Names.n) (((upd_impl_Vip_2_1 (upd_impl_Vip_1_1 (upd_impl_Vip_0_1 of0_5 (Int.toNat i5_2) k1_1) (Int.toNat i5_2) (IntKind.wrap .i64 (k1_1 + 1))) (Int.toNat i5_2) (IntKind.wrap .i64 ((IntKind.wrap .i64 (k1_1 + 1)) + 1))) (Int.toNat i5_2)).Names.f)).bind fun y445 =>
  (go y445.1 (IntKind.wrap .i64 (i5_2 + 1)) (upd_impl_Vip_3_1 (upd_impl_Vip_2_1 (upd_impl_Vip_1_1 (upd_impl_Vip_0_1 of0_5 (Int.toNat i5_2) k1_1) (Int.toNat i5_2) (IntKind.wrap .i64 (k1_1 + 1))) (Int.toNat i5_2) (IntKind.wrap .i64 ((IntKind.wrap .i64 (k1_1 + 1)) + 1))) (Int.toNat i5_2) (⟨none,
  ((upd_impl_Vip_2_1 (upd_impl_Vip_1_1 (upd_impl_Vip_0_1 of0_5 (Int.toNat i5_2) k1_1) (Int.toNat i5_2) (IntKind.wrap .i64 (k1_1 + 1))) (Int.toNat i5_2) (IntKind.wrap .i64 ((IntKind.wrap .i64 (k1_1 + 1)) + 1))) (Int.toNat i5_2)).Names.n,
  y445.2.2⟩ : (Sl Int))))) else none)))))) else (k0 k1_1 of0_5))
def F_laws_markVipS_U (fu a_0_0 : Nat) (k_1 : Int) (dn0 dp0 : Nat) (df0 : (Nat → S_impl_Vip)) : Option (Int × Nat × Nat × (Nat → S_impl_Vip)) :=
 (L (fun w0 go0 => F_laws_markVipS_U_B0 fu a_0_0 dn0 dp0 (fun z446 z447 => (some (z446, dn0, dp0, z447))) w0.1 w0.2.1 w0.2.2 (fun q0 q1 q2 => go0 (q0, q1, q2))) fu ((k_1, 0, df0) : Int × Int × (Nat → S_impl_Vip)))
def pcx_b3 (fu f : Nat) (xs : List (D RT den)) (ins : List (Ob RT den)) : Option (OutX RT den) := match f with | 124 => S_b2 fu xs ins | _ => none
def pcd_b3 : Nat → Bool := fun f => match f with | 124 => true | _ => false
def pc_b3 (fu : Nat) : Pc RT den := ⟨pcf0, fun f => match f with | 124 => true | _ => false, fun f => match f with | 124 => true | _ => false, pcd_b3, pcd0, pcd0, pcx_b3 fu⟩
def msk_b3 (b : Nat) : List Nat := match b with | 0 => (2 :: 3 :: 4 :: (rg 6 35 [])) | 100000 => (0 :: 2 :: 3 :: (rg 5 36 [])) | _ => []
def ps_b3_0 : List (Pat RT) := (.flat (.os 0) :: .flat (.int .i64) :: .flat .q :: .flat .q :: .flat .q :: .flat (.int .i64) :: (fq 35 []))
def os_b3_0 : List (OP RT) := [.deep true .impl_Vip]
def conv_b3_0 (r : Raw den ps_b3_0 os_b3_0) : (Nat × Nat × Nat) × (Int × Int × (Nat → S_impl_Vip)) := ((r.1.1, r.2.1.1, r.2.1.2.1), (r.1.2.1, (e5 r.1).1, r.2.1.2.2))
def back_b3_0 (c : Nat × Nat × Nat) (w : Int × Int × (Nat → S_impl_Vip)) : St RT den := ⟨((.os 0 c.1) :: (ii w.1) :: .q :: .q :: .q :: (ii w.2.1) :: (qs 35 [])), [(.deep true .impl_Vip c.2.1 c.2.2 w.2.2)]⟩
def Bk_b3_0 {ρ : Type} (fu : Nat) (c : Nat × Nat × Nat) (k : Ex → St RT den → Option ρ) (w : Int × Int × (Nat → S_impl_Vip)) (go : (Int × Int × (Nat → S_impl_Vip)) → Option ρ) : Option ρ := F_laws_markVipS_U_B0 fu c.1 c.2.1 c.2.2 (fun a0 a1 => k (.exit 0) ⟨(.q :: (ii a0) :: (qs 39 [])), [(.deep true .impl_Vip c.2.1 c.2.2 a1)]⟩) w.1 w.2.1 w.2.2 (fun q0 q1 q2 => go (q0, q1, q2))
def lp_b3 (fu : Nat) : Lp RT den (Int × Nat × Nat × (Nat → S_impl_Vip)) := ⟨fun b s k => match b with | 0 => handle ps_b3_0 os_b3_0 conv_b3_0 (Bk_b3_0 fu) fu s k | _ => none, inl0⟩
def pso_b3 : List (Pat RT) := [.flat (.int .i64)]
def oso_b3 : List (OP RT) := [.deep true .impl_Vip]
def conv_b3 (r : Raw den pso_b3 oso_b3) : Int × Nat × Nat × (Nat → S_impl_Vip) := (r.1.1, r.2.1.1, r.2.1.2.1, r.2.1.2.2)
def enc_b3 (y : Int × Nat × Nat × (Nat → S_impl_Vip)) : D RT den × List (Ob RT den) := ((.int .i64 y.1), [(.deep true .impl_Vip y.2.1 y.2.2.1 y.2.2.2)])
def out_b3 (d : D RT den) (os : List (Ob RT den)) : Option (Int × Nat × Nat × (Nat → S_impl_Vip)) := (unSt pso_b3 oso_b3 ⟨[d], os⟩).bind fun v => some (conv_b3 v.1)
theorem out_b3_enc (d : D RT den) (os : List (Ob RT den)) (y : Int × Nat × Nat × (Nat → S_impl_Vip)) (h : out_b3 d os = some y) : d = (enc_b3 y).1 ∧ os = (enc_b3 y).2 :=
 outM (conv := conv_b3) (enc := enc_b3) (fun raw => by kernel_rfl) h
theorem ev_b3 (fu a_0_0 : Nat) (k_1 : Int) (dn0 dp0 : Nat) (df0 : (Nat → S_impl_Vip)) : evFunU E (pc_b3 fu) msk_b3 (lp_b3 fu) out_b3 85 [(.os 0 a_0_0), (ii k_1)] [(.deep true .impl_Vip dn0 dp0 df0)] = F_laws_markVipS_U fu a_0_0 k_1 dn0 dp0 df0 := by kernel_rfl
noncomputable def body_b3 : Code := Try.f85.body.getD .skip
noncomputable def lc_b3_0 : Code := ((loops 0 body_b3).getD 0 (0, .skip)).2
theorem round_b3_0 (fu : Nat) : RoundOk E (pc_b3 fu) msk_b3 (lp_b3 fu) 0 lc_b3_0 back_b3_0 0 100000 1 (Bk_b3_0 fu) := fun it k c w => by kernel_rfl
theorem lpok_b3_0 (fu : Nat) : LpAt E (pc_b3 fu) msk_b3 (lp_b3 fu) 0 0 100000 0 lc_b3_0 :=
 handle_ok (ps := ps_b3_0) (os := os_b3_0) (conv := conv_b3_0) (B := Bk_b3_0 fu) (fu := fu) back_b3_0 (fun raw => by kernel_rfl) 1 (fun c w => by kernel_rfl) (round_b3_0 fu)
theorem lpok_b3 (fu : Nat) : LpOk E (pc_b3 fu) 0 msk_b3 (lp_b3 fu) (loops 0 body_b3) := lp_nil (loop_all 1 (by kernel_rfl) fun i hi => match i, hi with
 | 0, _ => by
  have h : (loops 0 body_b3).getD 0 (0, .skip) = (0, lc_b3_0) := by kernel_rfl
  rw [h]; exact lpok_b3_0 fu
 | i + 1, hi => absurd hi (by omega)) (by kernel_rfl)
def S_b3 (fu : Nat) (xs : List (D RT den)) (ins : List (Ob RT den)) : Option (OutX RT den) := match xs, ins with | [.os 0 a0_0, .int .i64 a1_0], [.deep true .impl_Vip dn0 dp0 df0] => some ⟨Int × Nat × Nat × (Nat → S_impl_Vip), F_laws_markVipS_U fu a0_0 a1_0 dn0 dp0 df0, enc_b3⟩ | _, _ => none
theorem hpx_b3 (fu : Nat) : HpxOk E Try.prog pcd_b3 pcd0 (pcx_b3 fu) := by
 intro f xs ins o h
 unfold pcx_b3 at h
 split at h
 ·exact good_b2 fu xs ins o h
 ·cases h
theorem goodv_b3 (fu a_0_0 : Nat) (k_1 : Int) (dn0 dp0 : Nat) (df0 : (Nat → S_impl_Vip)) (y : Int × Nat × Nat × (Nat → S_impl_Vip)) (hy : F_laws_markVipS_U fu a_0_0 k_1 dn0 dp0 df0 = some y) : GoodD E Try.prog 85 [(.os 0 a_0_0), (ii k_1)] [(.deep true .impl_Vip dn0 dp0 df0)] (enc_b3 y).1 (enc_b3 y).2 :=
 funU_good E_ok (pc_good (pc := pc_b3 fu) hpc0 (hpx_b3 fu)) (fn := Try.f85) (by kernel_rfl) (by kernel_rfl) (by kernel_rfl) (lpok_b3 fu) (by kernel_rfl) (Nat.le_of_ble_eq_true (by kernel_rfl)) (Fulls.get 1 trivial) (fun d os hd => out_b3_enc d os _ hd) ((ev_b3 fu a_0_0 k_1 dn0 dp0 df0).trans hy)
theorem good_b3 (fu : Nat) : GoodSD E Try.prog 85 (S_b3 fu) := by
 intro xs ins o h y hy
 unfold S_b3 at h
 split at h
 ·rename_i a0_0 a1_0 dn0 dp0 df0
  cases h
  exact goodv_b3 fu a0_0 a1_0 dn0 dp0 df0 y hy
 ·cases h
def F_laws_markConfig_U (fu : Nat) (a_0_0 : Int) (a_0_1 a_0_2 : Nat) (k_1 : Int) (rn0 : Nat) (rf0 : (Nat → S_impl_Backend)) (dn1 dp1 : Nat) (df1 : (Nat → S_impl_Vip)) : Option (Ye0) :=
 ((F_laws_markBackendS_U fu a_0_1 k_1 rn0 rf0).bind fun y442 => ((F_laws_markVipS_U fu a_0_2 y442.1 dn1 dp1 df1).bind fun y448 => (some (y448.1, y442.2.1, y442.2.2, y448.2.1,
  y448.2.2.1, y448.2.2.2))))
def pcx_b4 (fu f : Nat) (xs : List (D RT den)) (ins : List (Ob RT den)) : Option (OutX RT den) := match f with | 84 => S_b1 fu xs ins | 85 => S_b3 fu xs ins | _ => none
def pcd_b4 : Nat → Bool := fun f => match f with | 84 => true | 85 => true | _ => false
def pc_b4 (fu : Nat) : Pc RT den := ⟨pcf0, fun f => match f with | 84 => true | 85 => true | _ => false, fun f => match f with | 84 => true | 85 => true | _ => false, pcd_b4, pcd0, pcd0, pcx_b4 fu⟩
def msk_b4 (b : Nat) : List Nat := []
def lp_b4 (fu : Nat) : Lp RT den (Ye0) := ⟨fun b s k => none, inl0⟩
def pso_b4 : List (Pat RT) := [.flat (.int .i64)]
def oso_b4 : List (OP RT) := [.row true .impl_Backend, .deep true .impl_Vip]
def conv_b4 (r : Raw den pso_b4 oso_b4) : Ye0 := (r.1.1, r.2.1.1, r.2.1.2, r.2.2.1.1, r.2.2.1.2.1, r.2.2.1.2.2)
def enc_b4 (y : Ye0) : D RT den × List (Ob RT den) := ((.int .i64 y.1), [(.row true .impl_Backend y.2.1 y.2.2.1), (.deep true .impl_Vip y.2.2.2.1 y.2.2.2.2.1 y.2.2.2.2.2)])
def out_b4 (d : D RT den) (os : List (Ob RT den)) : Option (Ye0) := (unSt pso_b4 oso_b4 ⟨[d], os⟩).bind fun v => some (conv_b4 v.1)
theorem out_b4_enc (d : D RT den) (os : List (Ob RT den)) (y : Ye0) (h : out_b4 d os = some y) : d = (enc_b4 y).1 ∧ os = (enc_b4 y).2 :=
 outM (conv := conv_b4) (enc := enc_b4) (fun raw => by kernel_rfl) h
theorem ev_b4 (fu : Nat) (a_0_0 : Int) (a_0_1 a_0_2 : Nat) (k_1 : Int) (rn0 : Nat) (rf0 : (Nat → S_impl_Backend)) (dn1 dp1 : Nat) (df1 : (Nat → S_impl_Vip)) : evFunU E (pc_b4 fu) msk_b4 (lp_b4 fu) out_b4 38 [(.agg [(ii a_0_0), (.os 0 a_0_1), (.os 1 a_0_2)]), (ii k_1)] [(.row true .impl_Backend rn0 rf0), (.deep true .impl_Vip dn1 dp1 df1)] = F_laws_markConfig_U fu a_0_0 a_0_1 a_0_2 k_1 rn0 rf0 dn1 dp1 df1 := by kernel_rfl
noncomputable def body_b4 : Code := Try.f38.body.getD .skip
theorem lpok_b4 (fu : Nat) : LpOk E (pc_b4 fu) 0 msk_b4 (lp_b4 fu) (loops 0 body_b4) := lp_nil (loop_nil (by kernel_rfl)) (by kernel_rfl)
def S_b4 (fu : Nat) (xs : List (D RT den)) (ins : List (Ob RT den)) : Option (OutX RT den) := match xs, ins with | [.agg [.int .i64 a0_0, .os 0 a0_1, .os 1 a0_2], .int .i64 a1_0], [.row true .impl_Backend rn0 rf0, .deep true .impl_Vip dn1 dp1 df1] => some ⟨Ye0, F_laws_markConfig_U fu a0_0 a0_1 a0_2 a1_0 rn0 rf0 dn1 dp1 df1, enc_b4⟩ | _, _ => none
theorem hpx_b4 (fu : Nat) : HpxOk E Try.prog pcd_b4 pcd0 (pcx_b4 fu) := by
 intro f xs ins o h
 unfold pcx_b4 at h
 split at h
 ·exact good_b1 fu xs ins o h
 ·exact good_b3 fu xs ins o h
 ·cases h
theorem goodv_b4 (fu : Nat) (a_0_0 : Int) (a_0_1 a_0_2 : Nat) (k_1 : Int) (rn0 : Nat) (rf0 : (Nat → S_impl_Backend)) (dn1 dp1 : Nat) (df1 : (Nat → S_impl_Vip)) (y : Ye0) (hy : F_laws_markConfig_U fu a_0_0 a_0_1 a_0_2 k_1 rn0 rf0 dn1 dp1 df1 = some y) : GoodD E Try.prog 38 [(.agg [(ii a_0_0), (.os 0 a_0_1), (.os 1 a_0_2)]), (ii k_1)] [(.row true .impl_Backend rn0 rf0), (.deep true .impl_Vip dn1 dp1 df1)] (enc_b4 y).1 (enc_b4 y).2 :=
 funU_good E_ok (pc_good (pc := pc_b4 fu) hpc0 (hpx_b4 fu)) (fn := Try.f38) (by kernel_rfl) (by kernel_rfl) (by kernel_rfl) (lpok_b4 fu) (by kernel_rfl) (Nat.le_of_ble_eq_true (by kernel_rfl)) (Fulls.get 2 trivial) (fun d os hd => out_b4_enc d os _ hd) ((ev_b4 fu a_0_0 a_0_1 a_0_2 k_1 rn0 rf0 dn1 dp1 df1).trans hy)
theorem good_b4 (fu : Nat) : GoodSD E Try.prog 38 (S_b4 fu) := by
 intro xs ins o h y hy
 unfold S_b4 at h
 split at h
 ·rename_i a0_0 a0_1 a0_2 a1_0 rn0 rf0 dn1 dp1 df1
  cases h
  exact goodv_b4 fu a0_0 a0_1 a0_2 a1_0 rn0 rf0 dn1 dp1 df1 y hy
 ·cases h
def F_laws_markConfigResult_U (fu : Nat) (a_0_0 a_0_1 : Int) (a_0_2 a_0_3 : Nat) (k_1 : Int) (rn0 : Nat) (rf0 : (Nat → S_impl_Backend)) (dn1 dp1 : Nat) (df1 : (Nat → S_impl_Vip)) : Option (Ye0) :=
 ((F_laws_markConfig_U fu a_0_1 a_0_2 a_0_3 k_1 rn0 rf0 dn1 dp1 df1).bind fun y449 => (some (y449.1, y449.2.1, y449.2.2.1, y449.2.2.2.1, y449.2.2.2.2.1, y449.2.2.2.2.2)))
def pcx_b5 (fu f : Nat) (xs : List (D RT den)) (ins : List (Ob RT den)) : Option (OutX RT den) := match f with | 38 => S_b4 fu xs ins | _ => none
def pcd_b5 : Nat → Bool := fun f => match f with | 38 => true | _ => false
def pc_b5 (fu : Nat) : Pc RT den := ⟨pcf0, fun f => match f with | 38 => true | _ => false, fun f => match f with | 38 => true | _ => false, pcd_b5, pcd0, pcd0, pcx_b5 fu⟩
def msk_b5 (b : Nat) : List Nat := []
def lp_b5 (fu : Nat) : Lp RT den (Ye0) := ⟨fun b s k => none, inl0⟩
def pso_b5 : List (Pat RT) := [.flat (.int .i64)]
def oso_b5 : List (OP RT) := [.row true .impl_Backend, .deep true .impl_Vip]
def conv_b5 (r : Raw den pso_b5 oso_b5) : Ye0 := (r.1.1, r.2.1.1, r.2.1.2, r.2.2.1.1, r.2.2.1.2.1, r.2.2.1.2.2)
def enc_b5 (y : Ye0) : D RT den × List (Ob RT den) := ((.int .i64 y.1), [(.row true .impl_Backend y.2.1 y.2.2.1), (.deep true .impl_Vip y.2.2.2.1 y.2.2.2.2.1 y.2.2.2.2.2)])
def out_b5 (d : D RT den) (os : List (Ob RT den)) : Option (Ye0) := (unSt pso_b5 oso_b5 ⟨[d], os⟩).bind fun v => some (conv_b5 v.1)
theorem out_b5_enc (d : D RT den) (os : List (Ob RT den)) (y : Ye0) (h : out_b5 d os = some y) : d = (enc_b5 y).1 ∧ os = (enc_b5 y).2 :=
 outM (conv := conv_b5) (enc := enc_b5) (fun raw => by kernel_rfl) h
theorem ev_b5 (fu : Nat) (a_0_0 a_0_1 : Int) (a_0_2 a_0_3 : Nat) (k_1 : Int) (rn0 : Nat) (rf0 : (Nat → S_impl_Backend)) (dn1 dp1 : Nat) (df1 : (Nat → S_impl_Vip)) : evFunU E (pc_b5 fu) msk_b5 (lp_b5 fu) out_b5 12 [(.agg [(ii a_0_0), (ii a_0_1), (.os 0 a_0_2), (.os 1 a_0_3)]), (ii k_1)] [(.row true .impl_Backend rn0 rf0), (.deep true .impl_Vip dn1 dp1 df1)] = F_laws_markConfigResult_U fu a_0_0 a_0_1 a_0_2 a_0_3 k_1 rn0 rf0 dn1 dp1 df1 := by kernel_rfl
noncomputable def body_b5 : Code := Try.f12.body.getD .skip
theorem lpok_b5 (fu : Nat) : LpOk E (pc_b5 fu) 0 msk_b5 (lp_b5 fu) (loops 0 body_b5) := lp_nil (loop_nil (by kernel_rfl)) (by kernel_rfl)
def S_b5 (fu : Nat) (xs : List (D RT den)) (ins : List (Ob RT den)) : Option (OutX RT den) := match xs, ins with | [.agg [.int .i64 a0_0, .int .i64 a0_1, .os 0 a0_2, .os 1 a0_3], .int .i64 a1_0], [.row true .impl_Backend rn0 rf0, .deep true .impl_Vip dn1 dp1 df1] => some ⟨Ye0, F_laws_markConfigResult_U fu a0_0 a0_1 a0_2 a0_3 a1_0 rn0 rf0 dn1 dp1 df1, enc_b5⟩ | _, _ => none
theorem hpx_b5 (fu : Nat) : HpxOk E Try.prog pcd_b5 pcd0 (pcx_b5 fu) := by
 intro f xs ins o h
 unfold pcx_b5 at h
 split at h
 ·exact good_b4 fu xs ins o h
 ·cases h
theorem goodv_b5 (fu : Nat) (a_0_0 a_0_1 : Int) (a_0_2 a_0_3 : Nat) (k_1 : Int) (rn0 : Nat) (rf0 : (Nat → S_impl_Backend)) (dn1 dp1 : Nat) (df1 : (Nat → S_impl_Vip)) (y : Ye0) (hy : F_laws_markConfigResult_U fu a_0_0 a_0_1 a_0_2 a_0_3 k_1 rn0 rf0 dn1 dp1 df1 = some y) : GoodD E Try.prog 12 [(.agg [(ii a_0_0), (ii a_0_1), (.os 0 a_0_2), (.os 1 a_0_3)]), (ii k_1)] [(.row true .impl_Backend rn0 rf0), (.deep true .impl_Vip dn1 dp1 df1)] (enc_b5 y).1 (enc_b5 y).2 :=
 funU_good E_ok (pc_good (pc := pc_b5 fu) hpc0 (hpx_b5 fu)) (fn := Try.f12) (by kernel_rfl) (by kernel_rfl) (by kernel_rfl) (lpok_b5 fu) (by kernel_rfl) (Nat.le_of_ble_eq_true (by kernel_rfl)) (Fulls.get 2 trivial) (fun d os hd => out_b5_enc d os _ hd) ((ev_b5 fu a_0_0 a_0_1 a_0_2 a_0_3 k_1 rn0 rf0 dn1 dp1 df1).trans hy)
theorem good_b5 (fu : Nat) : GoodSD E Try.prog 12 (S_b5 fu) := by
 intro xs ins o h y hy
 unfold S_b5 at h
 split at h
 ·rename_i a0_0 a0_1 a0_2 a0_3 a1_0 rn0 rf0 dn1 dp1 df1
  cases h
  exact goodv_b5 fu a0_0 a0_1 a0_2 a0_3 a1_0 rn0 rf0 dn1 dp1 df1 y hy
 ·cases h
def F_laws_eqBackend (fu : Nat) (a_0 b_1 : S_impl_Backend) : Option (Bool) :=
 (bif (a_0.Name != b_1.Name) then (some false) else (bif (a_0.Address != b_1.Address) then (some false) else (bif (a_0.Weight != b_1.Weight) then (some false) else (bif (a_0.Stage != b_1.Stage) then
  (some false) else (bif (!(a_0.Up == b_1.Up)) then (some false) else (some true))))))
def pc_b6 (fu : Nat) : Pc RT den := ⟨pcf0, fun _ => false, fun _ => false, pcd0, pcd0, pcd0, pcx0⟩
def msk_b6 (b : Nat) : List Nat := []
def lp_b6 (fu : Nat) : Lp RT den (Bool) := ⟨fun b s k => none, inl0⟩
theorem ev_b6 (fu : Nat) (a_0 b_1 : S_impl_Backend) : evFun E (pc_b6 fu) msk_b6 (lp_b6 fu) out_bo 118 [(.agg [(ii a_0.Name), (ii a_0.Address), (ii a_0.Weight), (ii a_0.Stage), (.bool a_0.Up)]), (.agg [(ii b_1.Name), (ii b_1.Address), (ii b_1.Weight), (ii b_1.Stage), (.bool b_1.Up)])] = F_laws_eqBackend fu a_0 b_1 := by kernel_rfl
noncomputable def body_b6 : Code := Try.f118.body.getD .skip
theorem lpok_b6 (fu : Nat) : LpOk E (pc_b6 fu) 0 msk_b6 (lp_b6 fu) (loops 0 body_b6) := lp_nil (loop_nil (by kernel_rfl)) (by kernel_rfl)
def S_b6 (fu : Nat) (xs : List (D RT den)) : Option (Out RT den) := match xs with | [.agg [.int .i64 a0_1, .int .i64 a0_2, .int .i64 a0_3, .int .i64 a0_4, .bool a0_5], .agg [.int .i64 a1_1, .int .i64 a1_2, .int .i64 a1_3, .int .i64 a1_4, .bool a1_5]] => some ⟨Bool, F_laws_eqBackend fu (⟨a0_1, a0_2, a0_3, a0_4, a0_5⟩ : S_impl_Backend) (⟨a1_1, a1_2, a1_3, a1_4, a1_5⟩ : S_impl_Backend), enc_bo, fun _ => true⟩ | _ => none
theorem goodv_b6 (fu : Nat) (a_0 b_1 : S_impl_Backend) (y : Bool) (hy : F_laws_eqBackend fu a_0 b_1 = some y) : Good E Try.prog 118 [(.agg [(ii a_0.Name), (ii a_0.Address), (ii a_0.Weight), (ii a_0.Stage), (.bool a_0.Up)]), (.agg [(ii b_1.Name), (ii b_1.Address), (ii b_1.Weight), (ii b_1.Stage), (.bool b_1.Up)])] (enc_bo y) :=
 fun_good E_ok (pc_good (pc := pc_b6 fu) hpc0 hpx0) (fn := Try.f118) (by kernel_rfl) (by kernel_rfl) (by kernel_rfl) (lpok_b6 fu) (fun d hd => out_bo_enc d _ hd) ((ev_b6 fu a_0 b_1).trans hy)
theorem good_b6 (fu : Nat) : GoodS E Try.prog 118 (S_b6 fu) := by
 intro xs o h y hy
 unfold S_b6 at h
 split at h
 ·rename_i a0_1 a0_2 a0_3 a0_4 a0_5 a1_1 a1_2 a1_3 a1_4 a1_5
  cases h
  exact goodv_b6 fu (⟨a0_1, a0_2, a0_3, a0_4, a0_5⟩ : S_impl_Backend) (⟨a1_1, a1_2, a1_3, a1_4, a1_5⟩ : S_impl_Backend) y hy
 ·cases h
def F_laws_eqBackendS_B0 {ρ : Type} (fu : Nat) (a0_0 b1_1 : (Sl S_impl_Backend)) (k0 : Option ρ) (k1 : Option ρ) (i5_2 : Int) (go : Int → Option ρ) : Option ρ :=
 (bif (decide (i5_2 < ((a0_0.n : Nat) : Int))) then ((bif (decide (0 ≤ i5_2) && decide ((Int.toNat i5_2) < a0_0.n)) then some () else none : Option Unit).bind fun _ => ((bif (decide (0 ≤ i5_2) &&
  decide ((Int.toNat i5_2) < b1_1.n)) then some () else none : Option Unit).bind fun _ => ((F_laws_eqBackend fu (a0_0.f (Int.toNat i5_2)) (b1_1.f (Int.toNat i5_2))).bind fun y459 =>
  (bif (!y459) then k0 else (go (IntKind.wrap .i64 (i5_2 + 1))))))) else k1)
def F_laws_eqBackendS (fu : Nat) (a_0 b_1 : (Sl S_impl_Backend)) : Option (Bool) :=
 (bif (((a_0.n : Nat) : Int) != ((b_1.n : Nat) : Int)) then (some false) else (L (fun w0 go0 => F_laws_eqBackendS_B0 fu a_0 b_1 (some false) (some true) w0 go0) fu (0 : Int)))
def pcf_b7 (fu f : Nat) (xs : List (D RT den)) : Option (Out RT den) := match f with | 118 => S_b6 fu xs | _ => none
def pc_b7 (fu : Nat) : Pc RT den := ⟨pcf_b7 fu, fun _ => false, fun _ => false, pcd0, pcd0, pcd0, pcx0⟩
def msk_b7 (b : Nat) : List Nat := match b with | 0 => (2 :: 3 :: 4 :: (rg 6 21 [])) | 100000 => (0 :: 1 :: 2 :: 3 :: (rg 5 22 [])) | _ => []
def ps_b7_0 : List (Pat RT) := (.flat (.rs .impl_Backend) :: .flat (.rs .impl_Backend) :: .flat .q :: .flat .q :: .flat .q :: .flat (.int .i64) :: (fq 21 []))
def os_b7_0 : List (OP RT) := []
def conv_b7_0 (r : Raw den ps_b7_0 os_b7_0) : ((Sl S_impl_Backend) × (Sl S_impl_Backend)) × (Int) := ((r.1.1, r.1.2.1), (e5 r.1).1)
def back_b7_0 (c : (Sl S_impl_Backend) × (Sl S_impl_Backend)) (w : Int) : St RT den := ⟨((.rs c.1.z .impl_Backend c.1.n c.1.f) :: (.rs c.2.z .impl_Backend c.2.n c.2.f) :: .q :: .q :: .q :: (ii w) :: (qs 21 [])), []⟩
def Bk_b7_0 {ρ : Type} (fu : Nat) (c : (Sl S_impl_Backend) × (Sl S_impl_Backend)) (k : Ex → St RT den → Option ρ) (w : Int) (go : (Int) → Option ρ) : Option ρ := F_laws_eqBackendS_B0 fu c.1 c.2 (k .ret ⟨(qs 4 ((.bool false) :: (qs 22 []))), []⟩) (k (.exit 0) ⟨(qs 27 []), []⟩) w go
def lp_b7 (fu : Nat) : Lp RT den (Bool) := ⟨fun b s k => match b with | 0 => handle ps_b7_0 os_b7_0 conv_b7_0 (Bk_b7_0 fu) fu s k | _ => none, inl0⟩
theorem ev_b7 (fu : Nat) (a_0 b_1 : (Sl S_impl_Backend)) : evFun E (pc_b7 fu) msk_b7 (lp_b7 fu) out_bo 71 [(.rs a_0.z .impl_Backend a_0.n a_0.f), (.rs b_1.z .impl_Backend b_1.n b_1.f)] = F_laws_eqBackendS fu a_0 b_1 := by kernel_rfl
noncomputable def body_b7 : Code := Try.f71.body.getD .skip
noncomputable def lc_b7_0 : Code := ((loops 0 body_b7).getD 0 (0, .skip)).2
theorem round_b7_0 (fu : Nat) : RoundOk E (pc_b7 fu) msk_b7 (lp_b7 fu) 0 lc_b7_0 back_b7_0 0 100000 0 (Bk_b7_0 fu) := fun it k c w => by kernel_rfl
theorem lpok_b7_0 (fu : Nat) : LpAt E (pc_b7 fu) msk_b7 (lp_b7 fu) 0 0 100000 0 lc_b7_0 :=
 handle_ok (ps := ps_b7_0) (os := os_b7_0) (conv := conv_b7_0) (B := Bk_b7_0 fu) (fu := fu) back_b7_0 (fun raw => by kernel_rfl) 0 (fun c w => by kernel_rfl) (round_b7_0 fu)
theorem lpok_b7 (fu : Nat) : LpOk E (pc_b7 fu) 0 msk_b7 (lp_b7 fu) (loops 0 body_b7) := lp_nil (loop_all 1 (by kernel_rfl) fun i hi => match i, hi with
 | 0, _ => by
  have h : (loops 0 body_b7).getD 0 (0, .skip) = (0, lc_b7_0) := by kernel_rfl
  rw [h]; exact lpok_b7_0 fu
 | i + 1, hi => absurd hi (by omega)) (by kernel_rfl)
def S_b7 (fu : Nat) (xs : List (D RT den)) : Option (Out RT den) := match xs with | [.rs za0_0 .impl_Backend na0_0 fa0_0, .rs za1_0 .impl_Backend na1_0 fa1_0] => some ⟨Bool, F_laws_eqBackendS fu (⟨za0_0, na0_0, fa0_0⟩ : (Sl S_impl_Backend)) (⟨za1_0, na1_0, fa1_0⟩ : (Sl S_impl_Backend)), enc_bo, fun _ => true⟩ | _ => none
theorem hpc_b7 (fu : Nat) : HpcOk E Try.prog (pcf_b7 fu) := by
 intro f xs o h
 unfold pcf_b7 at h
 split at h
 ·exact good_b6 fu xs o h
 ·cases h
theorem goodv_b7 (fu : Nat) (a_0 b_1 : (Sl S_impl_Backend)) (y : Bool) (hy : F_laws_eqBackendS fu a_0 b_1 = some y) : Good E Try.prog 71 [(.rs a_0.z .impl_Backend a_0.n a_0.f), (.rs b_1.z .impl_Backend b_1.n b_1.f)] (enc_bo y) :=
 fun_good E_ok (pc_good (pc := pc_b7 fu) (hpc_b7 fu) hpx0) (fn := Try.f71) (by kernel_rfl) (by kernel_rfl) (by kernel_rfl) (lpok_b7 fu) (fun d hd => out_bo_enc d _ hd) ((ev_b7 fu a_0 b_1).trans hy)
theorem good_b7 (fu : Nat) : GoodS E Try.prog 71 (S_b7 fu) := by
 intro xs o h y hy
 unfold S_b7 at h
 split at h
 ·rename_i za0_0 na0_0 fa0_0 za1_0 na1_0 fa1_0
  cases h
  exact goodv_b7 fu (⟨za0_0, na0_0, fa0_0⟩ : (Sl S_impl_Backend)) (⟨za1_0, na1_0, fa1_0⟩ : (Sl S_impl_Backend)) y hy
 ·cases h
def F_laws_eqInt64S_B0 {ρ : Type} (fu : Nat) (a0_0 b1_1 : (Sl Int)) (k0 : Option ρ) (k1 : Option ρ) (i5_2 : Int) (go : Int → Option ρ) : Option ρ :=
 (bif (decide (i5_2 < ((a0_0.n : Nat) : Int))) then ((bif (decide (0 ≤ i5_2) && decide ((Int.toNat i5_2) < a0_0.n)) then some () else none : Option Unit).bind fun _ => ((bif (decide (0 ≤ i5_2) &&
  decide ((Int.toNat i5_2) < b1_1.n)) then some () else none : Option Unit).bind fun _ => (bif ((a0_0.f (Int.toNat i5_2)) != (b1_1.f (Int.toNat i5_2))) then k0 else (go (IntKind.wrap .i64 (i5_2 + 1)))))) else
  k1)
def F_laws_eqInt64S (fu : Nat) (a_0 b_1 : (Sl Int)) : Option (Bool) :=
 (bif (((a_0.n : Nat) : Int) != ((b_1.n : Nat) : Int)) then (some false) else (L (fun w0 go0 => F_laws_eqInt64S_B0 fu a_0 b_1 (some false) (some true) w0 go0) fu (0 : Int)))
def pc_b8 (fu : Nat) : Pc RT den := ⟨pcf0, fun _ => false, fun _ => false, pcd0, pcd0, pcd0, pcx0⟩
def msk_b8 (b : Nat) : List Nat := match b with | 0 => (2 :: 3 :: 4 :: (rg 6 20 [])) | 100000 => (0 :: 1 :: 2 :: 3 :: (rg 5 21 [])) | _ => []
def ps_b8_0 : List (Pat RT) := (.flat (.rs .i64) :: .flat (.rs .i64) :: .flat .q :: .flat .q :: .flat .q :: .flat (.int .i64) :: (fq 20 []))
def os_b8_0 : List (OP RT) := []
def conv_b8_0 (r : Raw den ps_b8_0 os_b8_0) : ((Sl Int) × (Sl Int)) × (Int) := ((r.1.1, r.1.2.1), (e5 r.1).1)
def back_b8_0 (c : (Sl Int) × (Sl Int)) (w : Int) : St RT den := ⟨((.rs c.1.z .i64 c.1.n c.1.f) :: (.rs c.2.z .i64 c.2.n c.2.f) :: .q :: .q :: .q :: (ii w) :: (qs 20 [])), []⟩
def Bk_b8_0 {ρ : Type} (fu : Nat) (c : (Sl Int) × (Sl Int)) (k : Ex → St RT den → Option ρ) (w : Int) (go : (Int) → Option ρ) : Option ρ := F_laws_eqInt64S_B0 fu c.1 c.2 (k .ret ⟨(qs 4 ((.bool false) :: (qs 21 []))), []⟩) (k (.exit 0) ⟨(qs 26 []), []⟩) w go
def lp_b8 (fu : Nat) : Lp RT den (Bool) := ⟨fun b s k => match b with | 0 => handle ps_b8_0 os_b8_0 conv_b8_0 (Bk_b8_0 fu) fu s k | _ => none, inl0⟩
theorem ev_b8 (fu : Nat) (a_0 b_1 : (Sl Int)) : evFun E (pc_b8 fu) msk_b8 (lp_b8 fu) out_bo 138 [(.rs a_0.z .i64 a_0.n a_0.f), (.rs b_1.z .i64 b_1.n b_1.f)] = F_laws_eqInt64S fu a_0 b_1 := by kernel_rfl
noncomputable def body_b8 : Code := Try.f138.body.getD .skip
noncomputable def lc_b8_0 : Code := ((loops 0 body_b8).getD 0 (0, .skip)).2
theorem round_b8_0 (fu : Nat) : RoundOk E (pc_b8 fu) msk_b8 (lp_b8 fu) 0 lc_b8_0 back_b8_0 0 100000 0 (Bk_b8_0 fu) := fun it k c w => by kernel_rfl
theorem lpok_b8_0 (fu : Nat) : LpAt E (pc_b8 fu) msk_b8 (lp_b8 fu) 0 0 100000 0 lc_b8_0 :=
 handle_ok (ps := ps_b8_0) (os := os_b8_0) (conv := conv_b8_0) (B := Bk_b8_0 fu) (fu := fu) back_b8_0 (fun raw => by kernel_rfl) 0 (fun c w => by kernel_rfl) (round_b8_0 fu)
theorem lpok_b8 (fu : Nat) : LpOk E (pc_b8 fu) 0 msk_b8 (lp_b8 fu) (loops 0 body_b8) := lp_nil (loop_all 1 (by kernel_rfl) fun i hi => match i, hi with
 | 0, _ => by
  have h : (loops 0 body_b8).getD 0 (0, .skip) = (0, lc_b8_0) := by kernel_rfl
  rw [h]; exact lpok_b8_0 fu
 | i + 1, hi => absurd hi (by omega)) (by kernel_rfl)
def S_b8 (fu : Nat) (xs : List (D RT den)) : Option (Out RT den) := match xs with | [.rs za0_0 .i64 na0_0 fa0_0, .rs za1_0 .i64 na1_0 fa1_0] => some ⟨Bool, F_laws_eqInt64S fu (⟨za0_0, na0_0, fa0_0⟩ : (Sl Int)) (⟨za1_0, na1_0, fa1_0⟩ : (Sl Int)), enc_bo, fun _ => true⟩ | _ => none
theorem goodv_b8 (fu : Nat) (a_0 b_1 : (Sl Int)) (y : Bool) (hy : F_laws_eqInt64S fu a_0 b_1 = some y) : Good E Try.prog 138 [(.rs a_0.z .i64 a_0.n a_0.f), (.rs b_1.z .i64 b_1.n b_1.f)] (enc_bo y) :=
 fun_good E_ok (pc_good (pc := pc_b8 fu) hpc0 hpx0) (fn := Try.f138) (by kernel_rfl) (by kernel_rfl) (by kernel_rfl) (lpok_b8 fu) (fun d hd => out_bo_enc d _ hd) ((ev_b8 fu a_0 b_1).trans hy)
theorem good_b8 (fu : Nat) : GoodS E Try.prog 138 (S_b8 fu) := by
 intro xs o h y hy
 unfold S_b8 at h
 split at h
 ·rename_i za0_0 na0_0 fa0_0 za1_0 na1_0 fa1_0
  cases h
  exact goodv_b8 fu (⟨za0_0, na0_0, fa0_0⟩ : (Sl Int)) (⟨za1_0, na1_0, fa1_0⟩ : (Sl Int)) y hy
 ·cases h
def F_laws_eqVip (fu : Nat) (a_0 b_1 : S_impl_Vip) : Option (Bool) :=
 (bif (a_0.Address != b_1.Address) then (some false) else (bif (a_0.Port != b_1.Port) then (some false) else (bif (a_0.Proto != b_1.Proto) then (some false) else ((F_laws_eqInt64S fu a_0.Names b_1.Names).bind fun y461 =>
  (bif (!y461) then (some false) else (some true))))))
def pcf_b9 (fu f : Nat) (xs : List (D RT den)) : Option (Out RT den) := match f with | 138 => S_b8 fu xs | _ => none
def pc_b9 (fu : Nat) : Pc RT den := ⟨pcf_b9 fu, fun _ => false, fun _ => false, pcd0, pcd0, pcd0, pcx0⟩
def msk_b9 (b : Nat) : List Nat := []
def lp_b9 (fu : Nat) : Lp RT den (Bool) := ⟨fun b s k => none, inl0⟩
theorem ev_b9 (fu : Nat) (a_0 b_1 : S_impl_Vip) : evFun E (pc_b9 fu) msk_b9 (lp_b9 fu) out_bo 119 [(.agg [(ii a_0.Address), (ii a_0.Port), (ii a_0.Proto), (.rs a_0.Names.z .i64 a_0.Names.n a_0.Names.f)]), (.agg [(ii b_1.Address), (ii b_1.Port), (ii b_1.Proto), (.rs b_1.Names.z .i64 b_1.Names.n b_1.Names.f)])] = F_laws_eqVip fu a_0 b_1 := by kernel_rfl
noncomputable def body_b9 : Code := Try.f119.body.getD .skip
theorem lpok_b9 (fu : Nat) : LpOk E (pc_b9 fu) 0 msk_b9 (lp_b9 fu) (loops 0 body_b9) := lp_nil (loop_nil (by kernel_rfl)) (by kernel_rfl)
def S_b9 (fu : Nat) (xs : List (D RT den)) : Option (Out RT den) := match xs with | [.agg [.int .i64 a0_1, .int .i64 a0_2, .int .i64 a0_3, .rs za0_4 .i64 na0_4 fa0_4], .agg [.int .i64 a1_1, .int .i64 a1_2, .int .i64 a1_3, .rs za1_4 .i64 na1_4 fa1_4]] => some ⟨Bool, F_laws_eqVip fu (⟨a0_1, a0_2, a0_3, (⟨za0_4, na0_4, fa0_4⟩ : (Sl Int))⟩ : S_impl_Vip) (⟨a1_1, a1_2, a1_3, (⟨za1_4, na1_4, fa1_4⟩ : (Sl Int))⟩ : S_impl_Vip), enc_bo, fun _ => true⟩ | _ => none
theorem hpc_b9 (fu : Nat) : HpcOk E Try.prog (pcf_b9 fu) := by
 intro f xs o h
 unfold pcf_b9 at h
 split at h
 ·exact good_b8 fu xs o h
 ·cases h
theorem goodv_b9 (fu : Nat) (a_0 b_1 : S_impl_Vip) (y : Bool) (hy : F_laws_eqVip fu a_0 b_1 = some y) : Good E Try.prog 119 [(.agg [(ii a_0.Address), (ii a_0.Port), (ii a_0.Proto), (.rs a_0.Names.z .i64 a_0.Names.n a_0.Names.f)]), (.agg [(ii b_1.Address), (ii b_1.Port), (ii b_1.Proto), (.rs b_1.Names.z .i64 b_1.Names.n b_1.Names.f)])] (enc_bo y) :=
 fun_good E_ok (pc_good (pc := pc_b9 fu) (hpc_b9 fu) hpx0) (fn := Try.f119) (by kernel_rfl) (by kernel_rfl) (by kernel_rfl) (lpok_b9 fu) (fun d hd => out_bo_enc d _ hd) ((ev_b9 fu a_0 b_1).trans hy)
theorem good_b9 (fu : Nat) : GoodS E Try.prog 119 (S_b9 fu) := by
 intro xs o h y hy
 unfold S_b9 at h
 split at h
 ·rename_i a0_1 a0_2 a0_3 za0_4 na0_4 fa0_4 a1_1 a1_2 a1_3 za1_4 na1_4 fa1_4
  cases h
  exact goodv_b9 fu (⟨a0_1, a0_2, a0_3, (⟨za0_4, na0_4, fa0_4⟩ : (Sl Int))⟩ : S_impl_Vip) (⟨a1_1, a1_2, a1_3, (⟨za1_4, na1_4, fa1_4⟩ : (Sl Int))⟩ : S_impl_Vip) y hy
 ·cases h
def F_laws_eqVipS_B0 {ρ : Type} (fu : Nat) (a0_0 b1_1 : (Sl S_impl_Vip)) (k0 : Option ρ) (k1 : Option ρ) (i5_2 : Int) (go : Int → Option ρ) : Option ρ :=
 (bif (decide (i5_2 < ((a0_0.n : Nat) : Int))) then ((bif (decide (0 ≤ i5_2) && decide ((Int.toNat i5_2) < a0_0.n)) then some () else none : Option Unit).bind fun _ => ((bif (decide (0 ≤ i5_2) &&
  decide ((Int.toNat i5_2) < b1_1.n)) then some () else none : Option Unit).bind fun _ => ((F_laws_eqVip fu (a0_0.f (Int.toNat i5_2)) (b1_1.f (Int.toNat i5_2))).bind fun y460 =>
  (bif (!y460) then k0 else (go (IntKind.wrap .i64 (i5_2 + 1))))))) else k1)
def F_laws_eqVipS (fu : Nat) (a_0 b_1 : (Sl S_impl_Vip)) : Option (Bool) :=
 (bif (((a_0.n : Nat) : Int) != ((b_1.n : Nat) : Int)) then (some false) else (L (fun w0 go0 => F_laws_eqVipS_B0 fu a_0 b_1 (some false) (some true) w0 go0) fu (0 : Int)))
def pcf_b10 (fu f : Nat) (xs : List (D RT den)) : Option (Out RT den) := match f with | 119 => S_b9 fu xs | _ => none
def pc_b10 (fu : Nat) : Pc RT den := ⟨pcf_b10 fu, fun _ => false, fun _ => false, pcd0, pcd0, pcd0, pcx0⟩
def msk_b10 (b : Nat) : List Nat := match b with | 0 => (2 :: 3 :: 4 :: (rg 6 21 [])) | 100000 => (0 :: 1 :: 2 :: 3 :: (rg 5 22 [])) | _ => []
def ps_b10_0 : List (Pat RT) := (.flat (.rs .impl_Vip) :: .flat (.rs .impl_Vip) :: .flat .q :: .flat .q :: .flat .q :: .flat (.int .i64) :: (fq 21 []))
def os_b10_0 : List (OP RT) := []
def conv_b10_0 (r : Raw den ps_b10_0 os_b10_0) : ((Sl S_impl_Vip) × (Sl S_impl_Vip)) × (Int) := ((r.1.1, r.1.2.1), (e5 r.1).1)
def back_b10_0 (c : (Sl S_impl_Vip) × (Sl S_impl_Vip)) (w : Int) : St RT den := ⟨((.rs c.1.z .impl_Vip c.1.n c.1.f) :: (.rs c.2.z .impl_Vip c.2.n c.2.f) :: .q :: .q :: .q :: (ii w) :: (qs 21 [])), []⟩
def Bk_b10_0 {ρ : Type} (fu : Nat) (c : (Sl S_impl_Vip) × (Sl S_impl_Vip)) (k : Ex → St RT den → Option ρ) (w : Int) (go : (Int) → Option ρ) : Option ρ := F_laws_eqVipS_B0 fu c.1 c.2 (k .ret ⟨(qs 4 ((.bool false) :: (qs 22 []))), []⟩) (k (.exit 0) ⟨(qs 27 []), []⟩) w go
def lp_b10 (fu : Nat) : Lp RT den (Bool) := ⟨fun b s k => match b with | 0 => handle ps_b10_0 os_b10_0 conv_b10_0 (Bk_b10_0 fu) fu s k | _ => none, inl0⟩
theorem ev_b10 (fu : Nat) (a_0 b_1 : (Sl S_impl_Vip)) : evFun E (pc_b10 fu) msk_b10 (lp_b10 fu) out_bo 72 [(.rs a_0.z .impl_Vip a_0.n a_0.f), (.rs b_1.z .impl_Vip b_1.n b_1.f)] = F_laws_eqVipS fu a_0 b_1 := by kernel_rfl
noncomputable def body_b10 : Code := Try.f72.body.getD .skip
noncomputable def lc_b10_0 : Code := ((loops 0 body_b10).getD 0 (0, .skip)).2
theorem round_b10_0 (fu : Nat) : RoundOk E (pc_b10 fu) msk_b10 (lp_b10 fu) 0 lc_b10_0 back_b10_0 0 100000 0 (Bk_b10_0 fu) := fun it k c w => by kernel_rfl
theorem lpok_b10_0 (fu : Nat) : LpAt E (pc_b10 fu) msk_b10 (lp_b10 fu) 0 0 100000 0 lc_b10_0 :=
 handle_ok (ps := ps_b10_0) (os := os_b10_0) (conv := conv_b10_0) (B := Bk_b10_0 fu) (fu := fu) back_b10_0 (fun raw => by kernel_rfl) 0 (fun c w => by kernel_rfl) (round_b10_0 fu)
theorem lpok_b10 (fu : Nat) : LpOk E (pc_b10 fu) 0 msk_b10 (lp_b10 fu) (loops 0 body_b10) := lp_nil (loop_all 1 (by kernel_rfl) fun i hi => match i, hi with
 | 0, _ => by
  have h : (loops 0 body_b10).getD 0 (0, .skip) = (0, lc_b10_0) := by kernel_rfl
  rw [h]; exact lpok_b10_0 fu
 | i + 1, hi => absurd hi (by omega)) (by kernel_rfl)
def S_b10 (fu : Nat) (xs : List (D RT den)) : Option (Out RT den) := match xs with | [.rs za0_0 .impl_Vip na0_0 fa0_0, .rs za1_0 .impl_Vip na1_0 fa1_0] => some ⟨Bool, F_laws_eqVipS fu (⟨za0_0, na0_0, fa0_0⟩ : (Sl S_impl_Vip)) (⟨za1_0, na1_0, fa1_0⟩ : (Sl S_impl_Vip)), enc_bo, fun _ => true⟩ | _ => none
theorem hpc_b10 (fu : Nat) : HpcOk E Try.prog (pcf_b10 fu) := by
 intro f xs o h
 unfold pcf_b10 at h
 split at h
 ·exact good_b9 fu xs o h
 ·cases h
theorem goodv_b10 (fu : Nat) (a_0 b_1 : (Sl S_impl_Vip)) (y : Bool) (hy : F_laws_eqVipS fu a_0 b_1 = some y) : Good E Try.prog 72 [(.rs a_0.z .impl_Vip a_0.n a_0.f), (.rs b_1.z .impl_Vip b_1.n b_1.f)] (enc_bo y) :=
 fun_good E_ok (pc_good (pc := pc_b10 fu) (hpc_b10 fu) hpx0) (fn := Try.f72) (by kernel_rfl) (by kernel_rfl) (by kernel_rfl) (lpok_b10 fu) (fun d hd => out_bo_enc d _ hd) ((ev_b10 fu a_0 b_1).trans hy)
theorem good_b10 (fu : Nat) : GoodS E Try.prog 72 (S_b10 fu) := by
 intro xs o h y hy
 unfold S_b10 at h
 split at h
 ·rename_i za0_0 na0_0 fa0_0 za1_0 na1_0 fa1_0
  cases h
  exact goodv_b10 fu (⟨za0_0, na0_0, fa0_0⟩ : (Sl S_impl_Vip)) (⟨za1_0, na1_0, fa1_0⟩ : (Sl S_impl_Vip)) y hy
 ·cases h
def F_laws_eqConfig (fu : Nat) (a_0 b_1 : S_impl_Config) : Option (Bool) :=
 (bif (a_0.Version != b_1.Version) then (some false) else ((F_laws_eqBackendS fu a_0.Backends b_1.Backends).bind fun y457 => (bif (!y457) then (some false) else ((F_laws_eqVipS fu a_0.Vips b_1.Vips).bind fun y458 =>
  (bif (!y458) then (some false) else (some true))))))
def pcf_b11 (fu f : Nat) (xs : List (D RT den)) : Option (Out RT den) := match f with | 71 => S_b7 fu xs | 72 => S_b10 fu xs | _ => none
def pc_b11 (fu : Nat) : Pc RT den := ⟨pcf_b11 fu, fun _ => false, fun _ => false, pcd0, pcd0, pcd0, pcx0⟩
def msk_b11 (b : Nat) : List Nat := []
def lp_b11 (fu : Nat) : Lp RT den (Bool) := ⟨fun b s k => none, inl0⟩
theorem ev_b11 (fu : Nat) (a_0 b_1 : S_impl_Config) : evFun E (pc_b11 fu) msk_b11 (lp_b11 fu) out_bo 30 [(.agg [(ii a_0.Version), (.rs a_0.Backends.z .impl_Backend a_0.Backends.n a_0.Backends.f), (.rs a_0.Vips.z .impl_Vip a_0.Vips.n a_0.Vips.f)]), (.agg [(ii b_1.Version), (.rs b_1.Backends.z .impl_Backend b_1.Backends.n b_1.Backends.f), (.rs b_1.Vips.z .impl_Vip b_1.Vips.n b_1.Vips.f)])] = F_laws_eqConfig fu a_0 b_1 := by kernel_rfl
noncomputable def body_b11 : Code := Try.f30.body.getD .skip
theorem lpok_b11 (fu : Nat) : LpOk E (pc_b11 fu) 0 msk_b11 (lp_b11 fu) (loops 0 body_b11) := lp_nil (loop_nil (by kernel_rfl)) (by kernel_rfl)
def S_b11 (fu : Nat) (xs : List (D RT den)) : Option (Out RT den) := match xs with | [.agg [.int .i64 a0_1, .rs za0_2 .impl_Backend na0_2 fa0_2, .rs za0_3 .impl_Vip na0_3 fa0_3], .agg [.int .i64 a1_1, .rs za1_2 .impl_Backend na1_2 fa1_2, .rs za1_3 .impl_Vip na1_3 fa1_3]] => some ⟨Bool, F_laws_eqConfig fu (⟨a0_1, (⟨za0_2, na0_2, fa0_2⟩ : (Sl S_impl_Backend)), (⟨za0_3, na0_3, fa0_3⟩ : (Sl S_impl_Vip))⟩ : S_impl_Config) (⟨a1_1, (⟨za1_2, na1_2, fa1_2⟩ : (Sl S_impl_Backend)), (⟨za1_3, na1_3, fa1_3⟩ : (Sl S_impl_Vip))⟩ : S_impl_Config), enc_bo, fun _ => true⟩ | _ => none
theorem hpc_b11 (fu : Nat) : HpcOk E Try.prog (pcf_b11 fu) := by
 intro f xs o h
 unfold pcf_b11 at h
 split at h
 ·exact good_b7 fu xs o h
 ·exact good_b10 fu xs o h
 ·cases h
theorem goodv_b11 (fu : Nat) (a_0 b_1 : S_impl_Config) (y : Bool) (hy : F_laws_eqConfig fu a_0 b_1 = some y) : Good E Try.prog 30 [(.agg [(ii a_0.Version), (.rs a_0.Backends.z .impl_Backend a_0.Backends.n a_0.Backends.f), (.rs a_0.Vips.z .impl_Vip a_0.Vips.n a_0.Vips.f)]), (.agg [(ii b_1.Version), (.rs b_1.Backends.z .impl_Backend b_1.Backends.n b_1.Backends.f), (.rs b_1.Vips.z .impl_Vip b_1.Vips.n b_1.Vips.f)])] (enc_bo y) :=
 fun_good E_ok (pc_good (pc := pc_b11 fu) (hpc_b11 fu) hpx0) (fn := Try.f30) (by kernel_rfl) (by kernel_rfl) (by kernel_rfl) (lpok_b11 fu) (fun d hd => out_bo_enc d _ hd) ((ev_b11 fu a_0 b_1).trans hy)
theorem good_b11 (fu : Nat) : GoodS E Try.prog 30 (S_b11 fu) := by
 intro xs o h y hy
 unfold S_b11 at h
 split at h
 ·rename_i a0_1 za0_2 na0_2 fa0_2 za0_3 na0_3 fa0_3 a1_1 za1_2 na1_2 fa1_2 za1_3 na1_3 fa1_3
  cases h
  exact goodv_b11 fu (⟨a0_1, (⟨za0_2, na0_2, fa0_2⟩ : (Sl S_impl_Backend)), (⟨za0_3, na0_3, fa0_3⟩ : (Sl S_impl_Vip))⟩ : S_impl_Config) (⟨a1_1, (⟨za1_2, na1_2, fa1_2⟩ : (Sl S_impl_Backend)), (⟨za1_3, na1_3, fa1_3⟩ : (Sl S_impl_Vip))⟩ : S_impl_Config) y hy
 ·cases h
def F_laws_eqConfigResult (fu : Nat) (a_0 b_1 : S_impl_ConfigResult) : Option (Bool) :=
 (bif (a_0.Code != b_1.Code) then (some false) else ((F_laws_eqConfig fu a_0.Config b_1.Config).bind fun y456 => (bif (!y456) then (some false) else (some true))))
def pcf_b12 (fu f : Nat) (xs : List (D RT den)) : Option (Out RT den) := match f with | 30 => S_b11 fu xs | _ => none
def pc_b12 (fu : Nat) : Pc RT den := ⟨pcf_b12 fu, fun _ => false, fun _ => false, pcd0, pcd0, pcd0, pcx0⟩
def msk_b12 (b : Nat) : List Nat := []
def lp_b12 (fu : Nat) : Lp RT den (Bool) := ⟨fun b s k => none, inl0⟩
theorem ev_b12 (fu : Nat) (a_0 b_1 : S_impl_ConfigResult) : evFun E (pc_b12 fu) msk_b12 (lp_b12 fu) out_bo 9 [(.agg [(ii a_0.Code), (ii a_0.Config.Version), (.rs a_0.Config.Backends.z .impl_Backend a_0.Config.Backends.n a_0.Config.Backends.f), (.rs a_0.Config.Vips.z .impl_Vip a_0.Config.Vips.n a_0.Config.Vips.f)]), (.agg [(ii b_1.Code), (ii b_1.Config.Version), (.rs b_1.Config.Backends.z .impl_Backend b_1.Config.Backends.n b_1.Config.Backends.f), (.rs b_1.Config.Vips.z .impl_Vip b_1.Config.Vips.n b_1.Config.Vips.f)])] = F_laws_eqConfigResult fu a_0 b_1 := by kernel_rfl
noncomputable def body_b12 : Code := Try.f9.body.getD .skip
theorem lpok_b12 (fu : Nat) : LpOk E (pc_b12 fu) 0 msk_b12 (lp_b12 fu) (loops 0 body_b12) := lp_nil (loop_nil (by kernel_rfl)) (by kernel_rfl)
def S_b12 (fu : Nat) (xs : List (D RT den)) : Option (Out RT den) := match xs with | [.agg [.int .i64 a0_1, .int .i64 a0_3, .rs za0_4 .impl_Backend na0_4 fa0_4, .rs za0_5 .impl_Vip na0_5 fa0_5], .agg [.int .i64 a1_1, .int .i64 a1_3, .rs za1_4 .impl_Backend na1_4 fa1_4, .rs za1_5 .impl_Vip na1_5 fa1_5]] => some ⟨Bool, F_laws_eqConfigResult fu (⟨a0_1, (⟨a0_3, (⟨za0_4, na0_4, fa0_4⟩ : (Sl S_impl_Backend)), (⟨za0_5, na0_5, fa0_5⟩ : (Sl S_impl_Vip))⟩ : S_impl_Config)⟩ : S_impl_ConfigResult) (⟨a1_1, (⟨a1_3, (⟨za1_4, na1_4, fa1_4⟩ : (Sl S_impl_Backend)), (⟨za1_5, na1_5, fa1_5⟩ : (Sl S_impl_Vip))⟩ : S_impl_Config)⟩ : S_impl_ConfigResult), enc_bo, fun _ => true⟩ | _ => none
theorem hpc_b12 (fu : Nat) : HpcOk E Try.prog (pcf_b12 fu) := by
 intro f xs o h
 unfold pcf_b12 at h
 split at h
 ·exact good_b11 fu xs o h
 ·cases h
theorem goodv_b12 (fu : Nat) (a_0 b_1 : S_impl_ConfigResult) (y : Bool) (hy : F_laws_eqConfigResult fu a_0 b_1 = some y) : Good E Try.prog 9 [(.agg [(ii a_0.Code), (ii a_0.Config.Version), (.rs a_0.Config.Backends.z .impl_Backend a_0.Config.Backends.n a_0.Config.Backends.f), (.rs a_0.Config.Vips.z .impl_Vip a_0.Config.Vips.n a_0.Config.Vips.f)]), (.agg [(ii b_1.Code), (ii b_1.Config.Version), (.rs b_1.Config.Backends.z .impl_Backend b_1.Config.Backends.n b_1.Config.Backends.f), (.rs b_1.Config.Vips.z .impl_Vip b_1.Config.Vips.n b_1.Config.Vips.f)])] (enc_bo y) :=
 fun_good E_ok (pc_good (pc := pc_b12 fu) (hpc_b12 fu) hpx0) (fn := Try.f9) (by kernel_rfl) (by kernel_rfl) (by kernel_rfl) (lpok_b12 fu) (fun d hd => out_bo_enc d _ hd) ((ev_b12 fu a_0 b_1).trans hy)
theorem good_b12 (fu : Nat) : GoodS E Try.prog 9 (S_b12 fu) := by
 intro xs o h y hy
 unfold S_b12 at h
 split at h
 ·rename_i a0_1 a0_3 za0_4 na0_4 fa0_4 za0_5 na0_5 fa0_5 a1_1 a1_3 za1_4 na1_4 fa1_4 za1_5 na1_5 fa1_5
  cases h
  exact goodv_b12 fu (⟨a0_1, (⟨a0_3, (⟨za0_4, na0_4, fa0_4⟩ : (Sl S_impl_Backend)), (⟨za0_5, na0_5, fa0_5⟩ : (Sl S_impl_Vip))⟩ : S_impl_Config)⟩ : S_impl_ConfigResult) (⟨a1_1, (⟨a1_3, (⟨za1_4, na1_4, fa1_4⟩ : (Sl S_impl_Backend)), (⟨za1_5, na1_5, fa1_5⟩ : (Sl S_impl_Vip))⟩ : S_impl_Config)⟩ : S_impl_ConfigResult) y hy
 ·cases h
def F_laws_eqByteS_B0 {ρ : Type} (fu : Nat) (a0_0 b1_1 : (Sl Int)) (k0 : Option ρ) (k1 : Option ρ) (i5_2 : Int) (go : Int → Option ρ) : Option ρ :=
 (bif (decide (i5_2 < ((a0_0.n : Nat) : Int))) then ((bif (decide (0 ≤ i5_2) && decide ((Int.toNat i5_2) < a0_0.n)) then some () else none : Option Unit).bind fun _ => ((bif (decide (0 ≤ i5_2) &&
  decide ((Int.toNat i5_2) < b1_1.n)) then some () else none : Option Unit).bind fun _ => (bif ((a0_0.f (Int.toNat i5_2)) != (b1_1.f (Int.toNat i5_2))) then k0 else (go (IntKind.wrap .i64 (i5_2 + 1)))))) else
  k1)
def F_laws_eqByteS (fu : Nat) (a_0 b_1 : (Sl Int)) : Option (Bool) :=
 (bif (((a_0.n : Nat) : Int) != ((b_1.n : Nat) : Int)) then (some false) else (L (fun w0 go0 => F_laws_eqByteS_B0 fu a_0 b_1 (some false) (some true) w0 go0) fu (0 : Int)))
def pc_b13 (fu : Nat) : Pc RT den := ⟨pcf0, fun _ => false, fun _ => false, pcd0, pcd0, pcd0, pcx0⟩
def msk_b13 (b : Nat) : List Nat := match b with | 0 => (2 :: 3 :: 4 :: (rg 6 20 [])) | 100000 => (0 :: 1 :: 2 :: 3 :: (rg 5 21 [])) | _ => []
def ps_b13_0 : List (Pat RT) := (.flat (.rs .u8) :: .flat (.rs .u8) :: .flat .q :: .flat .q :: .flat .q :: .flat (.int .i64) :: (fq 20 []))
def os_b13_0 : List (OP RT) := []
def conv_b13_0 (r : Raw den ps_b13_0 os_b13_0) : ((Sl Int) × (Sl Int)) × (Int) := ((r.1.1, r.1.2.1), (e5 r.1).1)
def back_b13_0 (c : (Sl Int) × (Sl Int)) (w : Int) : St RT den := ⟨((.rs c.1.z .u8 c.1.n c.1.f) :: (.rs c.2.z .u8 c.2.n c.2.f) :: .q :: .q :: .q :: (ii w) :: (qs 20 [])), []⟩
def Bk_b13_0 {ρ : Type} (fu : Nat) (c : (Sl Int) × (Sl Int)) (k : Ex → St RT den → Option ρ) (w : Int) (go : (Int) → Option ρ) : Option ρ := F_laws_eqByteS_B0 fu c.1 c.2 (k .ret ⟨(qs 4 ((.bool false) :: (qs 21 []))), []⟩) (k (.exit 0) ⟨(qs 26 []), []⟩) w go
def lp_b13 (fu : Nat) : Lp RT den (Bool) := ⟨fun b s k => match b with | 0 => handle ps_b13_0 os_b13_0 conv_b13_0 (Bk_b13_0 fu) fu s k | _ => none, inl0⟩
theorem ev_b13 (fu : Nat) (a_0 b_1 : (Sl Int)) : evFun E (pc_b13 fu) msk_b13 (lp_b13 fu) out_bo 10 [(.rs a_0.z .u8 a_0.n a_0.f), (.rs b_1.z .u8 b_1.n b_1.f)] = F_laws_eqByteS fu a_0 b_1 := by kernel_rfl
noncomputable def body_b13 : Code := Try.f10.body.getD .skip
noncomputable def lc_b13_0 : Code := ((loops 0 body_b13).getD 0 (0, .skip)).2
theorem round_b13_0 (fu : Nat) : RoundOk E (pc_b13 fu) msk_b13 (lp_b13 fu) 0 lc_b13_0 back_b13_0 0 100000 0 (Bk_b13_0 fu) := fun it k c w => by kernel_rfl
theorem lpok_b13_0 (fu : Nat) : LpAt E (pc_b13 fu) msk_b13 (lp_b13 fu) 0 0 100000 0 lc_b13_0 :=
 handle_ok (ps := ps_b13_0) (os := os_b13_0) (conv := conv_b13_0) (B := Bk_b13_0 fu) (fu := fu) back_b13_0 (fun raw => by kernel_rfl) 0 (fun c w => by kernel_rfl) (round_b13_0 fu)
theorem lpok_b13 (fu : Nat) : LpOk E (pc_b13 fu) 0 msk_b13 (lp_b13 fu) (loops 0 body_b13) := lp_nil (loop_all 1 (by kernel_rfl) fun i hi => match i, hi with
 | 0, _ => by
  have h : (loops 0 body_b13).getD 0 (0, .skip) = (0, lc_b13_0) := by kernel_rfl
  rw [h]; exact lpok_b13_0 fu
 | i + 1, hi => absurd hi (by omega)) (by kernel_rfl)
def S_b13 (fu : Nat) (xs : List (D RT den)) : Option (Out RT den) := match xs with | [.rs za0_0 .u8 na0_0 fa0_0, .rs za1_0 .u8 na1_0 fa1_0] => some ⟨Bool, F_laws_eqByteS fu (⟨za0_0, na0_0, fa0_0⟩ : (Sl Int)) (⟨za1_0, na1_0, fa1_0⟩ : (Sl Int)), enc_bo, fun _ => true⟩ | _ => none
theorem goodv_b13 (fu : Nat) (a_0 b_1 : (Sl Int)) (y : Bool) (hy : F_laws_eqByteS fu a_0 b_1 = some y) : Good E Try.prog 10 [(.rs a_0.z .u8 a_0.n a_0.f), (.rs b_1.z .u8 b_1.n b_1.f)] (enc_bo y) :=
 fun_good E_ok (pc_good (pc := pc_b13 fu) hpc0 hpx0) (fn := Try.f10) (by kernel_rfl) (by kernel_rfl) (by kernel_rfl) (lpok_b13 fu) (fun d hd => out_bo_enc d _ hd) ((ev_b13 fu a_0 b_1).trans hy)
theorem good_b13 (fu : Nat) : GoodS E Try.prog 10 (S_b13 fu) := by
 intro xs o h y hy
 unfold S_b13 at h
 split at h
 ·rename_i za0_0 na0_0 fa0_0 za1_0 na1_0 fa1_0
  cases h
  exact goodv_b13 fu (⟨za0_0, na0_0, fa0_0⟩ : (Sl Int)) (⟨za1_0, na1_0, fa1_0⟩ : (Sl Int)) y hy
 ·cases h
def F_laws_heldBackendS_B0 {ρ : Type} (fu : Nat) (a0_0 : (Sl S_impl_Backend)) (k0 : Int → Option ρ) (k1 : Int → Option ρ) (k1_1 i5_2 : Int) (go : Int → Int → Option ρ) : Option ρ :=
 (bif (decide (i5_2 < ((a0_0.n : Nat) : Int))) then ((bif (decide (0 ≤ i5_2) && decide ((Int.toNat i5_2) < a0_0.n)) then some () else none : Option Unit).bind fun _ => (bif ((a0_0.f (Int.toNat i5_2)).Name != k1_1) then
  (k0 k1_1) else ((bif (decide (0 ≤ i5_2) && decide ((Int.toNat i5_2) < a0_0.n)) then some () else none : Option Unit).bind fun _ => (bif ((a0_0.f (Int.toNat i5_2)).Address != (IntKind.wrap .i64 (k1_1 + 1))) then
  (k0 (IntKind.wrap .i64 (k1_1 + 1))) else ((bif (decide (0 ≤ i5_2) && decide ((Int.toNat i5_2) < a0_0.n)) then some () else none : Option Unit).bind fun _ => (bif ((a0_0.f (Int.toNat i5_2)).Weight != (IntKind.wrap .i64 ((IntKind.wrap .i64 (k1_1 + 1)) + 1))) then
  (k0 (IntKind.wrap .i64 ((IntKind.wrap .i64 (k1_1 + 1)) + 1))) else ((bif (decide (0 ≤ i5_2) && decide ((Int.toNat i5_2) < a0_0.n)) then some () else none : Option Unit).bind fun _ =>
  (bif ((a0_0.f (Int.toNat i5_2)).Stage != (IntKind.wrap .i64 ((IntKind.wrap .i64 ((IntKind.wrap .i64 (k1_1 + 1)) + 1)) + 1))) then (k0 (IntKind.wrap .i64 ((IntKind.wrap .i64 ((IntKind.wrap .i64 (k1_1 + 1)) + 1)) + 1))) else
  ((bif (decide (0 ≤ i5_2) && decide ((Int.toNat i5_2) < a0_0.n)) then some () else none : Option Unit).bind fun _ => (bif (!((a0_0.f (Int.toNat i5_2)).Up == ((Int.tmod (IntKind.wrap .i64 ((IntKind.wrap .i64 ((IntKind.wrap .i64 ((IntKind.wrap .i64 (k1_1 + 1)) + 1)) + 1)) + 1)) 3) == 0))) then
  (k0 (IntKind.wrap .i64 ((IntKind.wrap .i64 ((IntKind.wrap .i64 ((IntKind.wrap .i64 (k1_1 + 1)) + 1)) + 1)) + 1))) else (go (IntKind.wrap .i64 ((IntKind.wrap .i64 ((IntKind.wrap .i64 ((IntKind.wrap .i64 ((IntKind.wrap .i64 (k1_1 + 1)) + 1)) + 1)) + 1)) + 1)) (IntKind.wrap .i64 (i5_2 + 1))))))))))))) else
  (k1 k1_1))
def F_laws_heldBackendS (fu : Nat) (a_0 : (Sl S_impl_Backend)) (k_1 : Int) : Option (Int) :=
 (L (fun w0 go0 => F_laws_heldBackendS_B0 fu a_0 (fun z465 => (some (-1))) (fun z466 => (some z466)) w0.1 w0.2 (fun q0 q1 => go0 (q0, q1))) fu ((k_1, 0) : Int × Int))
def pc_b14 (fu : Nat) : Pc RT den := ⟨pcf0, fun _ => false, fun _ => false, pcd0, pcd0, pcd0, pcx0⟩
def msk_b14 (b : Nat) : List Nat := match b with | 0 => (2 :: 3 :: 4 :: (rg 6 54 [])) | 100000 => (0 :: 2 :: 3 :: (rg 5 55 [])) | _ => []
def ps_b14_0 : List (Pat RT) := (.flat (.rs .impl_Backend) :: .flat (.int .i64) :: .flat .q :: .flat .q :: .flat .q :: .flat (.int .i64) :: (fq 54 []))
def os_b14_0 : List (OP RT) := []
def conv_b14_0 (r : Raw den ps_b14_0 os_b14_0) : ((Sl S_impl_Backend)) × (Int × Int) := (r.1.1, (r.1.2.1, (e5 r.1).1))
def back_b14_0 (c : (Sl S_impl_Backend)) (w : Int × Int) : St RT den := ⟨((.rs c.z .impl_Backend c.n c.f) :: (ii w.1) :: .q :: .q :: .q :: (ii w.2) :: (qs 54 [])), []⟩
def Bk_b14_0 {ρ : Type} (fu : Nat) (c : (Sl S_impl_Backend)) (k : Ex → St RT den → Option ρ) (w : Int × Int) (go : (Int × Int) → Option ρ) : Option ρ := F_laws_heldBackendS_B0 fu c (fun a0 => k .ret ⟨(.q :: (ii a0) :: .q :: .q :: (ii (-1)) :: (qs 55 [])), []⟩) (fun a0 => k (.exit 0) ⟨(.q :: (ii a0) :: (qs 58 [])), []⟩) w.1 w.2 (fun q0 q1 => go (q0, q1))
def lp_b14 (fu : Nat) : Lp RT den (Int) := ⟨fun b s k => match b with | 0 => handle ps_b14_0 os_b14_0 conv_b14_0 (Bk_b14_0 fu) fu s k | _ => none, inl0⟩
theorem ev_b14 (fu : Nat) (a_0 : (Sl S_impl_Backend)) (k_1 : Int) : evFun E (pc_b14 fu) msk_b14 (lp_b14 fu) out_i64 86 [(.rs a_0.z .impl_Backend a_0.n a_0.f), (ii k_1)] = F_laws_heldBackendS fu a_0 k_1 := by kernel_rfl
noncomputable def body_b14 : Code := Try.f86.body.getD .skip
noncomputable def lc_b14_0 : Code := ((loops 0 body_b14).getD 0 (0, .skip)).2
theorem round_b14_0 (fu : Nat) : RoundOk E (pc_b14 fu) msk_b14 (lp_b14 fu) 0 lc_b14_0 back_b14_0 0 100000 0 (Bk_b14_0 fu) := fun it k c w => by kernel_rfl
theorem lpok_b14_0 (fu : Nat) : LpAt E (pc_b14 fu) msk_b14 (lp_b14 fu) 0 0 100000 0 lc_b14_0 :=
 handle_ok (ps := ps_b14_0) (os := os_b14_0) (conv := conv_b14_0) (B := Bk_b14_0 fu) (fu := fu) back_b14_0 (fun raw => by kernel_rfl) 0 (fun c w => by kernel_rfl) (round_b14_0 fu)
theorem lpok_b14 (fu : Nat) : LpOk E (pc_b14 fu) 0 msk_b14 (lp_b14 fu) (loops 0 body_b14) := lp_nil (loop_all 1 (by kernel_rfl) fun i hi => match i, hi with
 | 0, _ => by
  have h : (loops 0 body_b14).getD 0 (0, .skip) = (0, lc_b14_0) := by kernel_rfl
  rw [h]; exact lpok_b14_0 fu
 | i + 1, hi => absurd hi (by omega)) (by kernel_rfl)
def S_b14 (fu : Nat) (xs : List (D RT den)) : Option (Out RT den) := match xs with | [.rs za0_0 .impl_Backend na0_0 fa0_0, .int .i64 a1_0] => some ⟨Int, F_laws_heldBackendS fu (⟨za0_0, na0_0, fa0_0⟩ : (Sl S_impl_Backend)) a1_0, enc_i64, fun _ => true⟩ | _ => none
theorem goodv_b14 (fu : Nat) (a_0 : (Sl S_impl_Backend)) (k_1 y : Int) (hy : F_laws_heldBackendS fu a_0 k_1 = some y) : Good E Try.prog 86 [(.rs a_0.z .impl_Backend a_0.n a_0.f), (ii k_1)] (enc_i64 y) :=
 fun_good E_ok (pc_good (pc := pc_b14 fu) hpc0 hpx0) (fn := Try.f86) (by kernel_rfl) (by kernel_rfl) (by kernel_rfl) (lpok_b14 fu) (fun d hd => out_i64_enc d _ hd) ((ev_b14 fu a_0 k_1).trans hy)
theorem good_b14 (fu : Nat) : GoodS E Try.prog 86 (S_b14 fu) := by
 intro xs o h y hy
 unfold S_b14 at h
 split at h
 ·rename_i za0_0 na0_0 fa0_0 a1_0
  cases h
  exact goodv_b14 fu (⟨za0_0, na0_0, fa0_0⟩ : (Sl S_impl_Backend)) a1_0 y hy
 ·cases h
def F_laws_heldInt64S_B0 {ρ : Type} (fu : Nat) (a0_0 : (Sl Int)) (k0 : Int → Option ρ) (k1 : Int → Option ρ) (k1_1 i5_2 : Int) (go : Int → Int → Option ρ) : Option ρ :=
 (bif (decide (i5_2 < ((a0_0.n : Nat) : Int))) then ((bif (decide (0 ≤ i5_2) && decide ((Int.toNat i5_2) < a0_0.n)) then some () else none : Option Unit).bind fun _ => (bif ((a0_0.f (Int.toNat i5_2)) != k1_1) then
  (k0 k1_1) else (go (IntKind.wrap .i64 (k1_1 + 1)) (IntKind.wrap .i64 (i5_2 + 1))))) else (k1 k1_1))
def F_laws_heldInt64S (fu : Nat) (a_0 : (Sl Int)) (k_1 : Int) : Option (Int) :=
 (L (fun w0 go0 => F_laws_heldInt64S_B0 fu a_0 (fun z470 => (some (-1))) (fun z471 => (some z471)) w0.1 w0.2 (fun q0 q1 => go0 (q0, q1))) fu ((k_1, 0) : Int × Int))
def pc_b15 (fu : Nat) : Pc RT den := ⟨pcf0, fun _ => false, fun _ => false, pcd0, pcd0, pcd0, pcx0⟩
def msk_b15 (b : Nat) : List Nat := match b with | 0 => (2 :: 3 :: 4 :: (rg 6 15 [])) | 100000 => (0 :: 2 :: 3 :: (rg 5 16 [])) | _ => []
def ps_b15_0 : List (Pat RT) := (.flat (.rs .i64) :: .flat (.int .i64) :: .flat .q :: .flat .q :: .flat .q :: .flat (.int .i64) :: (fq 15 []))
def os_b15_0 : List (OP RT) := []
def conv_b15_0 (r : Raw den ps_b15_0 os_b15_0) : ((Sl Int)) × (Int × Int) := (r.1.1, (r.1.2.1, (e5 r.1).1))
def back_b15_0 (c : (Sl Int)) (w : Int × Int) : St RT den := ⟨((.rs c.z .i64 c.n c.f) :: (ii w.1) :: .q :: .q :: .q :: (ii w.2) :: (qs 15 [])), []⟩
def Bk_b15_0 {ρ : Type} (fu : Nat) (c : (Sl Int)) (k : Ex → St RT den → Option ρ) (w : Int × Int) (go : (Int × Int) → Option ρ) : Option ρ := F_laws_heldInt64S_B0 fu c (fun a0 => k .ret ⟨(.q :: (ii a0) :: .q :: .q :: (ii (-1)) :: (qs 16 [])), []⟩) (fun a0 => k (.exit 0) ⟨(.q :: (ii a0) :: (qs 19 [])), []⟩) w.1 w.2 (fun q0 q1 => go (q0, q1))
def lp_b15 (fu : Nat) : Lp RT den (Int) := ⟨fun b s k => match b with | 0 => handle ps_b15_0 os_b15_0 conv_b15_0 (Bk_b15_0 fu) fu s k | _ => none, inl0⟩
theorem ev_b15 (fu : Nat) (a_0 : (Sl Int)) (k_1 : Int) : evFun E (pc_b15 fu) msk_b15 (lp_b15 fu) out_i64 125 [(.rs a_0.z .i64 a_0.n a_0.f), (ii k_1)] = F_laws_heldInt64S fu a_0 k_1 := by kernel_rfl
noncomputable def body_b15 : Code := Try.f125.body.getD .skip
noncomputable def lc_b15_0 : Code := ((loops 0 body_b15).getD 0 (0, .skip)).2
theorem round_b15_0 (fu : Nat) : RoundOk E (pc_b15 fu) msk_b15 (lp_b15 fu) 0 lc_b15_0 back_b15_0 0 100000 0 (Bk_b15_0 fu) := fun it k c w => by kernel_rfl
theorem lpok_b15_0 (fu : Nat) : LpAt E (pc_b15 fu) msk_b15 (lp_b15 fu) 0 0 100000 0 lc_b15_0 :=
 handle_ok (ps := ps_b15_0) (os := os_b15_0) (conv := conv_b15_0) (B := Bk_b15_0 fu) (fu := fu) back_b15_0 (fun raw => by kernel_rfl) 0 (fun c w => by kernel_rfl) (round_b15_0 fu)
theorem lpok_b15 (fu : Nat) : LpOk E (pc_b15 fu) 0 msk_b15 (lp_b15 fu) (loops 0 body_b15) := lp_nil (loop_all 1 (by kernel_rfl) fun i hi => match i, hi with
 | 0, _ => by
  have h : (loops 0 body_b15).getD 0 (0, .skip) = (0, lc_b15_0) := by kernel_rfl
  rw [h]; exact lpok_b15_0 fu
 | i + 1, hi => absurd hi (by omega)) (by kernel_rfl)
def S_b15 (fu : Nat) (xs : List (D RT den)) : Option (Out RT den) := match xs with | [.rs za0_0 .i64 na0_0 fa0_0, .int .i64 a1_0] => some ⟨Int, F_laws_heldInt64S fu (⟨za0_0, na0_0, fa0_0⟩ : (Sl Int)) a1_0, enc_i64, fun _ => true⟩ | _ => none
theorem goodv_b15 (fu : Nat) (a_0 : (Sl Int)) (k_1 y : Int) (hy : F_laws_heldInt64S fu a_0 k_1 = some y) : Good E Try.prog 125 [(.rs a_0.z .i64 a_0.n a_0.f), (ii k_1)] (enc_i64 y) :=
 fun_good E_ok (pc_good (pc := pc_b15 fu) hpc0 hpx0) (fn := Try.f125) (by kernel_rfl) (by kernel_rfl) (by kernel_rfl) (lpok_b15 fu) (fun d hd => out_i64_enc d _ hd) ((ev_b15 fu a_0 k_1).trans hy)
theorem good_b15 (fu : Nat) : GoodS E Try.prog 125 (S_b15 fu) := by
 intro xs o h y hy
 unfold S_b15 at h
 split at h
 ·rename_i za0_0 na0_0 fa0_0 a1_0
  cases h
  exact goodv_b15 fu (⟨za0_0, na0_0, fa0_0⟩ : (Sl Int)) a1_0 y hy
 ·cases h
def F_laws_heldVipS_B0 {ρ : Type} (fu : Nat) (a0_0 : (Sl S_impl_Vip)) (k0 : Int → Option ρ) (k1 : Int → Option ρ) (k1_1 i5_2 : Int) (go : Int → Int → Option ρ) : Option ρ :=
 (bif (decide (i5_2 < ((a0_0.n : Nat) : Int))) then ((bif (decide (0 ≤ i5_2) && decide ((Int.toNat i5_2) < a0_0.n)) then some () else none : Option Unit).bind fun _ => (bif ((a0_0.f (Int.toNat i5_2)).Address != k1_1) then
  (k0 k1_1) else ((bif (decide (0 ≤ i5_2) && decide ((Int.toNat i5_2) < a0_0.n)) then some () else none : Option Unit).bind fun _ => (bif ((a0_0.f (Int.toNat i5_2)).Port != (IntKind.wrap .i64 (k1_1 + 1))) then
  (k0 (IntKind.wrap .i64 (k1_1 + 1))) else ((bif (decide (0 ≤ i5_2) && decide ((Int.toNat i5_2) < a0_0.n)) then some () else none : Option Unit).bind fun _ => (bif ((a0_0.f (Int.toNat i5_2)).Proto != (IntKind.wrap .i64 ((IntKind.wrap .i64 (k1_1 + 1)) + 1))) then
  (k0 (IntKind.wrap .i64 ((IntKind.wrap .i64 (k1_1 + 1)) + 1))) else ((bif (decide (0 ≤ i5_2) && decide ((Int.toNat i5_2) < a0_0.n)) then some () else none : Option Unit).bind fun _ =>
  ((F_laws_heldInt64S fu (a0_0.f (Int.toNat i5_2)).Names (IntKind.wrap .i64 ((IntKind.wrap .i64 ((IntKind.wrap .i64 (k1_1 + 1)) + 1)) + 1))).bind fun y467 => (bif (decide (y467 < 0)) then
  (k0 y467) else (go y467 (IntKind.wrap .i64 (i5_2 + 1)))))))))))) else (k1 k1_1))
def F_laws_heldVipS (fu : Nat) (a_0 : (Sl S_impl_Vip)) (k_1 : Int) : Option (Int) :=
 (L (fun w0 go0 => F_laws_heldVipS_B0 fu a_0 (fun z468 => (some (-1))) (fun z469 => (some z469)) w0.1 w0.2 (fun q0 q1 => go0 (q0, q1))) fu ((k_1, 0) : Int × Int))
def pcf_b16 (fu f : Nat) (xs : List (D RT den)) : Option (Out RT den) := match f with | 125 => S_b15 fu xs | _ => none
def pc_b16 (fu : Nat) : Pc RT den := ⟨pcf_b16 fu, fun _ => false, fun _ => false, pcd0, pcd0, pcd0, pcx0⟩
def msk_b16 (b : Nat) : List Nat := match b with | 0 => (2 :: 3 :: 4 :: (rg 6 43 [])) | 100000 => (0 :: 2 :: 3 :: (rg 5 44 [])) | _ => []
def ps_b16_0 : List (Pat RT) := (.flat (.rs .impl_Vip) :: .flat (.int .i64) :: .flat .q :: .flat .q :: .flat .q :: .flat (.int .i64) :: (fq 43 []))
def os_b16_0 : List (OP RT) := []
def conv_b16_0 (r : Raw den ps_b16_0 os_b16_0) : ((Sl S_impl_Vip)) × (Int × Int) := (r.1.1, (r.1.2.1, (e5 r.1).1))
def back_b16_0 (c : (Sl S_impl_Vip)) (w : Int × Int) : St RT den := ⟨((.rs c.z .impl_Vip c.n c.f) :: (ii w.1) :: .q :: .q :: .q :: (ii w.2) :: (qs 43 [])), []⟩
def Bk_b16_0 {ρ : Type} (fu : Nat) (c : (Sl S_impl_Vip)) (k : Ex → St RT den → Option ρ) (w : Int × Int) (go : (Int × Int) → Option ρ) : Option ρ := F_laws_heldVipS_B0 fu c (fun a0 => k .ret ⟨(.q :: (ii a0) :: .q :: .q :: (ii (-1)) :: (qs 44 [])), []⟩) (fun a0 => k (.exit 0) ⟨(.q :: (ii a0) :: (qs 47 [])), []⟩) w.1 w.2 (fun q0 q1 => go (q0, q1))
def lp_b16 (fu : Nat) : Lp RT den (Int) := ⟨fun b s k => match b with | 0 => handle ps_b16_0 os_b16_0 conv_b16_0 (Bk_b16_0 fu) fu s k | _ => none, inl0⟩
theorem ev_b16 (fu : Nat) (a_0 : (Sl S_impl_Vip)) (k_1 : Int) : evFun E (pc_b16 fu) msk_b16 (lp_b16 fu) out_i64 87 [(.rs a_0.z .impl_Vip a_0.n a_0.f), (ii k_1)] = F_laws_heldVipS fu a_0 k_1 := by kernel_rfl
noncomputable def body_b16 : Code := Try.f87.body.getD .skip
noncomputable def lc_b16_0 : Code := ((loops 0 body_b16).getD 0 (0, .skip)).2
theorem round_b16_0 (fu : Nat) : RoundOk E (pc_b16 fu) msk_b16 (lp_b16 fu) 0 lc_b16_0 back_b16_0 0 100000 0 (Bk_b16_0 fu) := fun it k c w => by kernel_rfl
theorem lpok_b16_0 (fu : Nat) : LpAt E (pc_b16 fu) msk_b16 (lp_b16 fu) 0 0 100000 0 lc_b16_0 :=
 handle_ok (ps := ps_b16_0) (os := os_b16_0) (conv := conv_b16_0) (B := Bk_b16_0 fu) (fu := fu) back_b16_0 (fun raw => by kernel_rfl) 0 (fun c w => by kernel_rfl) (round_b16_0 fu)
theorem lpok_b16 (fu : Nat) : LpOk E (pc_b16 fu) 0 msk_b16 (lp_b16 fu) (loops 0 body_b16) := lp_nil (loop_all 1 (by kernel_rfl) fun i hi => match i, hi with
 | 0, _ => by
  have h : (loops 0 body_b16).getD 0 (0, .skip) = (0, lc_b16_0) := by kernel_rfl
  rw [h]; exact lpok_b16_0 fu
 | i + 1, hi => absurd hi (by omega)) (by kernel_rfl)
def S_b16 (fu : Nat) (xs : List (D RT den)) : Option (Out RT den) := match xs with | [.rs za0_0 .impl_Vip na0_0 fa0_0, .int .i64 a1_0] => some ⟨Int, F_laws_heldVipS fu (⟨za0_0, na0_0, fa0_0⟩ : (Sl S_impl_Vip)) a1_0, enc_i64, fun _ => true⟩ | _ => none
theorem hpc_b16 (fu : Nat) : HpcOk E Try.prog (pcf_b16 fu) := by
 intro f xs o h
 unfold pcf_b16 at h
 split at h
 ·exact good_b15 fu xs o h
 ·cases h
theorem goodv_b16 (fu : Nat) (a_0 : (Sl S_impl_Vip)) (k_1 y : Int) (hy : F_laws_heldVipS fu a_0 k_1 = some y) : Good E Try.prog 87 [(.rs a_0.z .impl_Vip a_0.n a_0.f), (ii k_1)] (enc_i64 y) :=
 fun_good E_ok (pc_good (pc := pc_b16 fu) (hpc_b16 fu) hpx0) (fn := Try.f87) (by kernel_rfl) (by kernel_rfl) (by kernel_rfl) (lpok_b16 fu) (fun d hd => out_i64_enc d _ hd) ((ev_b16 fu a_0 k_1).trans hy)
theorem good_b16 (fu : Nat) : GoodS E Try.prog 87 (S_b16 fu) := by
 intro xs o h y hy
 unfold S_b16 at h
 split at h
 ·rename_i za0_0 na0_0 fa0_0 a1_0
  cases h
  exact goodv_b16 fu (⟨za0_0, na0_0, fa0_0⟩ : (Sl S_impl_Vip)) a1_0 y hy
 ·cases h
def F_laws_heldConfig (fu : Nat) (a_0 : S_impl_Config) (k_1 : Int) : Option (Int) :=
 ((F_laws_heldBackendS fu a_0.Backends k_1).bind fun y463 => (bif (decide (y463 < 0)) then (some (-1)) else ((F_laws_heldVipS fu a_0.Vips y463).bind fun y464 => (bif (decide (y464 < 0)) then
  (some (-1)) else (some y464)))))
def pcf_b17 (fu f : Nat) (xs : List (D RT den)) : Option (Out RT den) := match f with | 86 => S_b14 fu xs | 87 => S_b16 fu xs | _ => none
def pc_b17 (fu : Nat) : Pc RT den := ⟨pcf_b17 fu, fun _ => false, fun _ => false, pcd0, pcd0, pcd0, pcx0⟩
def msk_b17 (b : Nat) : List Nat := []
def lp_b17 (fu : Nat) : Lp RT den (Int) := ⟨fun b s k => none, inl0⟩
theorem ev_b17 (fu : Nat) (a_0 : S_impl_Config) (k_1 : Int) : evFun E (pc_b17 fu) msk_b17 (lp_b17 fu) out_i64 39 [(.agg [(ii a_0.Version), (.rs a_0.Backends.z .impl_Backend a_0.Backends.n a_0.Backends.f), (.rs a_0.Vips.z .impl_Vip a_0.Vips.n a_0.Vips.f)]), (ii k_1)] = F_laws_heldConfig fu a_0 k_1 := by kernel_rfl
noncomputable def body_b17 : Code := Try.f39.body.getD .skip
theorem lpok_b17 (fu : Nat) : LpOk E (pc_b17 fu) 0 msk_b17 (lp_b17 fu) (loops 0 body_b17) := lp_nil (loop_nil (by kernel_rfl)) (by kernel_rfl)
def S_b17 (fu : Nat) (xs : List (D RT den)) : Option (Out RT den) := match xs with | [.agg [.int .i64 a0_1, .rs za0_2 .impl_Backend na0_2 fa0_2, .rs za0_3 .impl_Vip na0_3 fa0_3], .int .i64 a1_0] => some ⟨Int, F_laws_heldConfig fu (⟨a0_1, (⟨za0_2, na0_2, fa0_2⟩ : (Sl S_impl_Backend)), (⟨za0_3, na0_3, fa0_3⟩ : (Sl S_impl_Vip))⟩ : S_impl_Config) a1_0, enc_i64, fun _ => true⟩ | _ => none
theorem hpc_b17 (fu : Nat) : HpcOk E Try.prog (pcf_b17 fu) := by
 intro f xs o h
 unfold pcf_b17 at h
 split at h
 ·exact good_b14 fu xs o h
 ·exact good_b16 fu xs o h
 ·cases h
theorem goodv_b17 (fu : Nat) (a_0 : S_impl_Config) (k_1 y : Int) (hy : F_laws_heldConfig fu a_0 k_1 = some y) : Good E Try.prog 39 [(.agg [(ii a_0.Version), (.rs a_0.Backends.z .impl_Backend a_0.Backends.n a_0.Backends.f), (.rs a_0.Vips.z .impl_Vip a_0.Vips.n a_0.Vips.f)]), (ii k_1)] (enc_i64 y) :=
 fun_good E_ok (pc_good (pc := pc_b17 fu) (hpc_b17 fu) hpx0) (fn := Try.f39) (by kernel_rfl) (by kernel_rfl) (by kernel_rfl) (lpok_b17 fu) (fun d hd => out_i64_enc d _ hd) ((ev_b17 fu a_0 k_1).trans hy)
theorem good_b17 (fu : Nat) : GoodS E Try.prog 39 (S_b17 fu) := by
 intro xs o h y hy
 unfold S_b17 at h
 split at h
 ·rename_i a0_1 za0_2 na0_2 fa0_2 za0_3 na0_3 fa0_3 a1_0
  cases h
  exact goodv_b17 fu (⟨a0_1, (⟨za0_2, na0_2, fa0_2⟩ : (Sl S_impl_Backend)), (⟨za0_3, na0_3, fa0_3⟩ : (Sl S_impl_Vip))⟩ : S_impl_Config) a1_0 y hy
 ·cases h
def F_laws_heldConfigResult (fu : Nat) (a_0 : S_impl_ConfigResult) (k_1 : Int) : Option (Int) :=
 ((F_laws_heldConfig fu a_0.Config k_1).bind fun y462 => (bif (decide (y462 < 0)) then (some (-1)) else (some y462)))
def pcf_b18 (fu f : Nat) (xs : List (D RT den)) : Option (Out RT den) := match f with | 39 => S_b17 fu xs | _ => none
def pc_b18 (fu : Nat) : Pc RT den := ⟨pcf_b18 fu, fun _ => false, fun _ => false, pcd0, pcd0, pcd0, pcx0⟩
def msk_b18 (b : Nat) : List Nat := []
def lp_b18 (fu : Nat) : Lp RT den (Int) := ⟨fun b s k => none, inl0⟩
theorem ev_b18 (fu : Nat) (a_0 : S_impl_ConfigResult) (k_1 : Int) : evFun E (pc_b18 fu) msk_b18 (lp_b18 fu) out_i64 13 [(.agg [(ii a_0.Code), (ii a_0.Config.Version), (.rs a_0.Config.Backends.z .impl_Backend a_0.Config.Backends.n a_0.Config.Backends.f), (.rs a_0.Config.Vips.z .impl_Vip a_0.Config.Vips.n a_0.Config.Vips.f)]), (ii k_1)] = F_laws_heldConfigResult fu a_0 k_1 := by kernel_rfl
noncomputable def body_b18 : Code := Try.f13.body.getD .skip
theorem lpok_b18 (fu : Nat) : LpOk E (pc_b18 fu) 0 msk_b18 (lp_b18 fu) (loops 0 body_b18) := lp_nil (loop_nil (by kernel_rfl)) (by kernel_rfl)
def S_b18 (fu : Nat) (xs : List (D RT den)) : Option (Out RT den) := match xs with | [.agg [.int .i64 a0_1, .int .i64 a0_3, .rs za0_4 .impl_Backend na0_4 fa0_4, .rs za0_5 .impl_Vip na0_5 fa0_5], .int .i64 a1_0] => some ⟨Int, F_laws_heldConfigResult fu (⟨a0_1, (⟨a0_3, (⟨za0_4, na0_4, fa0_4⟩ : (Sl S_impl_Backend)), (⟨za0_5, na0_5, fa0_5⟩ : (Sl S_impl_Vip))⟩ : S_impl_Config)⟩ : S_impl_ConfigResult) a1_0, enc_i64, fun _ => true⟩ | _ => none
theorem hpc_b18 (fu : Nat) : HpcOk E Try.prog (pcf_b18 fu) := by
 intro f xs o h
 unfold pcf_b18 at h
 split at h
 ·exact good_b17 fu xs o h
 ·cases h
theorem goodv_b18 (fu : Nat) (a_0 : S_impl_ConfigResult) (k_1 y : Int) (hy : F_laws_heldConfigResult fu a_0 k_1 = some y) : Good E Try.prog 13 [(.agg [(ii a_0.Code), (ii a_0.Config.Version), (.rs a_0.Config.Backends.z .impl_Backend a_0.Config.Backends.n a_0.Config.Backends.f), (.rs a_0.Config.Vips.z .impl_Vip a_0.Config.Vips.n a_0.Config.Vips.f)]), (ii k_1)] (enc_i64 y) :=
 fun_good E_ok (pc_good (pc := pc_b18 fu) (hpc_b18 fu) hpx0) (fn := Try.f13) (by kernel_rfl) (by kernel_rfl) (by kernel_rfl) (lpok_b18 fu) (fun d hd => out_i64_enc d _ hd) ((ev_b18 fu a_0 k_1).trans hy)
theorem good_b18 (fu : Nat) : GoodS E Try.prog 13 (S_b18 fu) := by
 intro xs o h y hy
 unfold S_b18 at h
 split at h
 ·rename_i a0_1 a0_3 za0_4 na0_4 fa0_4 za0_5 na0_5 fa0_5 a1_0
  cases h
  exact goodv_b18 fu (⟨a0_1, (⟨a0_3, (⟨za0_4, na0_4, fa0_4⟩ : (Sl S_impl_Backend)), (⟨za0_5, na0_5, fa0_5⟩ : (Sl S_impl_Vip))⟩ : S_impl_Config)⟩ : S_impl_ConfigResult) a1_0 y hy
 ·cases h
def F_laws_FnExactUnpackConfig (fu : Nat) (aData_0 : (Sl Int)) : Option (Bool) :=
 (bif (decide (((aData_0.n : Nat) : Int) > 1048576)) then (some true) else ((F_laws_toByteS_H fu aData_0).bind fun y3 => ((F_spec_UnpackConfig_U fu (⟨none, y3.n, y3.f⟩ : (Sl Int))).bind fun y206 =>
  ((F_laws_toByteS_H fu aData_0).bind fun y207 => ((F_impl_UnpackConfig_U fu (⟨none, y207.n, y207.f⟩ : (Sl Int))).bind fun y431 => ((F_laws_eqConfigResult fu (⟨y431.1, (⟨y431.2.1,
  (⟨none, y431.2.2.1, y431.2.2.2.2.2.1⟩ : (Sl S_impl_Backend)), (⟨none, y431.2.2.2.1, y431.2.2.2.2.2.2.2⟩ : (Sl S_impl_Vip))⟩ : S_impl_Config)⟩ : S_impl_ConfigResult) (⟨y206.1,
  (⟨y206.2.1, (⟨none, y206.2.2.1, y206.2.2.2.2.2.1⟩ : (Sl S_impl_Backend)), (⟨none, y206.2.2.2.1, y206.2.2.2.2.2.2.2⟩ : (Sl S_impl_Vip))⟩ : S_impl_Config)⟩ : S_impl_ConfigResult)).bind fun y432 =>
  (bif (!y432) then (some false) else ((F_laws_toByteS_H fu aData_0).bind fun y433 => ((F_laws_eqByteS fu (⟨none, y207.n, y207.f⟩ : (Sl Int)) (⟨none, y433.n, y433.f⟩ : (Sl Int))).bind fun y434 =>
  (bif (!y434) then (some false) else ((F_laws_markByteS_L fu y207.n 1 y207.n y207.f).bind fun y437 => (((bif (decide (y437.1 < 0)) then (some true) else ((F_laws_eqConfigResult fu (⟨y431.1,
  (⟨y431.2.1, (⟨none, y431.2.2.1, y431.2.2.2.2.2.1⟩ : (Sl S_impl_Backend)), (⟨none, y431.2.2.2.1, y431.2.2.2.2.2.2.2⟩ : (Sl S_impl_Vip))⟩ : S_impl_Config)⟩ : S_impl_ConfigResult) (⟨y206.1,
  (⟨y206.2.1, (⟨none, y206.2.2.1, y206.2.2.2.2.2.1⟩ : (Sl S_impl_Backend)), (⟨none, y206.2.2.2.1, y206.2.2.2.2.2.2.2⟩ : (Sl S_impl_Vip))⟩ : S_impl_Config)⟩ : S_impl_ConfigResult)).bind fun y438 =>
  (some (!y438)))) : Option Bool).bind fun m439 => (bif m439 then (some false) else ((F_laws_markConfigResult_U fu y431.1 y431.2.1 y431.2.2.1 y431.2.2.2.1 1 y431.2.2.2.2.1 y431.2.2.2.2.2.1 y431.2.2.2.2.2.2.1 y431.2.2.2.2.2.2.1 y431.2.2.2.2.2.2.2).bind fun y450 =>
  ((F_laws_heldConfigResult fu (⟨y431.1, (⟨y431.2.1, (⟨none, y431.2.2.1, y450.2.2.1⟩ : (Sl S_impl_Backend)), (⟨none, y431.2.2.2.1, y450.2.2.2.2.2⟩ : (Sl S_impl_Vip))⟩ : S_impl_Config)⟩ : S_impl_ConfigResult) 1).bind fun y451 =>
  (bif (decide (y451 < 0)) then (some false) else (bif (y451 != y450.1) then (some false) else ((F_laws_toByteS_H fu aData_0).bind fun y452 => ((F_impl_UnpackConfig_U fu (⟨none,
  y452.n, y452.f⟩ : (Sl Int))).bind fun y453 => ((F_laws_eqConfigResult fu (⟨y453.1, (⟨y453.2.1, (⟨none, y453.2.2.1, y453.2.2.2.2.2.1⟩ : (Sl S_impl_Backend)), (⟨none,
  y453.2.2.2.1, y453.2.2.2.2.2.2.2⟩ : (Sl S_impl_Vip))⟩ : S_impl_Config)⟩ : S_impl_ConfigResult) (⟨y206.1, (⟨y206.2.1, (⟨none, y206.2.2.1, y206.2.2.2.2.2.1⟩ : (Sl S_impl_Backend)),
  (⟨none, y206.2.2.2.1, y206.2.2.2.2.2.2.2⟩ : (Sl S_impl_Vip))⟩ : S_impl_Config)⟩ : S_impl_ConfigResult)).bind fun y454 => (bif (!y454) then (some false) else
  ((F_laws_heldConfigResult fu (⟨y431.1, (⟨y431.2.1, (⟨none, y431.2.2.1, y450.2.2.1⟩ : (Sl S_impl_Backend)), (⟨none, y431.2.2.2.1, y450.2.2.2.2.2⟩ : (Sl S_impl_Vip))⟩ : S_impl_Config)⟩ : S_impl_ConfigResult) 1).bind fun y455 =>
  (bif (decide (y455 < 0)) then (some false) else (bif (y455 != y450.1) then (some false) else (some true)))))))))))))))))))))))))
def pcf_b19 (fu f : Nat) (xs : List (D RT den)) : Option (Out RT den) := match f with | 9 => S_b12 fu xs | 10 => S_b13 fu xs | 13 => S_b18 fu xs | _ => none
def pcx_b19 (fu f : Nat) (xs : List (D RT den)) (ins : List (Ob RT den)) : Option (OutX RT den) := match f with | 6 => S_a16 fu xs ins | 7 => S_a0 fu xs ins | 8 => S_a39 fu xs ins | 11 => S_b0 fu xs ins | 12 => S_b5 fu xs ins | _ => none
def pcd_b19 : Nat → Bool := fun f => match f with | 6 => true | 8 => true | 12 => true | _ => false
def pc_b19 (fu : Nat) : Pc RT den := ⟨pcf_b19 fu, fun f => match f with | 6 => true | 7 => true | 8 => true | 11 => true | 12 => true | _ => false, fun f => match f with | 11 => true | 12 => true | _ => false, pcd_b19, pcd0, pcd0, pcx_b19 fu⟩
def msk_b19 (b : Nat) : List Nat := match b with | 200012 => [39] | _ => []
def lp_b19 (fu : Nat) : Lp RT den (Bool) := ⟨fun b s k => none, inl0⟩
theorem ev_b19 (fu : Nat) (aData_0 : (Sl Int)) : evFun E (pc_b19 fu) msk_b19 (lp_b19 fu) out_bo 3 [(.rs aData_0.z .u8 aData_0.n aData_0.f)] = F_laws_FnExactUnpackConfig fu aData_0 := by kernel_rfl
noncomputable def body_b19 : Code := Try.f3.body.getD .skip
theorem lpok_b19 (fu : Nat) : LpOk E (pc_b19 fu) 0 msk_b19 (lp_b19 fu) (loops 0 body_b19) := lp_nil (loop_nil (by kernel_rfl)) (by kernel_rfl)
def S_b19 (fu : Nat) (xs : List (D RT den)) : Option (Out RT den) := match xs with | [.rs za0_0 .u8 na0_0 fa0_0] => some ⟨Bool, F_laws_FnExactUnpackConfig fu (⟨za0_0, na0_0, fa0_0⟩ : (Sl Int)), enc_bo, fun _ => true⟩ | _ => none
theorem hpc_b19 (fu : Nat) : HpcOk E Try.prog (pcf_b19 fu) := by
 intro f xs o h
 unfold pcf_b19 at h
 split at h
 ·exact good_b12 fu xs o h
 ·exact good_b13 fu xs o h
 ·exact good_b18 fu xs o h
 ·cases h
theorem hpx_b19 (fu : Nat) : HpxOk E Try.prog pcd_b19 pcd0 (pcx_b19 fu) := by
 intro f xs ins o h
 unfold pcx_b19 at h
 split at h
 ·exact good_a16 fu xs ins o h
 ·exact good_a0 fu xs ins o h
 ·exact good_a39 fu xs ins o h
 ·exact good_b0 fu xs ins o h
 ·exact good_b5 fu xs ins o h
 ·cases h
theorem goodv_b19 (fu : Nat) (aData_0 : (Sl Int)) (y : Bool) (hy : F_laws_FnExactUnpackConfig fu aData_0 = some y) : Good E Try.prog 3 [(.rs aData_0.z .u8 aData_0.n aData_0.f)] (enc_bo y) :=
 fun_good E_ok (pc_good (pc := pc_b19 fu) (hpc_b19 fu) (hpx_b19 fu)) (fn := Try.f3) (by kernel_rfl) (by kernel_rfl) (by kernel_rfl) (lpok_b19 fu) (fun d hd => out_bo_enc d _ hd) ((ev_b19 fu aData_0).trans hy)
theorem good_b19 (fu : Nat) : GoodS E Try.prog 3 (S_b19 fu) := by
 intro xs o h y hy
 unfold S_b19 at h
 split at h
 ·rename_i za0_0 na0_0 fa0_0
  cases h
  exact goodv_b19 fu (⟨za0_0, na0_0, fa0_0⟩ : (Sl Int)) y hy
 ·cases h
end Go.Proofs.Ytcmfekgdlaffkaa.Pc
