/- The functions' evaluated forms, each a proved summary. Conditions: none. -/
import Derived.Test.YtmgndndkkeinfaaGreatPcF1
namespace Go.Proofs.YtmgndndkkeinfaaGreat.Pc
open Go Go.RowKit Go.Proofs Vm
set_option linter.unusedVariables false
set_option linter.unusedSimpArgs false
set_option maxRecDepth 100000
/-! spec.l5Shares -/
def F_spec_l5Shares_B0 {ρ : Type} (fu : Nat) (c0_0 : Int) (c0_1 : (Sl S_impl_Backend)) (c0_2 : (Sl S_impl_Vip)) (vip1_3 : Int) (k0 : Nat → Nat → (Nat → S_impl_Share) → Option ρ) (out5_4 : Nat) (i6_5 : Int) (on0_6 : Nat) (of0_7 : (Nat → S_impl_Share)) (go : Nat → Int → Nat → (Nat → S_impl_Share) → Option ρ) : Option ρ :=
  ((bif (decide (0 ≤ vip1_3) && decide ((Int.toNat vip1_3) < c0_2.n)) then some () else none : Option Unit).bind fun _ => (bif (decide (i6_5 < (((c0_2.f (Int.toNat vip1_3)).Names.n : Nat) : Int))) then
    ((bif (decide (0 ≤ vip1_3) && decide ((Int.toNat vip1_3) < c0_2.n)) then some () else none : Option Unit).bind fun _ => ((bif (decide (0 ≤ i6_5) && decide ((Int.toNat i6_5) < (c0_2.f (Int.toNat vip1_3)).Names.n)) then
    some () else none : Option Unit).bind fun _ => ((F_spec_l5At fu (⟨c0_0, c0_1, c0_2⟩ : S_impl_Config) ((c0_2.f (Int.toNat vip1_3)).Names.f (Int.toNat i6_5))).bind fun y109 =>
    ((bif (decide (0 ≤ y109) && decide ((Int.toNat y109) < c0_1.n)) then some () else none : Option Unit).bind fun _ => (((bif (c0_1.f (Int.toNat y109)).Up then (some ((c0_1.f (Int.toNat y109)).Stage == 1)) else
    (some false)) : Option Bool).bind fun m110 => (bif m110 then (bif (decide ((out5_4 + 1) ≤ 9223372036854775807) && decide ((out5_4 + 1) * 16 ≤ 140737488355328)) then (go (out5_4 + 1) (IntKind.wrap .i64 (i6_5 + 1)) (out5_4 + 1) (fun i =>
    if i < out5_4 then (of0_7 i) else ((fun i => [(⟨(c0_1.f (Int.toNat y109)).Name, (c0_1.f (Int.toNat y109)).Weight⟩ : S_impl_Share)].getD i (dflt .impl_Share)) (i - out5_4)))) else
    none) else (go out5_4 (IntKind.wrap .i64 (i6_5 + 1)) on0_6 of0_7))))))) else (k0 out5_4 on0_6 of0_7)))
def F_spec_l5Shares (fu : Nat) (c_0 : S_impl_Config) (vip_1 : Int) : Option ((Sl S_impl_Share)) :=
  (L (fun w0 go0 => F_spec_l5Shares_B0 fu c_0.Version c_0.Backends c_0.Vips vip_1 (fun z111 z112 z113 => (some (⟨none, z111, z113⟩ : (Sl S_impl_Share)))) w0.1 w0.2.1 w0.2.2.1 w0.2.2.2 (fun q0 q1 q2 q3 =>
    go0 (q0, q1, q2, q3))) fu ((0, 0, 0, (fun _ => dflt .impl_Share)) : Nat × Int × Nat × (Nat → S_impl_Share)))
def pcf_spec_l5Shares (fu : Nat) (f : Nat) (xs : List (D RT den)) : Option (Out RT den) := match f with | 94 => S_spec_l5At fu xs | _ => none
def pcx_spec_l5Shares (fu : Nat) (f : Nat) (xs : List (D RT den)) (ins : List (Ob RT den)) : Option (OutX RT den) := none
def pc_spec_l5Shares (fu : Nat) : Pc RT den := ⟨pcf_spec_l5Shares fu, fun _ => false, fun _ => false, pcx_spec_l5Shares fu⟩
def msk_spec_l5Shares (b : Nat) : List Nat := match b with | 0 => [2, 3, 4, 7, 8, 9, 10, 11, 12, 13, 14, 15, 16, 17, 18, 19, 20, 21, 22, 23, 24, 25, 26, 27, 28, 29, 30, 31, 32, 33, 34, 35, 36, 37, 38, 39, 40, 41, 42, 43, 44, 45, 46, 47, 48, 49, 50, 51, 52, 53, 54, 55, 56] | 100000 => [0, 1, 2, 3, 6, 7, 8, 9, 10, 11, 12, 13, 14, 15, 16, 17, 18, 19, 20, 21, 22, 23, 24, 25, 26, 27, 28, 29, 30, 31, 32, 33, 34, 35, 36, 37, 38, 39, 40, 41, 42, 43, 44, 45, 46, 47, 48, 49, 50, 51, 52, 53, 54, 55, 56] | 200006 => [47] | 300000 => [5] | _ => []
def ps_spec_l5Shares_0 : List (Pat RT) := [.rptr [(.int .i64), (.rs .impl_Backend), (.rs .impl_Vip)], .flat (.int .i64), .flat .dead, .flat .dead, .flat .dead, .flat (.os 0), .flat (.int .i64), .flat .dead, .flat .dead, .flat .dead, .flat .dead, .flat .dead, .flat .dead, .flat .dead, .flat .dead, .flat .dead, .flat .dead, .flat .dead, .flat .dead, .flat .dead, .flat .dead, .flat .dead, .flat .dead, .flat .dead, .flat .dead, .flat .dead, .flat .dead, .flat .dead, .flat .dead, .flat .dead, .flat .dead, .flat .dead, .flat .dead, .flat .dead, .flat .dead, .flat .dead, .flat .dead, .flat .dead, .flat .dead, .flat .dead, .flat .dead, .flat .dead, .flat .dead, .flat .dead, .flat .dead, .flat .dead, .flat .dead, .flat .dead, .flat .dead, .flat .dead, .flat .dead, .flat .dead, .flat .dead, .flat .dead, .flat .dead, .flat .dead, .flat .dead]
def os_spec_l5Shares_0 : List (OP RT) := [.row false .impl_Share]
def conv_spec_l5Shares_0 (r : Raw den ps_spec_l5Shares_0 os_spec_l5Shares_0) : (Int × (Sl S_impl_Backend) × (Sl S_impl_Vip) × Int) × (Nat × Int × Nat × (Nat → S_impl_Share)) := ((r.1.1.1, r.1.1.2.1, r.1.1.2.2.1, r.1.2.1), (r.1.2.2.2.2.2.1, r.1.2.2.2.2.2.2.1, r.2.1.1, r.2.1.2))
def back_spec_l5Shares_0 (c : Int × (Sl S_impl_Backend) × (Sl S_impl_Vip) × Int) (w : Nat × Int × Nat × (Nat → S_impl_Share)) : St RT den := ⟨[(.rptr [(.int .i64 c.1), (.rs c.2.1.z .impl_Backend c.2.1.n c.2.1.f), (.rs c.2.2.1.z .impl_Vip c.2.2.1.n c.2.2.1.f)]), (.int .i64 c.2.2.2), .dead, .dead, .dead, (.os 0 w.1), (.int .i64 w.2.1), .dead, .dead, .dead, .dead, .dead, .dead, .dead, .dead, .dead, .dead, .dead, .dead, .dead, .dead, .dead, .dead, .dead, .dead, .dead, .dead, .dead, .dead, .dead, .dead, .dead, .dead, .dead, .dead, .dead, .dead, .dead, .dead, .dead, .dead, .dead, .dead, .dead, .dead, .dead, .dead, .dead, .dead, .dead, .dead, .dead, .dead, .dead, .dead, .dead, .dead], [(.row false .impl_Share w.2.2.1 w.2.2.2)]⟩
def Bk_spec_l5Shares_0 {ρ : Type} (fu : Nat) (c : Int × (Sl S_impl_Backend) × (Sl S_impl_Vip) × Int) (k : Ex → St RT den → Option ρ) (w : Nat × Int × Nat × (Nat → S_impl_Share)) (go : (Nat × Int × Nat × (Nat → S_impl_Share)) → Option ρ) : Option ρ := F_spec_l5Shares_B0 fu c.1 c.2.1 c.2.2.1 c.2.2.2 (fun a0 a1 a2 => k (.exit 0) ⟨[.dead, .dead, .dead, .dead, .dead, (.os 0 a0), .dead, .dead, .dead, .dead, .dead, .dead, .dead, .dead, .dead, .dead, .dead, .dead, .dead, .dead, .dead, .dead, .dead, .dead, .dead, .dead, .dead, .dead, .dead, .dead, .dead, .dead, .dead, .dead, .dead, .dead, .dead, .dead, .dead, .dead, .dead, .dead, .dead, .dead, .dead, .dead, .dead, .dead, .dead, .dead, .dead, .dead, .dead, .dead, .dead, .dead, .dead], [(.row false .impl_Share a1 a2)]⟩) w.1 w.2.1 w.2.2.1 w.2.2.2 (fun q0 q1 q2 q3 => go (q0, q1, q2, q3))
def lp_spec_l5Shares (fu : Nat) : Lp RT den ((Sl S_impl_Share)) := fun b s k => match b with | 0 => handle ps_spec_l5Shares_0 os_spec_l5Shares_0 conv_spec_l5Shares_0 (Bk_spec_l5Shares_0 fu) fu s k | _ => none
theorem ev_spec_l5Shares (fu : Nat) (c_0 : S_impl_Config) (vip_1 : Int) : evFun E (pc_spec_l5Shares fu) msk_spec_l5Shares (lp_spec_l5Shares fu) out_sl_impl_Share 68 [(.rptr [(.int .i64 c_0.Version), (.rs c_0.Backends.z .impl_Backend c_0.Backends.n c_0.Backends.f), (.rs c_0.Vips.z .impl_Vip c_0.Vips.n c_0.Vips.f)]), (.int .i64 vip_1)] = F_spec_l5Shares fu c_0 vip_1 := by kernel_rfl
noncomputable def body_spec_l5Shares : Code := Tryz.f68.body.getD .skip
noncomputable def lc_spec_l5Shares_0 : Code := ((loops 0 body_spec_l5Shares).getD 0 (0, .skip)).2
theorem round_spec_l5Shares_0 (fu : Nat) (it : St RT den → Option ((Sl S_impl_Share))) (k : Ex → St RT den → Option ((Sl S_impl_Share))) c w : evCode E (pc_spec_l5Shares fu) msk_spec_l5Shares (lp_spec_l5Shares fu) 0 lc_spec_l5Shares_0 (back_spec_l5Shares_0 c w) (after (msk_spec_l5Shares 0) (msk_spec_l5Shares 100000) 1 it k) = Bk_spec_l5Shares_0 fu c k w (fun w => it (back_spec_l5Shares_0 c w)) := by kernel_rfl
theorem lpok_spec_l5Shares_0 (fu : Nat) : ∀ s k r, lp_spec_l5Shares fu 0 s k = some r → ∃ fuel, iter (msk_spec_l5Shares 0) (msk_spec_l5Shares 100000) s.objs.length (evCode E (pc_spec_l5Shares fu) msk_spec_l5Shares (lp_spec_l5Shares fu) 0 lc_spec_l5Shares_0) fuel s k = some r :=
  handle_ok (ps := ps_spec_l5Shares_0) (os := os_spec_l5Shares_0) (conv := conv_spec_l5Shares_0) (B := Bk_spec_l5Shares_0 fu) (fu := fu) back_spec_l5Shares_0 (fun raw => by kernel_rfl) 1 (fun c w => by kernel_rfl) (round_spec_l5Shares_0 fu)
theorem lpok_spec_l5Shares (fu : Nat) : LpOk E (pc_spec_l5Shares fu) msk_spec_l5Shares (lp_spec_l5Shares fu) (loops 0 body_spec_l5Shares) := loop_all 1 (by kernel_rfl) fun i hi => match i, hi with
  | 0, _ => by
    have h : (loops 0 body_spec_l5Shares).getD 0 (0, .skip) = (0, lc_spec_l5Shares_0) := by kernel_rfl
    rw [h]; exact lpok_spec_l5Shares_0 fu
  | i + 1, hi => absurd hi (by omega)
def S_spec_l5Shares (fu : Nat) (xs : List (D RT den)) : Option (Out RT den) := match xs with | [.rptr (.int .i64 a0_1 :: .rs za0_2 .impl_Backend na0_2 fa0_2 :: .rs za0_3 .impl_Vip na0_3 fa0_3 :: ra0), .int .i64 a1_0] => some ⟨(Sl S_impl_Share), F_spec_l5Shares fu (⟨a0_1, (⟨za0_2, na0_2, fa0_2⟩ : (Sl S_impl_Backend)), (⟨za0_3, na0_3, fa0_3⟩ : (Sl S_impl_Vip))⟩ : S_impl_Config) a1_0, enc_sl_impl_Share, fun _ => true⟩ | _ => none
theorem hpc_spec_l5Shares (fu : Nat) : ∀ f xs o, pcf_spec_l5Shares fu f xs = some o → ∀ y, o.x = some y → Good E Tryz.prog f xs (o.g y) := by
  intro f xs o h
  unfold pcf_spec_l5Shares at h
  split at h
  · exact good_spec_l5At fu xs o h
  · cases h
theorem hpx_spec_l5Shares (fu : Nat) : ∀ f xs ins o, pcx_spec_l5Shares fu f xs ins = some o → ∀ y, o.x = some y → GoodX E Tryz.prog f xs ins (o.g y).1 (o.g y).2 := by
  intro f xs ins o h
  cases h
theorem goodv_spec_l5Shares (fu : Nat) (c_0 : S_impl_Config) (vip_1 : Int) (y : (Sl S_impl_Share)) (hy : F_spec_l5Shares fu c_0 vip_1 = some y) : Good E Tryz.prog 68 [(.rptr [(.int .i64 c_0.Version), (.rs c_0.Backends.z .impl_Backend c_0.Backends.n c_0.Backends.f), (.rs c_0.Vips.z .impl_Vip c_0.Vips.n c_0.Vips.f)]), (.int .i64 vip_1)] (enc_sl_impl_Share y) :=
  fun_good E_ok (pc_good (pc := pc_spec_l5Shares fu) (hpc_spec_l5Shares fu) (hpx_spec_l5Shares fu)) (fn := Tryz.f68) (c := body_spec_l5Shares) (out := out_sl_impl_Share) (y := y) (by kernel_rfl) (by kernel_rfl) (by kernel_rfl) (lpok_spec_l5Shares fu) (fun d hd => out_sl_impl_Share_enc d _ hd) ((ev_spec_l5Shares fu c_0 vip_1).trans hy)
theorem good_spec_l5Shares (fu : Nat) : ∀ xs o, S_spec_l5Shares fu xs = some o → ∀ y, o.x = some y → Good E Tryz.prog 68 xs (o.g y) := by
  intro xs o h y hy
  unfold S_spec_l5Shares at h
  split at h
  · rename_i a0_1 za0_2 na0_2 fa0_2 za0_3 na0_3 fa0_3 ra0 a1_0
    cases h
    exact (goodv_spec_l5Shares fu (⟨a0_1, (⟨za0_2, na0_2, fa0_2⟩ : (Sl S_impl_Backend)), (⟨za0_3, na0_3, fa0_3⟩ : (Sl S_impl_Vip))⟩ : S_impl_Config) a1_0 y hy).sub ⟨Sub.of_eq ra0 rfl, .refl _, trivial⟩
  · cases h

/-! spec.l4Weights -/
def F_spec_l4Weights_B0 {ρ : Type} (fu : Nat) (list0_0 : (Sl S_impl_Share)) (k0 : Int → Option ρ) (n3_1 : Int) (i4_2 : Int) (go : Int → Int → Option ρ) : Option ρ :=
  (bif (decide (i4_2 < ((list0_0.n : Nat) : Int))) then ((bif (decide (0 ≤ i4_2) && decide ((Int.toNat i4_2) < list0_0.n)) then some () else none : Option Unit).bind fun _ => (go (IntKind.wrap .i64 (n3_1 + (list0_0.f (Int.toNat i4_2)).Weight)) (IntKind.wrap .i64 (i4_2 + 1)))) else
    (k0 n3_1))
def F_spec_l4Weights (fu : Nat) (list_0 : (Sl S_impl_Share)) : Option (Int) :=
  (L (fun w0 go0 => F_spec_l4Weights_B0 fu list_0 (fun z122 => (some z122)) w0.1 w0.2 (fun q0 q1 => go0 (q0, q1))) fu ((0, 0) : Int × Int))
def pcf_spec_l4Weights (fu : Nat) (f : Nat) (xs : List (D RT den)) : Option (Out RT den) := none
def pcx_spec_l4Weights (fu : Nat) (f : Nat) (xs : List (D RT den)) (ins : List (Ob RT den)) : Option (OutX RT den) := none
def pc_spec_l4Weights (fu : Nat) : Pc RT den := ⟨pcf_spec_l4Weights fu, fun _ => false, fun _ => false, pcx_spec_l4Weights fu⟩
def msk_spec_l4Weights (b : Nat) : List Nat := match b with | 0 => [1, 2, 5, 6, 7, 8, 9, 10, 11, 12, 13, 14, 15, 16, 17, 18] | 100000 => [0, 1, 4, 5, 6, 7, 8, 9, 10, 11, 12, 13, 14, 15, 16, 17, 18] | _ => []
def ps_spec_l4Weights_0 : List (Pat RT) := [.flat (.rs .impl_Share), .flat .dead, .flat .dead, .flat (.int .i64), .flat (.int .i64), .flat .dead, .flat .dead, .flat .dead, .flat .dead, .flat .dead, .flat .dead, .flat .dead, .flat .dead, .flat .dead, .flat .dead, .flat .dead, .flat .dead, .flat .dead, .flat .dead]
def os_spec_l4Weights_0 : List (OP RT) := []
def conv_spec_l4Weights_0 (r : Raw den ps_spec_l4Weights_0 os_spec_l4Weights_0) : ((Sl S_impl_Share)) × (Int × Int) := (r.1.1, (r.1.2.2.2.1, r.1.2.2.2.2.1))
def back_spec_l4Weights_0 (c : (Sl S_impl_Share)) (w : Int × Int) : St RT den := ⟨[(.rs c.z .impl_Share c.n c.f), .dead, .dead, (.int .i64 w.1), (.int .i64 w.2), .dead, .dead, .dead, .dead, .dead, .dead, .dead, .dead, .dead, .dead, .dead, .dead, .dead, .dead], []⟩
def Bk_spec_l4Weights_0 {ρ : Type} (fu : Nat) (c : (Sl S_impl_Share)) (k : Ex → St RT den → Option ρ) (w : Int × Int) (go : (Int × Int) → Option ρ) : Option ρ := F_spec_l4Weights_B0 fu c (fun a0 => k (.exit 0) ⟨[.dead, .dead, .dead, (.int .i64 a0), .dead, .dead, .dead, .dead, .dead, .dead, .dead, .dead, .dead, .dead, .dead, .dead, .dead, .dead, .dead], []⟩) w.1 w.2 (fun q0 q1 => go (q0, q1))
def lp_spec_l4Weights (fu : Nat) : Lp RT den (Int) := fun b s k => match b with | 0 => handle ps_spec_l4Weights_0 os_spec_l4Weights_0 conv_spec_l4Weights_0 (Bk_spec_l4Weights_0 fu) fu s k | _ => none
theorem ev_spec_l4Weights (fu : Nat) (list_0 : (Sl S_impl_Share)) : evFun E (pc_spec_l4Weights fu) msk_spec_l4Weights (lp_spec_l4Weights fu) out_i64 92 [(.rs list_0.z .impl_Share list_0.n list_0.f)] = F_spec_l4Weights fu list_0 := by kernel_rfl
noncomputable def body_spec_l4Weights : Code := Tryz.f92.body.getD .skip
noncomputable def lc_spec_l4Weights_0 : Code := ((loops 0 body_spec_l4Weights).getD 0 (0, .skip)).2
theorem round_spec_l4Weights_0 (fu : Nat) (it : St RT den → Option (Int)) (k : Ex → St RT den → Option (Int)) c w : evCode E (pc_spec_l4Weights fu) msk_spec_l4Weights (lp_spec_l4Weights fu) 0 lc_spec_l4Weights_0 (back_spec_l4Weights_0 c w) (after (msk_spec_l4Weights 0) (msk_spec_l4Weights 100000) 0 it k) = Bk_spec_l4Weights_0 fu c k w (fun w => it (back_spec_l4Weights_0 c w)) := by kernel_rfl
theorem lpok_spec_l4Weights_0 (fu : Nat) : ∀ s k r, lp_spec_l4Weights fu 0 s k = some r → ∃ fuel, iter (msk_spec_l4Weights 0) (msk_spec_l4Weights 100000) s.objs.length (evCode E (pc_spec_l4Weights fu) msk_spec_l4Weights (lp_spec_l4Weights fu) 0 lc_spec_l4Weights_0) fuel s k = some r :=
  handle_ok (ps := ps_spec_l4Weights_0) (os := os_spec_l4Weights_0) (conv := conv_spec_l4Weights_0) (B := Bk_spec_l4Weights_0 fu) (fu := fu) back_spec_l4Weights_0 (fun raw => by kernel_rfl) 0 (fun c w => by kernel_rfl) (round_spec_l4Weights_0 fu)
theorem lpok_spec_l4Weights (fu : Nat) : LpOk E (pc_spec_l4Weights fu) msk_spec_l4Weights (lp_spec_l4Weights fu) (loops 0 body_spec_l4Weights) := loop_all 1 (by kernel_rfl) fun i hi => match i, hi with
  | 0, _ => by
    have h : (loops 0 body_spec_l4Weights).getD 0 (0, .skip) = (0, lc_spec_l4Weights_0) := by kernel_rfl
    rw [h]; exact lpok_spec_l4Weights_0 fu
  | i + 1, hi => absurd hi (by omega)
def S_spec_l4Weights (fu : Nat) (xs : List (D RT den)) : Option (Out RT den) := match xs with | [.rs za0_0 .impl_Share na0_0 fa0_0] => some ⟨Int, F_spec_l4Weights fu (⟨za0_0, na0_0, fa0_0⟩ : (Sl S_impl_Share)), enc_i64, fun _ => true⟩ | _ => none
theorem hpc_spec_l4Weights (fu : Nat) : ∀ f xs o, pcf_spec_l4Weights fu f xs = some o → ∀ y, o.x = some y → Good E Tryz.prog f xs (o.g y) := by
  intro f xs o h
  cases h
theorem hpx_spec_l4Weights (fu : Nat) : ∀ f xs ins o, pcx_spec_l4Weights fu f xs ins = some o → ∀ y, o.x = some y → GoodX E Tryz.prog f xs ins (o.g y).1 (o.g y).2 := by
  intro f xs ins o h
  cases h
theorem goodv_spec_l4Weights (fu : Nat) (list_0 : (Sl S_impl_Share)) (y : Int) (hy : F_spec_l4Weights fu list_0 = some y) : Good E Tryz.prog 92 [(.rs list_0.z .impl_Share list_0.n list_0.f)] (enc_i64 y) :=
  fun_good E_ok (pc_good (pc := pc_spec_l4Weights fu) (hpc_spec_l4Weights fu) (hpx_spec_l4Weights fu)) (fn := Tryz.f92) (c := body_spec_l4Weights) (out := out_i64) (y := y) (by kernel_rfl) (by kernel_rfl) (by kernel_rfl) (lpok_spec_l4Weights fu) (fun d hd => out_i64_enc d _ hd) ((ev_spec_l4Weights fu list_0).trans hy)
theorem good_spec_l4Weights (fu : Nat) : ∀ xs o, S_spec_l4Weights fu xs = some o → ∀ y, o.x = some y → Good E Tryz.prog 92 xs (o.g y) := by
  intro xs o h y hy
  unfold S_spec_l4Weights at h
  split at h
  · rename_i za0_0 na0_0 fa0_0
    cases h
    exact goodv_spec_l4Weights fu (⟨za0_0, na0_0, fa0_0⟩ : (Sl S_impl_Share)) y hy
  · cases h

/-! spec.l3Mod -/
def F_spec_l3Mod (fu : Nat) (n_0 : Int) (m_1 : Int) : Option (Int) :=
  ((bif (!decide (m_1 = 0)) then some () else none : Option Unit).bind fun _ => ((bif (!decide (m_1 = 0)) then some () else none : Option Unit).bind fun _ => (some (Int.tmod (IntKind.wrap .i64 ((Int.tmod n_0 m_1) + m_1)) m_1))))
def pcf_spec_l3Mod (fu : Nat) (f : Nat) (xs : List (D RT den)) : Option (Out RT den) := none
def pcx_spec_l3Mod (fu : Nat) (f : Nat) (xs : List (D RT den)) (ins : List (Ob RT den)) : Option (OutX RT den) := none
def pc_spec_l3Mod (fu : Nat) : Pc RT den := ⟨pcf_spec_l3Mod fu, fun _ => false, fun _ => false, pcx_spec_l3Mod fu⟩
def msk_spec_l3Mod (b : Nat) : List Nat := []
def lp_spec_l3Mod (fu : Nat) : Lp RT den (Int) := fun b s k => none
theorem ev_spec_l3Mod (fu : Nat) (n_0 : Int) (m_1 : Int) : evFun E (pc_spec_l3Mod fu) msk_spec_l3Mod (lp_spec_l3Mod fu) out_i64 120 [(.int .i64 n_0), (.int .i64 m_1)] = F_spec_l3Mod fu n_0 m_1 := by kernel_rfl
noncomputable def body_spec_l3Mod : Code := Tryz.f120.body.getD .skip
theorem lpok_spec_l3Mod (fu : Nat) : LpOk E (pc_spec_l3Mod fu) msk_spec_l3Mod (lp_spec_l3Mod fu) (loops 0 body_spec_l3Mod) := by
  have h : loops 0 body_spec_l3Mod = [] := by kernel_rfl
  rw [h]; intro p hp; cases hp
def S_spec_l3Mod (fu : Nat) (xs : List (D RT den)) : Option (Out RT den) := match xs with | [.int .i64 a0_0, .int .i64 a1_0] => some ⟨Int, F_spec_l3Mod fu a0_0 a1_0, enc_i64, fun _ => true⟩ | _ => none
theorem hpc_spec_l3Mod (fu : Nat) : ∀ f xs o, pcf_spec_l3Mod fu f xs = some o → ∀ y, o.x = some y → Good E Tryz.prog f xs (o.g y) := by
  intro f xs o h
  cases h
theorem hpx_spec_l3Mod (fu : Nat) : ∀ f xs ins o, pcx_spec_l3Mod fu f xs ins = some o → ∀ y, o.x = some y → GoodX E Tryz.prog f xs ins (o.g y).1 (o.g y).2 := by
  intro f xs ins o h
  cases h
theorem goodv_spec_l3Mod (fu : Nat) (n_0 : Int) (m_1 : Int) (y : Int) (hy : F_spec_l3Mod fu n_0 m_1 = some y) : Good E Tryz.prog 120 [(.int .i64 n_0), (.int .i64 m_1)] (enc_i64 y) :=
  fun_good E_ok (pc_good (pc := pc_spec_l3Mod fu) (hpc_spec_l3Mod fu) (hpx_spec_l3Mod fu)) (fn := Tryz.f120) (c := body_spec_l3Mod) (out := out_i64) (y := y) (by kernel_rfl) (by kernel_rfl) (by kernel_rfl) (lpok_spec_l3Mod fu) (fun d hd => out_i64_enc d _ hd) ((ev_spec_l3Mod fu n_0 m_1).trans hy)
theorem good_spec_l3Mod (fu : Nat) : ∀ xs o, S_spec_l3Mod fu xs = some o → ∀ y, o.x = some y → Good E Tryz.prog 120 xs (o.g y) := by
  intro xs o h y hy
  unfold S_spec_l3Mod at h
  split at h
  · rename_i a0_0 a1_0
    cases h
    exact goodv_spec_l3Mod fu a0_0 a1_0 y hy
  · cases h

/-! spec.MixNumber -/
def F_spec_MixNumber_B0 {ρ : Type} (fu : Nat) (k0 : Int → Option ρ) (n0_0 : Int) (h5_1 : Int) (k6_2 : Int) (go : Int → Int → Int → Option ρ) : Option ρ :=
  (bif (decide (k6_2 < 4)) then (go (IntKind.wrap .i64 (Int.tdiv n0_0 256)) (Int.tmod (IntKind.wrap .i64 ((IntKind.wrap .i64 ((IntKind.wrap .i64 (h5_1 * 131)) + (Int.tmod n0_0 256))) + 1)) 1000003) (IntKind.wrap .i64 (k6_2 + 1))) else
    (k0 h5_1))
def F_spec_MixNumber (fu : Nat) (n_0 : Int) (salt_1 : Int) : Option (Int) :=
  ((F_spec_l3Mod fu salt_1 10007).bind fun y128 => ((F_spec_l3Mod fu n_0 4294967296).bind fun y129 => (L (fun w0 go0 => F_spec_MixNumber_B0 fu  (fun z130 => (some z130)) w0.1 w0.2.1 w0.2.2 (fun q0 q1 q2 =>
    go0 (q0, q1, q2))) fu ((y129, (IntKind.wrap .i64 (y128 + 11)), 0) : Int × Int × Int))))
def pcf_spec_MixNumber (fu : Nat) (f : Nat) (xs : List (D RT den)) : Option (Out RT den) := match f with | 120 => S_spec_l3Mod fu xs | _ => none
def pcx_spec_MixNumber (fu : Nat) (f : Nat) (xs : List (D RT den)) (ins : List (Ob RT den)) : Option (OutX RT den) := none
def pc_spec_MixNumber (fu : Nat) : Pc RT den := ⟨pcf_spec_MixNumber fu, fun _ => false, fun _ => false, pcx_spec_MixNumber fu⟩
def msk_spec_MixNumber (b : Nat) : List Nat := match b with | 0 => [1, 2, 3, 4, 7, 8, 9, 10, 11, 12, 13, 14, 15, 16, 17, 18, 19, 20, 21, 22, 23, 24, 25] | 100000 => [0, 1, 2, 3, 6, 7, 8, 9, 10, 11, 12, 13, 14, 15, 16, 17, 18, 19, 20, 21, 22, 23, 24, 25] | _ => []
def ps_spec_MixNumber_0 : List (Pat RT) := [.flat (.int .i64), .flat .dead, .flat .dead, .flat .dead, .flat .dead, .flat (.int .i64), .flat (.int .i64), .flat .dead, .flat .dead, .flat .dead, .flat .dead, .flat .dead, .flat .dead, .flat .dead, .flat .dead, .flat .dead, .flat .dead, .flat .dead, .flat .dead, .flat .dead, .flat .dead, .flat .dead, .flat .dead, .flat .dead, .flat .dead, .flat .dead]
def os_spec_MixNumber_0 : List (OP RT) := []
def conv_spec_MixNumber_0 (r : Raw den ps_spec_MixNumber_0 os_spec_MixNumber_0) : (Unit) × (Int × Int × Int) := ((), (r.1.1, r.1.2.2.2.2.2.1, r.1.2.2.2.2.2.2.1))
def back_spec_MixNumber_0 (c : Unit) (w : Int × Int × Int) : St RT den := ⟨[(.int .i64 w.1), .dead, .dead, .dead, .dead, (.int .i64 w.2.1), (.int .i64 w.2.2), .dead, .dead, .dead, .dead, .dead, .dead, .dead, .dead, .dead, .dead, .dead, .dead, .dead, .dead, .dead, .dead, .dead, .dead, .dead], []⟩
def Bk_spec_MixNumber_0 {ρ : Type} (fu : Nat) (c : Unit) (k : Ex → St RT den → Option ρ) (w : Int × Int × Int) (go : (Int × Int × Int) → Option ρ) : Option ρ := F_spec_MixNumber_B0 fu  (fun a0 => k (.exit 0) ⟨[.dead, .dead, .dead, .dead, .dead, (.int .i64 a0), .dead, .dead, .dead, .dead, .dead, .dead, .dead, .dead, .dead, .dead, .dead, .dead, .dead, .dead, .dead, .dead, .dead, .dead, .dead, .dead], []⟩) w.1 w.2.1 w.2.2 (fun q0 q1 q2 => go (q0, q1, q2))
def lp_spec_MixNumber (fu : Nat) : Lp RT den (Int) := fun b s k => match b with | 0 => handle ps_spec_MixNumber_0 os_spec_MixNumber_0 conv_spec_MixNumber_0 (Bk_spec_MixNumber_0 fu) fu s k | _ => none
theorem ev_spec_MixNumber (fu : Nat) (n_0 : Int) (salt_1 : Int) : evFun E (pc_spec_MixNumber fu) msk_spec_MixNumber (lp_spec_MixNumber fu) out_i64 119 [(.int .i64 n_0), (.int .i64 salt_1)] = F_spec_MixNumber fu n_0 salt_1 := by kernel_rfl
noncomputable def body_spec_MixNumber : Code := Tryz.f119.body.getD .skip
noncomputable def lc_spec_MixNumber_0 : Code := ((loops 0 body_spec_MixNumber).getD 0 (0, .skip)).2
theorem round_spec_MixNumber_0 (fu : Nat) (it : St RT den → Option (Int)) (k : Ex → St RT den → Option (Int)) c w : evCode E (pc_spec_MixNumber fu) msk_spec_MixNumber (lp_spec_MixNumber fu) 0 lc_spec_MixNumber_0 (back_spec_MixNumber_0 c w) (after (msk_spec_MixNumber 0) (msk_spec_MixNumber 100000) 0 it k) = Bk_spec_MixNumber_0 fu c k w (fun w => it (back_spec_MixNumber_0 c w)) := by kernel_rfl
theorem lpok_spec_MixNumber_0 (fu : Nat) : ∀ s k r, lp_spec_MixNumber fu 0 s k = some r → ∃ fuel, iter (msk_spec_MixNumber 0) (msk_spec_MixNumber 100000) s.objs.length (evCode E (pc_spec_MixNumber fu) msk_spec_MixNumber (lp_spec_MixNumber fu) 0 lc_spec_MixNumber_0) fuel s k = some r :=
  handle_ok (ps := ps_spec_MixNumber_0) (os := os_spec_MixNumber_0) (conv := conv_spec_MixNumber_0) (B := Bk_spec_MixNumber_0 fu) (fu := fu) back_spec_MixNumber_0 (fun raw => by kernel_rfl) 0 (fun c w => by kernel_rfl) (round_spec_MixNumber_0 fu)
theorem lpok_spec_MixNumber (fu : Nat) : LpOk E (pc_spec_MixNumber fu) msk_spec_MixNumber (lp_spec_MixNumber fu) (loops 0 body_spec_MixNumber) := loop_all 1 (by kernel_rfl) fun i hi => match i, hi with
  | 0, _ => by
    have h : (loops 0 body_spec_MixNumber).getD 0 (0, .skip) = (0, lc_spec_MixNumber_0) := by kernel_rfl
    rw [h]; exact lpok_spec_MixNumber_0 fu
  | i + 1, hi => absurd hi (by omega)
def S_spec_MixNumber (fu : Nat) (xs : List (D RT den)) : Option (Out RT den) := match xs with | [.int .i64 a0_0, .int .i64 a1_0] => some ⟨Int, F_spec_MixNumber fu a0_0 a1_0, enc_i64, fun _ => true⟩ | _ => none
theorem hpc_spec_MixNumber (fu : Nat) : ∀ f xs o, pcf_spec_MixNumber fu f xs = some o → ∀ y, o.x = some y → Good E Tryz.prog f xs (o.g y) := by
  intro f xs o h
  unfold pcf_spec_MixNumber at h
  split at h
  · exact good_spec_l3Mod fu xs o h
  · cases h
theorem hpx_spec_MixNumber (fu : Nat) : ∀ f xs ins o, pcx_spec_MixNumber fu f xs ins = some o → ∀ y, o.x = some y → GoodX E Tryz.prog f xs ins (o.g y).1 (o.g y).2 := by
  intro f xs ins o h
  cases h
theorem goodv_spec_MixNumber (fu : Nat) (n_0 : Int) (salt_1 : Int) (y : Int) (hy : F_spec_MixNumber fu n_0 salt_1 = some y) : Good E Tryz.prog 119 [(.int .i64 n_0), (.int .i64 salt_1)] (enc_i64 y) :=
  fun_good E_ok (pc_good (pc := pc_spec_MixNumber fu) (hpc_spec_MixNumber fu) (hpx_spec_MixNumber fu)) (fn := Tryz.f119) (c := body_spec_MixNumber) (out := out_i64) (y := y) (by kernel_rfl) (by kernel_rfl) (by kernel_rfl) (lpok_spec_MixNumber fu) (fun d hd => out_i64_enc d _ hd) ((ev_spec_MixNumber fu n_0 salt_1).trans hy)
theorem good_spec_MixNumber (fu : Nat) : ∀ xs o, S_spec_MixNumber fu xs = some o → ∀ y, o.x = some y → Good E Tryz.prog 119 xs (o.g y) := by
  intro xs o h y hy
  unfold S_spec_MixNumber at h
  split at h
  · rename_i a0_0 a1_0
    cases h
    exact goodv_spec_MixNumber fu a0_0 a1_0 y hy
  · cases h

/-! spec.l3Offset -/
def F_spec_l3Offset (fu : Nat) (name_0 : Int) : Option (Int) :=
  ((F_spec_MixNumber fu name_0 3).bind fun y127 => (some (Int.tmod y127 31)))
def pcf_spec_l3Offset (fu : Nat) (f : Nat) (xs : List (D RT den)) : Option (Out RT den) := match f with | 119 => S_spec_MixNumber fu xs | _ => none
def pcx_spec_l3Offset (fu : Nat) (f : Nat) (xs : List (D RT den)) (ins : List (Ob RT den)) : Option (OutX RT den) := none
def pc_spec_l3Offset (fu : Nat) : Pc RT den := ⟨pcf_spec_l3Offset fu, fun _ => false, fun _ => false, pcx_spec_l3Offset fu⟩
def msk_spec_l3Offset (b : Nat) : List Nat := []
def lp_spec_l3Offset (fu : Nat) : Lp RT den (Int) := fun b s k => none
theorem ev_spec_l3Offset (fu : Nat) (name_0 : Int) : evFun E (pc_spec_l3Offset fu) msk_spec_l3Offset (lp_spec_l3Offset fu) out_i64 116 [(.int .i64 name_0)] = F_spec_l3Offset fu name_0 := by kernel_rfl
noncomputable def body_spec_l3Offset : Code := Tryz.f116.body.getD .skip
theorem lpok_spec_l3Offset (fu : Nat) : LpOk E (pc_spec_l3Offset fu) msk_spec_l3Offset (lp_spec_l3Offset fu) (loops 0 body_spec_l3Offset) := by
  have h : loops 0 body_spec_l3Offset = [] := by kernel_rfl
  rw [h]; intro p hp; cases hp
def S_spec_l3Offset (fu : Nat) (xs : List (D RT den)) : Option (Out RT den) := match xs with | [.int .i64 a0_0] => some ⟨Int, F_spec_l3Offset fu a0_0, enc_i64, fun _ => true⟩ | _ => none
theorem hpc_spec_l3Offset (fu : Nat) : ∀ f xs o, pcf_spec_l3Offset fu f xs = some o → ∀ y, o.x = some y → Good E Tryz.prog f xs (o.g y) := by
  intro f xs o h
  unfold pcf_spec_l3Offset at h
  split at h
  · exact good_spec_MixNumber fu xs o h
  · cases h
theorem hpx_spec_l3Offset (fu : Nat) : ∀ f xs ins o, pcx_spec_l3Offset fu f xs ins = some o → ∀ y, o.x = some y → GoodX E Tryz.prog f xs ins (o.g y).1 (o.g y).2 := by
  intro f xs ins o h
  cases h
theorem goodv_spec_l3Offset (fu : Nat) (name_0 : Int) (y : Int) (hy : F_spec_l3Offset fu name_0 = some y) : Good E Tryz.prog 116 [(.int .i64 name_0)] (enc_i64 y) :=
  fun_good E_ok (pc_good (pc := pc_spec_l3Offset fu) (hpc_spec_l3Offset fu) (hpx_spec_l3Offset fu)) (fn := Tryz.f116) (c := body_spec_l3Offset) (out := out_i64) (y := y) (by kernel_rfl) (by kernel_rfl) (by kernel_rfl) (lpok_spec_l3Offset fu) (fun d hd => out_i64_enc d _ hd) ((ev_spec_l3Offset fu name_0).trans hy)
theorem good_spec_l3Offset (fu : Nat) : ∀ xs o, S_spec_l3Offset fu xs = some o → ∀ y, o.x = some y → Good E Tryz.prog 116 xs (o.g y) := by
  intro xs o h y hy
  unfold S_spec_l3Offset at h
  split at h
  · rename_i a0_0
    cases h
    exact goodv_spec_l3Offset fu a0_0 y hy
  · cases h

/-! spec.l3Skip -/
def F_spec_l3Skip (fu : Nat) (name_0 : Int) : Option (Int) :=
  ((F_spec_MixNumber fu name_0 5).bind fun y131 => (some (IntKind.wrap .i64 (1 + (Int.tmod y131 30)))))
def pcf_spec_l3Skip (fu : Nat) (f : Nat) (xs : List (D RT den)) : Option (Out RT den) := match f with | 119 => S_spec_MixNumber fu xs | _ => none
def pcx_spec_l3Skip (fu : Nat) (f : Nat) (xs : List (D RT den)) (ins : List (Ob RT den)) : Option (OutX RT den) := none
def pc_spec_l3Skip (fu : Nat) : Pc RT den := ⟨pcf_spec_l3Skip fu, fun _ => false, fun _ => false, pcx_spec_l3Skip fu⟩
def msk_spec_l3Skip (b : Nat) : List Nat := []
def lp_spec_l3Skip (fu : Nat) : Lp RT den (Int) := fun b s k => none
theorem ev_spec_l3Skip (fu : Nat) (name_0 : Int) : evFun E (pc_spec_l3Skip fu) msk_spec_l3Skip (lp_spec_l3Skip fu) out_i64 117 [(.int .i64 name_0)] = F_spec_l3Skip fu name_0 := by kernel_rfl
noncomputable def body_spec_l3Skip : Code := Tryz.f117.body.getD .skip
theorem lpok_spec_l3Skip (fu : Nat) : LpOk E (pc_spec_l3Skip fu) msk_spec_l3Skip (lp_spec_l3Skip fu) (loops 0 body_spec_l3Skip) := by
  have h : loops 0 body_spec_l3Skip = [] := by kernel_rfl
  rw [h]; intro p hp; cases hp
def S_spec_l3Skip (fu : Nat) (xs : List (D RT den)) : Option (Out RT den) := match xs with | [.int .i64 a0_0] => some ⟨Int, F_spec_l3Skip fu a0_0, enc_i64, fun _ => true⟩ | _ => none
theorem hpc_spec_l3Skip (fu : Nat) : ∀ f xs o, pcf_spec_l3Skip fu f xs = some o → ∀ y, o.x = some y → Good E Tryz.prog f xs (o.g y) := by
  intro f xs o h
  unfold pcf_spec_l3Skip at h
  split at h
  · exact good_spec_MixNumber fu xs o h
  · cases h
theorem hpx_spec_l3Skip (fu : Nat) : ∀ f xs ins o, pcx_spec_l3Skip fu f xs ins = some o → ∀ y, o.x = some y → GoodX E Tryz.prog f xs ins (o.g y).1 (o.g y).2 := by
  intro f xs ins o h
  cases h
theorem goodv_spec_l3Skip (fu : Nat) (name_0 : Int) (y : Int) (hy : F_spec_l3Skip fu name_0 = some y) : Good E Tryz.prog 117 [(.int .i64 name_0)] (enc_i64 y) :=
  fun_good E_ok (pc_good (pc := pc_spec_l3Skip fu) (hpc_spec_l3Skip fu) (hpx_spec_l3Skip fu)) (fn := Tryz.f117) (c := body_spec_l3Skip) (out := out_i64) (y := y) (by kernel_rfl) (by kernel_rfl) (by kernel_rfl) (lpok_spec_l3Skip fu) (fun d hd => out_i64_enc d _ hd) ((ev_spec_l3Skip fu name_0).trans hy)
theorem good_spec_l3Skip (fu : Nat) : ∀ xs o, S_spec_l3Skip fu xs = some o → ∀ y, o.x = some y → Good E Tryz.prog 117 xs (o.g y) := by
  intro xs o h y hy
  unfold S_spec_l3Skip at h
  split at h
  · rename_i a0_0
    cases h
    exact goodv_spec_l3Skip fu a0_0 y hy
  · cases h

/-! spec.l3Place -/
def F_spec_l3Place (fu : Nat) (name_0 : Int) (k_1 : Int) : Option (Int) :=
  ((F_spec_l3Offset fu name_0).bind fun y125 => ((F_spec_l3Skip fu name_0).bind fun y126 => (some (Int.tmod (IntKind.wrap .i64 (y125 + (IntKind.wrap .i64 (k_1 * y126)))) 31))))
def pcf_spec_l3Place (fu : Nat) (f : Nat) (xs : List (D RT den)) : Option (Out RT den) := match f with | 116 => S_spec_l3Offset fu xs | 117 => S_spec_l3Skip fu xs | _ => none
def pcx_spec_l3Place (fu : Nat) (f : Nat) (xs : List (D RT den)) (ins : List (Ob RT den)) : Option (OutX RT den) := none
def pc_spec_l3Place (fu : Nat) : Pc RT den := ⟨pcf_spec_l3Place fu, fun _ => false, fun _ => false, pcx_spec_l3Place fu⟩
def msk_spec_l3Place (b : Nat) : List Nat := []
def lp_spec_l3Place (fu : Nat) : Lp RT den (Int) := fun b s k => none
theorem ev_spec_l3Place (fu : Nat) (name_0 : Int) (k_1 : Int) : evFun E (pc_spec_l3Place fu) msk_spec_l3Place (lp_spec_l3Place fu) out_i64 113 [(.int .i64 name_0), (.int .i64 k_1)] = F_spec_l3Place fu name_0 k_1 := by kernel_rfl
noncomputable def body_spec_l3Place : Code := Tryz.f113.body.getD .skip
theorem lpok_spec_l3Place (fu : Nat) : LpOk E (pc_spec_l3Place fu) msk_spec_l3Place (lp_spec_l3Place fu) (loops 0 body_spec_l3Place) := by
  have h : loops 0 body_spec_l3Place = [] := by kernel_rfl
  rw [h]; intro p hp; cases hp
def S_spec_l3Place (fu : Nat) (xs : List (D RT den)) : Option (Out RT den) := match xs with | [.int .i64 a0_0, .int .i64 a1_0] => some ⟨Int, F_spec_l3Place fu a0_0 a1_0, enc_i64, fun _ => true⟩ | _ => none
theorem hpc_spec_l3Place (fu : Nat) : ∀ f xs o, pcf_spec_l3Place fu f xs = some o → ∀ y, o.x = some y → Good E Tryz.prog f xs (o.g y) := by
  intro f xs o h
  unfold pcf_spec_l3Place at h
  split at h
  · exact good_spec_l3Offset fu xs o h
  · exact good_spec_l3Skip fu xs o h
  · cases h
theorem hpx_spec_l3Place (fu : Nat) : ∀ f xs ins o, pcx_spec_l3Place fu f xs ins = some o → ∀ y, o.x = some y → GoodX E Tryz.prog f xs ins (o.g y).1 (o.g y).2 := by
  intro f xs ins o h
  cases h
theorem goodv_spec_l3Place (fu : Nat) (name_0 : Int) (k_1 : Int) (y : Int) (hy : F_spec_l3Place fu name_0 k_1 = some y) : Good E Tryz.prog 113 [(.int .i64 name_0), (.int .i64 k_1)] (enc_i64 y) :=
  fun_good E_ok (pc_good (pc := pc_spec_l3Place fu) (hpc_spec_l3Place fu) (hpx_spec_l3Place fu)) (fn := Tryz.f113) (c := body_spec_l3Place) (out := out_i64) (y := y) (by kernel_rfl) (by kernel_rfl) (by kernel_rfl) (lpok_spec_l3Place fu) (fun d hd => out_i64_enc d _ hd) ((ev_spec_l3Place fu name_0 k_1).trans hy)
theorem good_spec_l3Place (fu : Nat) : ∀ xs o, S_spec_l3Place fu xs = some o → ∀ y, o.x = some y → Good E Tryz.prog 113 xs (o.g y) := by
  intro xs o h y hy
  unfold S_spec_l3Place at h
  split at h
  · rename_i a0_0 a1_0
    cases h
    exact goodv_spec_l3Place fu a0_0 a1_0 y hy
  · cases h

/-! spec.l4Free -/
def F_spec_l4Free_B0 {ρ : Type} (fu : Nat) (table0_0 : (Sl Int)) (name1_1 : Int) (k0 : Int → Option ρ) (k1 : Option ρ) (k5_2 : Int) (go : Int → Option ρ) : Option ρ :=
  (bif (decide (k5_2 < 31)) then ((F_spec_l3Place fu name1_1 k5_2).bind fun y123 => ((bif (decide (0 ≤ y123) && decide ((Int.toNat y123) < table0_0.n)) then some () else none : Option Unit).bind fun _ =>
    (bif ((table0_0.f (Int.toNat y123)) == 0) then (k0 y123) else (go (IntKind.wrap .i64 (k5_2 + 1)))))) else k1)
def F_spec_l4Free (fu : Nat) (table_0 : (Sl Int)) (name_1 : Int) : Option (Int) :=
  (L (fun w0 go0 => F_spec_l4Free_B0 fu table_0 name_1 (fun z124 => (some z124)) (some (-1)) w0 go0) fu (0 : Int))
def pcf_spec_l4Free (fu : Nat) (f : Nat) (xs : List (D RT den)) : Option (Out RT den) := match f with | 113 => S_spec_l3Place fu xs | _ => none
def pcx_spec_l4Free (fu : Nat) (f : Nat) (xs : List (D RT den)) (ins : List (Ob RT den)) : Option (OutX RT den) := none
def pc_spec_l4Free (fu : Nat) : Pc RT den := ⟨pcf_spec_l4Free fu, fun _ => false, fun _ => false, pcx_spec_l4Free fu⟩
def msk_spec_l4Free (b : Nat) : List Nat := match b with | 0 => [2, 3, 4, 6, 7, 8, 9, 10, 11, 12, 13, 14, 15, 16, 17, 18, 19] | 100000 => [0, 1, 2, 3, 5, 6, 7, 8, 9, 10, 11, 12, 13, 14, 15, 16, 17, 18, 19] | _ => []
def ps_spec_l4Free_0 : List (Pat RT) := [.flat (.rs .i64), .flat (.int .i64), .flat .dead, .flat .dead, .flat .dead, .flat (.int .i64), .flat .dead, .flat .dead, .flat .dead, .flat .dead, .flat .dead, .flat .dead, .flat .dead, .flat .dead, .flat .dead, .flat .dead, .flat .dead, .flat .dead, .flat .dead, .flat .dead]
def os_spec_l4Free_0 : List (OP RT) := []
def conv_spec_l4Free_0 (r : Raw den ps_spec_l4Free_0 os_spec_l4Free_0) : ((Sl Int) × Int) × (Int) := ((r.1.1, r.1.2.1), r.1.2.2.2.2.2.1)
def back_spec_l4Free_0 (c : (Sl Int) × Int) (w : Int) : St RT den := ⟨[(.rs c.1.z .i64 c.1.n c.1.f), (.int .i64 c.2), .dead, .dead, .dead, (.int .i64 w), .dead, .dead, .dead, .dead, .dead, .dead, .dead, .dead, .dead, .dead, .dead, .dead, .dead, .dead], []⟩
def Bk_spec_l4Free_0 {ρ : Type} (fu : Nat) (c : (Sl Int) × Int) (k : Ex → St RT den → Option ρ) (w : Int) (go : (Int) → Option ρ) : Option ρ := F_spec_l4Free_B0 fu c.1 c.2 (fun a0 => k .ret ⟨[.dead, .dead, .dead, .dead, (.int .i64 a0), .dead, .dead, .dead, .dead, .dead, .dead, .dead, .dead, .dead, .dead, .dead, .dead, .dead, .dead, .dead], []⟩) (k (.exit 0) ⟨[.dead, .dead, .dead, .dead, .dead, .dead, .dead, .dead, .dead, .dead, .dead, .dead, .dead, .dead, .dead, .dead, .dead, .dead, .dead, .dead], []⟩) w go
def lp_spec_l4Free (fu : Nat) : Lp RT den (Int) := fun b s k => match b with | 0 => handle ps_spec_l4Free_0 os_spec_l4Free_0 conv_spec_l4Free_0 (Bk_spec_l4Free_0 fu) fu s k | _ => none
theorem ev_spec_l4Free (fu : Nat) (table_0 : (Sl Int)) (name_1 : Int) : evFun E (pc_spec_l4Free fu) msk_spec_l4Free (lp_spec_l4Free fu) out_i64 93 [(.rs table_0.z .i64 table_0.n table_0.f), (.int .i64 name_1)] = F_spec_l4Free fu table_0 name_1 := by kernel_rfl
noncomputable def body_spec_l4Free : Code := Tryz.f93.body.getD .skip
noncomputable def lc_spec_l4Free_0 : Code := ((loops 0 body_spec_l4Free).getD 0 (0, .skip)).2
theorem round_spec_l4Free_0 (fu : Nat) (it : St RT den → Option (Int)) (k : Ex → St RT den → Option (Int)) c w : evCode E (pc_spec_l4Free fu) msk_spec_l4Free (lp_spec_l4Free fu) 0 lc_spec_l4Free_0 (back_spec_l4Free_0 c w) (after (msk_spec_l4Free 0) (msk_spec_l4Free 100000) 0 it k) = Bk_spec_l4Free_0 fu c k w (fun w => it (back_spec_l4Free_0 c w)) := by kernel_rfl
theorem lpok_spec_l4Free_0 (fu : Nat) : ∀ s k r, lp_spec_l4Free fu 0 s k = some r → ∃ fuel, iter (msk_spec_l4Free 0) (msk_spec_l4Free 100000) s.objs.length (evCode E (pc_spec_l4Free fu) msk_spec_l4Free (lp_spec_l4Free fu) 0 lc_spec_l4Free_0) fuel s k = some r :=
  handle_ok (ps := ps_spec_l4Free_0) (os := os_spec_l4Free_0) (conv := conv_spec_l4Free_0) (B := Bk_spec_l4Free_0 fu) (fu := fu) back_spec_l4Free_0 (fun raw => by kernel_rfl) 0 (fun c w => by kernel_rfl) (round_spec_l4Free_0 fu)
theorem lpok_spec_l4Free (fu : Nat) : LpOk E (pc_spec_l4Free fu) msk_spec_l4Free (lp_spec_l4Free fu) (loops 0 body_spec_l4Free) := loop_all 1 (by kernel_rfl) fun i hi => match i, hi with
  | 0, _ => by
    have h : (loops 0 body_spec_l4Free).getD 0 (0, .skip) = (0, lc_spec_l4Free_0) := by kernel_rfl
    rw [h]; exact lpok_spec_l4Free_0 fu
  | i + 1, hi => absurd hi (by omega)
def S_spec_l4Free (fu : Nat) (xs : List (D RT den)) : Option (Out RT den) := match xs with | [.rs za0_0 .i64 na0_0 fa0_0, .int .i64 a1_0] => some ⟨Int, F_spec_l4Free fu (⟨za0_0, na0_0, fa0_0⟩ : (Sl Int)) a1_0, enc_i64, fun _ => true⟩ | _ => none
theorem hpc_spec_l4Free (fu : Nat) : ∀ f xs o, pcf_spec_l4Free fu f xs = some o → ∀ y, o.x = some y → Good E Tryz.prog f xs (o.g y) := by
  intro f xs o h
  unfold pcf_spec_l4Free at h
  split at h
  · exact good_spec_l3Place fu xs o h
  · cases h
theorem hpx_spec_l4Free (fu : Nat) : ∀ f xs ins o, pcx_spec_l4Free fu f xs ins = some o → ∀ y, o.x = some y → GoodX E Tryz.prog f xs ins (o.g y).1 (o.g y).2 := by
  intro f xs ins o h
  cases h
theorem goodv_spec_l4Free (fu : Nat) (table_0 : (Sl Int)) (name_1 : Int) (y : Int) (hy : F_spec_l4Free fu table_0 name_1 = some y) : Good E Tryz.prog 93 [(.rs table_0.z .i64 table_0.n table_0.f), (.int .i64 name_1)] (enc_i64 y) :=
  fun_good E_ok (pc_good (pc := pc_spec_l4Free fu) (hpc_spec_l4Free fu) (hpx_spec_l4Free fu)) (fn := Tryz.f93) (c := body_spec_l4Free) (out := out_i64) (y := y) (by kernel_rfl) (by kernel_rfl) (by kernel_rfl) (lpok_spec_l4Free fu) (fun d hd => out_i64_enc d _ hd) ((ev_spec_l4Free fu table_0 name_1).trans hy)
theorem good_spec_l4Free (fu : Nat) : ∀ xs o, S_spec_l4Free fu xs = some o → ∀ y, o.x = some y → Good E Tryz.prog 93 xs (o.g y) := by
  intro xs o h y hy
  unfold S_spec_l4Free at h
  split at h
  · rename_i za0_0 na0_0 fa0_0 a1_0
    cases h
    exact goodv_spec_l4Free fu (⟨za0_0, na0_0, fa0_0⟩ : (Sl Int)) a1_0 y hy
  · cases h

/-! spec.l4Fill -/
def F_spec_l4Fill_B4 {ρ : Type} (fu : Nat) (list0_0 : (Sl S_impl_Share)) (table3_1 : Nat) (round4_2 : Int) (i5_3 : Int) (on0_5 : Nat) (k0 : (Nat → Int) → Option ρ) (k1 : (Nat → Int) → Option ρ) (k6_4 : Int) (of0_6 : (Nat → Int)) (go : Int → (Nat → Int) → Option ρ) : Option ρ :=
  ((bif (decide (0 ≤ i5_3) && decide ((Int.toNat i5_3) < list0_0.n)) then some () else none : Option Unit).bind fun _ => (bif (decide (k6_4 < (list0_0.f (Int.toNat i5_3)).Weight)) then
    ((bif (decide (0 ≤ i5_3) && decide ((Int.toNat i5_3) < list0_0.n)) then some () else none : Option Unit).bind fun _ => ((F_spec_l4Free fu (⟨none, table3_1, of0_6⟩ : (Sl Int)) (list0_0.f (Int.toNat i5_3)).Name).bind fun y115 =>
    (bif (decide (y115 < 0)) then (k0 of0_6) else ((bif (decide (0 ≤ i5_3) && decide ((Int.toNat i5_3) < list0_0.n)) then some () else none : Option Unit).bind fun _ => ((bif (decide (0 ≤ y115) &&
    decide ((Int.toNat y115) < table3_1)) then some () else none : Option Unit).bind fun _ => (go (IntKind.wrap .i64 (k6_4 + 1)) (fun j => if j = (Int.toNat y115) then (list0_0.f (Int.toNat i5_3)).Name else
    of0_6 j))))))) else (k1 of0_6)))
def F_spec_l4Fill_B2 {ρ : Type} (fu : Nat) (list0_0 : (Sl S_impl_Share)) (table3_1 : Nat) (round4_2 : Int) (on0_4 : Nat) (k0 : (Nat → Int) → Option ρ) (k1 : (Nat → Int) → Option ρ) (i5_3 : Int) (of0_5 : (Nat → Int)) (go : Int → (Nat → Int) → Option ρ) : Option ρ :=
  (bif (decide (i5_3 < ((list0_0.n : Nat) : Int))) then (L (fun w4 go4 => F_spec_l4Fill_B4 fu list0_0 table3_1 round4_2 i5_3 on0_4 (fun z116 => (k0 z116)) (fun z117 => (go (IntKind.wrap .i64 (i5_3 + 1)) z117)) w4.1 w4.2 (fun q0 q1 =>
    go4 (q0, q1))) fu ((0, of0_5) : Int × (Nat → Int))) else (k1 of0_5))
def F_spec_l4Fill_B0 {ρ : Type} (fu : Nat) (list0_0 : (Sl S_impl_Share)) (table3_1 : Nat) (on0_3 : Nat) (k0 : (Nat → Int) → Option ρ) (k1 : (Nat → Int) → Option ρ) (round4_2 : Int) (of0_4 : (Nat → Int)) (go : Int → (Nat → Int) → Option ρ) : Option ρ :=
  (bif (decide (round4_2 < 31)) then (L (fun w2 go2 => F_spec_l4Fill_B2 fu list0_0 table3_1 round4_2 on0_3 (fun z118 => (k0 z118)) (fun z119 => (go (IntKind.wrap .i64 (round4_2 + 1)) z119)) w2.1 w2.2 (fun q0 q1 =>
    go2 (q0, q1))) fu ((0, of0_4) : Int × (Nat → Int))) else (k1 of0_4))
def F_spec_l4Fill (fu : Nat) (list_0 : (Sl S_impl_Share)) : Option ((Sl Int)) :=
  ((F_spec_l4Weights fu list_0).bind fun y114 => (bif (y114 == 0) then (some (⟨none, 31, (fun _ => 0)⟩ : (Sl Int))) else (L (fun w0 go0 => F_spec_l4Fill_B0 fu list_0 31 31 (fun z120 =>
    (some (⟨none, 31, z120⟩ : (Sl Int)))) (fun z121 => (some (⟨none, 31, z121⟩ : (Sl Int)))) w0.1 w0.2 (fun q0 q1 => go0 (q0, q1))) fu ((0, (fun _ => 0)) : Int × (Nat → Int)))))
def pcf_spec_l4Fill (fu : Nat) (f : Nat) (xs : List (D RT den)) : Option (Out RT den) := match f with | 92 => S_spec_l4Weights fu xs | 93 => S_spec_l4Free fu xs | _ => none
def pcx_spec_l4Fill (fu : Nat) (f : Nat) (xs : List (D RT den)) (ins : List (Ob RT den)) : Option (OutX RT den) := none
def pc_spec_l4Fill (fu : Nat) : Pc RT den := ⟨pcf_spec_l4Fill fu, fun _ => false, fun _ => false, pcx_spec_l4Fill fu⟩
def msk_spec_l4Fill (b : Nat) : List Nat := match b with | 0 => [1, 2, 5, 6, 7, 8, 9, 10, 11, 12, 13, 14, 15, 16, 17, 18, 19, 20, 21, 22, 23, 24, 25, 26, 27, 28, 29, 30, 31, 32, 33, 34, 35, 36, 37, 38, 39, 40, 41, 42, 43, 44, 45, 46, 47, 48, 49, 50] | 100000 => [0, 1, 4, 5, 6, 7, 8, 9, 10, 11, 12, 13, 14, 15, 16, 17, 18, 19, 20, 21, 22, 23, 24, 25, 26, 27, 28, 29, 30, 31, 32, 33, 34, 35, 36, 37, 38, 39, 40, 41, 42, 43, 44, 45, 46, 47, 48, 49, 50] | 2 => [1, 2, 6, 7, 8, 9, 10, 11, 12, 13, 14, 15, 16, 17, 18, 19, 20, 21, 22, 23, 24, 25, 26, 27, 28, 29, 30, 31, 32, 33, 34, 35, 36, 37, 38, 39, 40, 41, 42, 43, 44, 45, 46, 47, 48, 49, 50] | 100002 => [1, 5, 6, 7, 8, 9, 10, 11, 12, 13, 14, 15, 16, 17, 18, 19, 20, 21, 22, 23, 24, 25, 26, 27, 28, 29, 30, 31, 32, 33, 34, 35, 36, 37, 38, 39, 40, 41, 42, 43, 44, 45, 46, 47, 48, 49, 50] | 4 => [1, 2, 7, 8, 9, 10, 11, 12, 13, 14, 15, 16, 17, 18, 19, 20, 21, 22, 23, 24, 25, 26, 27, 28, 29, 30, 31, 32, 33, 34, 35, 36, 37, 38, 39, 40, 41, 42, 43, 44, 45, 46, 47, 48, 49, 50] | 100004 => [1, 6, 7, 8, 9, 10, 11, 12, 13, 14, 15, 16, 17, 18, 19, 20, 21, 22, 23, 24, 25, 26, 27, 28, 29, 30, 31, 32, 33, 34, 35, 36, 37, 38, 39, 40, 41, 42, 43, 44, 45, 46, 47, 48, 49, 50] | _ => []
def ps_spec_l4Fill_4 : List (Pat RT) := [.flat (.rs .impl_Share), .flat .dead, .flat .dead, .flat (.os 0), .flat (.int .i64), .flat (.int .i64), .flat (.int .i64), .flat .dead, .flat .dead, .flat .dead, .flat .dead, .flat .dead, .flat .dead, .flat .dead, .flat .dead, .flat .dead, .flat .dead, .flat .dead, .flat .dead, .flat .dead, .flat .dead, .flat .dead, .flat .dead, .flat .dead, .flat .dead, .flat .dead, .flat .dead, .flat .dead, .flat .dead, .flat .dead, .flat .dead, .flat .dead, .flat .dead, .flat .dead, .flat .dead, .flat .dead, .flat .dead, .flat .dead, .flat .dead, .flat .dead, .flat .dead, .flat .dead, .flat .dead, .flat .dead, .flat .dead, .flat .dead, .flat .dead, .flat .dead, .flat .dead, .flat .dead, .flat .dead]
def os_spec_l4Fill_4 : List (OP RT) := [.row false .i64]
def conv_spec_l4Fill_4 (r : Raw den ps_spec_l4Fill_4 os_spec_l4Fill_4) : ((Sl S_impl_Share) × Nat × Int × Int × Nat) × (Int × (Nat → Int)) := ((r.1.1, r.1.2.2.2.1, r.1.2.2.2.2.1, r.1.2.2.2.2.2.1, r.2.1.1), (r.1.2.2.2.2.2.2.1, r.2.1.2))
def back_spec_l4Fill_4 (c : (Sl S_impl_Share) × Nat × Int × Int × Nat) (w : Int × (Nat → Int)) : St RT den := ⟨[(.rs c.1.z .impl_Share c.1.n c.1.f), .dead, .dead, (.os 0 c.2.1), (.int .i64 c.2.2.1), (.int .i64 c.2.2.2.1), (.int .i64 w.1), .dead, .dead, .dead, .dead, .dead, .dead, .dead, .dead, .dead, .dead, .dead, .dead, .dead, .dead, .dead, .dead, .dead, .dead, .dead, .dead, .dead, .dead, .dead, .dead, .dead, .dead, .dead, .dead, .dead, .dead, .dead, .dead, .dead, .dead, .dead, .dead, .dead, .dead, .dead, .dead, .dead, .dead, .dead, .dead], [(.row false .i64 c.2.2.2.2 w.2)]⟩
def Bk_spec_l4Fill_4 {ρ : Type} (fu : Nat) (c : (Sl S_impl_Share) × Nat × Int × Int × Nat) (k : Ex → St RT den → Option ρ) (w : Int × (Nat → Int)) (go : (Int × (Nat → Int)) → Option ρ) : Option ρ := F_spec_l4Fill_B4 fu c.1 c.2.1 c.2.2.1 c.2.2.2.1 c.2.2.2.2 (fun a0 => k .ret ⟨[(.rs c.1.z .impl_Share c.1.n c.1.f), .dead, (.os 0 c.2.1), (.os 0 c.2.1), (.int .i64 c.2.2.1), (.int .i64 c.2.2.2.1), .dead, .dead, .dead, .dead, .dead, .dead, .dead, .dead, .dead, .dead, .dead, .dead, .dead, .dead, .dead, .dead, .dead, .dead, .dead, .dead, .dead, .dead, .dead, .dead, .dead, .dead, .dead, .dead, .dead, .dead, .dead, .dead, .dead, .dead, .dead, .dead, .dead, .dead, .dead, .dead, .dead, .dead, .dead, .dead, .dead], [(.row false .i64 c.2.2.2.2 a0)]⟩) (fun a0 => k (.exit 4) ⟨[(.rs c.1.z .impl_Share c.1.n c.1.f), .dead, .dead, (.os 0 c.2.1), (.int .i64 c.2.2.1), (.int .i64 c.2.2.2.1), .dead, .dead, .dead, .dead, .dead, .dead, .dead, .dead, .dead, .dead, .dead, .dead, .dead, .dead, .dead, .dead, .dead, .dead, .dead, .dead, .dead, .dead, .dead, .dead, .dead, .dead, .dead, .dead, .dead, .dead, .dead, .dead, .dead, .dead, .dead, .dead, .dead, .dead, .dead, .dead, .dead, .dead, .dead, .dead, .dead], [(.row false .i64 c.2.2.2.2 a0)]⟩) w.1 w.2 (fun q0 q1 => go (q0, q1))
def ps_spec_l4Fill_2 : List (Pat RT) := [.flat (.rs .impl_Share), .flat .dead, .flat .dead, .flat (.os 0), .flat (.int .i64), .flat (.int .i64), .flat .dead, .flat .dead, .flat .dead, .flat .dead, .flat .dead, .flat .dead, .flat .dead, .flat .dead, .flat .dead, .flat .dead, .flat .dead, .flat .dead, .flat .dead, .flat .dead, .flat .dead, .flat .dead, .flat .dead, .flat .dead, .flat .dead, .flat .dead, .flat .dead, .flat .dead, .flat .dead, .flat .dead, .flat .dead, .flat .dead, .flat .dead, .flat .dead, .flat .dead, .flat .dead, .flat .dead, .flat .dead, .flat .dead, .flat .dead, .flat .dead, .flat .dead, .flat .dead, .flat .dead, .flat .dead, .flat .dead, .flat .dead, .flat .dead, .flat .dead, .flat .dead, .flat .dead]
def os_spec_l4Fill_2 : List (OP RT) := [.row false .i64]
def conv_spec_l4Fill_2 (r : Raw den ps_spec_l4Fill_2 os_spec_l4Fill_2) : ((Sl S_impl_Share) × Nat × Int × Nat) × (Int × (Nat → Int)) := ((r.1.1, r.1.2.2.2.1, r.1.2.2.2.2.1, r.2.1.1), (r.1.2.2.2.2.2.1, r.2.1.2))
def back_spec_l4Fill_2 (c : (Sl S_impl_Share) × Nat × Int × Nat) (w : Int × (Nat → Int)) : St RT den := ⟨[(.rs c.1.z .impl_Share c.1.n c.1.f), .dead, .dead, (.os 0 c.2.1), (.int .i64 c.2.2.1), (.int .i64 w.1), .dead, .dead, .dead, .dead, .dead, .dead, .dead, .dead, .dead, .dead, .dead, .dead, .dead, .dead, .dead, .dead, .dead, .dead, .dead, .dead, .dead, .dead, .dead, .dead, .dead, .dead, .dead, .dead, .dead, .dead, .dead, .dead, .dead, .dead, .dead, .dead, .dead, .dead, .dead, .dead, .dead, .dead, .dead, .dead, .dead], [(.row false .i64 c.2.2.2 w.2)]⟩
def Bk_spec_l4Fill_2 {ρ : Type} (fu : Nat) (c : (Sl S_impl_Share) × Nat × Int × Nat) (k : Ex → St RT den → Option ρ) (w : Int × (Nat → Int)) (go : (Int × (Nat → Int)) → Option ρ) : Option ρ := F_spec_l4Fill_B2 fu c.1 c.2.1 c.2.2.1 c.2.2.2 (fun a0 => k .ret ⟨[(.rs c.1.z .impl_Share c.1.n c.1.f), .dead, (.os 0 c.2.1), (.os 0 c.2.1), (.int .i64 c.2.2.1), .dead, .dead, .dead, .dead, .dead, .dead, .dead, .dead, .dead, .dead, .dead, .dead, .dead, .dead, .dead, .dead, .dead, .dead, .dead, .dead, .dead, .dead, .dead, .dead, .dead, .dead, .dead, .dead, .dead, .dead, .dead, .dead, .dead, .dead, .dead, .dead, .dead, .dead, .dead, .dead, .dead, .dead, .dead, .dead, .dead, .dead], [(.row false .i64 c.2.2.2 a0)]⟩) (fun a0 => k (.exit 2) ⟨[(.rs c.1.z .impl_Share c.1.n c.1.f), .dead, .dead, (.os 0 c.2.1), (.int .i64 c.2.2.1), .dead, .dead, .dead, .dead, .dead, .dead, .dead, .dead, .dead, .dead, .dead, .dead, .dead, .dead, .dead, .dead, .dead, .dead, .dead, .dead, .dead, .dead, .dead, .dead, .dead, .dead, .dead, .dead, .dead, .dead, .dead, .dead, .dead, .dead, .dead, .dead, .dead, .dead, .dead, .dead, .dead, .dead, .dead, .dead, .dead, .dead], [(.row false .i64 c.2.2.2 a0)]⟩) w.1 w.2 (fun q0 q1 => go (q0, q1))
def ps_spec_l4Fill_0 : List (Pat RT) := [.flat (.rs .impl_Share), .flat .dead, .flat .dead, .flat (.os 0), .flat (.int .i64), .flat .dead, .flat .dead, .flat .dead, .flat .dead, .flat .dead, .flat .dead, .flat .dead, .flat .dead, .flat .dead, .flat .dead, .flat .dead, .flat .dead, .flat .dead, .flat .dead, .flat .dead, .flat .dead, .flat .dead, .flat .dead, .flat .dead, .flat .dead, .flat .dead, .flat .dead, .flat .dead, .flat .dead, .flat .dead, .flat .dead, .flat .dead, .flat .dead, .flat .dead, .flat .dead, .flat .dead, .flat .dead, .flat .dead, .flat .dead, .flat .dead, .flat .dead, .flat .dead, .flat .dead, .flat .dead, .flat .dead, .flat .dead, .flat .dead, .flat .dead, .flat .dead, .flat .dead, .flat .dead]
def os_spec_l4Fill_0 : List (OP RT) := [.row false .i64]
def conv_spec_l4Fill_0 (r : Raw den ps_spec_l4Fill_0 os_spec_l4Fill_0) : ((Sl S_impl_Share) × Nat × Nat) × (Int × (Nat → Int)) := ((r.1.1, r.1.2.2.2.1, r.2.1.1), (r.1.2.2.2.2.1, r.2.1.2))
def back_spec_l4Fill_0 (c : (Sl S_impl_Share) × Nat × Nat) (w : Int × (Nat → Int)) : St RT den := ⟨[(.rs c.1.z .impl_Share c.1.n c.1.f), .dead, .dead, (.os 0 c.2.1), (.int .i64 w.1), .dead, .dead, .dead, .dead, .dead, .dead, .dead, .dead, .dead, .dead, .dead, .dead, .dead, .dead, .dead, .dead, .dead, .dead, .dead, .dead, .dead, .dead, .dead, .dead, .dead, .dead, .dead, .dead, .dead, .dead, .dead, .dead, .dead, .dead, .dead, .dead, .dead, .dead, .dead, .dead, .dead, .dead, .dead, .dead, .dead, .dead], [(.row false .i64 c.2.2 w.2)]⟩
def Bk_spec_l4Fill_0 {ρ : Type} (fu : Nat) (c : (Sl S_impl_Share) × Nat × Nat) (k : Ex → St RT den → Option ρ) (w : Int × (Nat → Int)) (go : (Int × (Nat → Int)) → Option ρ) : Option ρ := F_spec_l4Fill_B0 fu c.1 c.2.1 c.2.2 (fun a0 => k .ret ⟨[.dead, .dead, (.os 0 c.2.1), (.os 0 c.2.1), .dead, .dead, .dead, .dead, .dead, .dead, .dead, .dead, .dead, .dead, .dead, .dead, .dead, .dead, .dead, .dead, .dead, .dead, .dead, .dead, .dead, .dead, .dead, .dead, .dead, .dead, .dead, .dead, .dead, .dead, .dead, .dead, .dead, .dead, .dead, .dead, .dead, .dead, .dead, .dead, .dead, .dead, .dead, .dead, .dead, .dead, .dead], [(.row false .i64 c.2.2 a0)]⟩) (fun a0 => k (.exit 0) ⟨[.dead, .dead, .dead, (.os 0 c.2.1), .dead, .dead, .dead, .dead, .dead, .dead, .dead, .dead, .dead, .dead, .dead, .dead, .dead, .dead, .dead, .dead, .dead, .dead, .dead, .dead, .dead, .dead, .dead, .dead, .dead, .dead, .dead, .dead, .dead, .dead, .dead, .dead, .dead, .dead, .dead, .dead, .dead, .dead, .dead, .dead, .dead, .dead, .dead, .dead, .dead, .dead, .dead], [(.row false .i64 c.2.2 a0)]⟩) w.1 w.2 (fun q0 q1 => go (q0, q1))
def lp_spec_l4Fill (fu : Nat) : Lp RT den ((Sl Int)) := fun b s k => match b with | 0 => handle ps_spec_l4Fill_0 os_spec_l4Fill_0 conv_spec_l4Fill_0 (Bk_spec_l4Fill_0 fu) fu s k | 2 => handle ps_spec_l4Fill_2 os_spec_l4Fill_2 conv_spec_l4Fill_2 (Bk_spec_l4Fill_2 fu) fu s k | 4 => handle ps_spec_l4Fill_4 os_spec_l4Fill_4 conv_spec_l4Fill_4 (Bk_spec_l4Fill_4 fu) fu s k | _ => none
theorem ev_spec_l4Fill (fu : Nat) (list_0 : (Sl S_impl_Share)) : evFun E (pc_spec_l4Fill fu) msk_spec_l4Fill (lp_spec_l4Fill fu) out_sl_i64 67 [(.rs list_0.z .impl_Share list_0.n list_0.f)] = F_spec_l4Fill fu list_0 := by kernel_rfl
noncomputable def body_spec_l4Fill : Code := Tryz.f67.body.getD .skip
noncomputable def lc_spec_l4Fill_0 : Code := ((loops 0 body_spec_l4Fill).getD 0 (0, .skip)).2
theorem round_spec_l4Fill_0 (fu : Nat) (it : St RT den → Option ((Sl Int))) (k : Ex → St RT den → Option ((Sl Int))) c w : evCode E (pc_spec_l4Fill fu) msk_spec_l4Fill (lp_spec_l4Fill fu) 0 lc_spec_l4Fill_0 (back_spec_l4Fill_0 c w) (after (msk_spec_l4Fill 0) (msk_spec_l4Fill 100000) 1 it k) = Bk_spec_l4Fill_0 fu c k w (fun w => it (back_spec_l4Fill_0 c w)) := by kernel_rfl
theorem lpok_spec_l4Fill_0 (fu : Nat) : ∀ s k r, lp_spec_l4Fill fu 0 s k = some r → ∃ fuel, iter (msk_spec_l4Fill 0) (msk_spec_l4Fill 100000) s.objs.length (evCode E (pc_spec_l4Fill fu) msk_spec_l4Fill (lp_spec_l4Fill fu) 0 lc_spec_l4Fill_0) fuel s k = some r :=
  handle_ok (ps := ps_spec_l4Fill_0) (os := os_spec_l4Fill_0) (conv := conv_spec_l4Fill_0) (B := Bk_spec_l4Fill_0 fu) (fu := fu) back_spec_l4Fill_0 (fun raw => by kernel_rfl) 1 (fun c w => by kernel_rfl) (round_spec_l4Fill_0 fu)
noncomputable def lc_spec_l4Fill_2 : Code := ((loops 0 body_spec_l4Fill).getD 1 (0, .skip)).2
theorem round_spec_l4Fill_2 (fu : Nat) (it : St RT den → Option ((Sl Int))) (k : Ex → St RT den → Option ((Sl Int))) c w : evCode E (pc_spec_l4Fill fu) msk_spec_l4Fill (lp_spec_l4Fill fu) 2 lc_spec_l4Fill_2 (back_spec_l4Fill_2 c w) (after (msk_spec_l4Fill 2) (msk_spec_l4Fill 100002) 1 it k) = Bk_spec_l4Fill_2 fu c k w (fun w => it (back_spec_l4Fill_2 c w)) := by kernel_rfl
theorem lpok_spec_l4Fill_2 (fu : Nat) : ∀ s k r, lp_spec_l4Fill fu 2 s k = some r → ∃ fuel, iter (msk_spec_l4Fill 2) (msk_spec_l4Fill 100002) s.objs.length (evCode E (pc_spec_l4Fill fu) msk_spec_l4Fill (lp_spec_l4Fill fu) 2 lc_spec_l4Fill_2) fuel s k = some r :=
  handle_ok (ps := ps_spec_l4Fill_2) (os := os_spec_l4Fill_2) (conv := conv_spec_l4Fill_2) (B := Bk_spec_l4Fill_2 fu) (fu := fu) back_spec_l4Fill_2 (fun raw => by kernel_rfl) 1 (fun c w => by kernel_rfl) (round_spec_l4Fill_2 fu)
noncomputable def lc_spec_l4Fill_4 : Code := ((loops 0 body_spec_l4Fill).getD 2 (0, .skip)).2
theorem round_spec_l4Fill_4 (fu : Nat) (it : St RT den → Option ((Sl Int))) (k : Ex → St RT den → Option ((Sl Int))) c w : evCode E (pc_spec_l4Fill fu) msk_spec_l4Fill (lp_spec_l4Fill fu) 4 lc_spec_l4Fill_4 (back_spec_l4Fill_4 c w) (after (msk_spec_l4Fill 4) (msk_spec_l4Fill 100004) 1 it k) = Bk_spec_l4Fill_4 fu c k w (fun w => it (back_spec_l4Fill_4 c w)) := by kernel_rfl
theorem lpok_spec_l4Fill_4 (fu : Nat) : ∀ s k r, lp_spec_l4Fill fu 4 s k = some r → ∃ fuel, iter (msk_spec_l4Fill 4) (msk_spec_l4Fill 100004) s.objs.length (evCode E (pc_spec_l4Fill fu) msk_spec_l4Fill (lp_spec_l4Fill fu) 4 lc_spec_l4Fill_4) fuel s k = some r :=
  handle_ok (ps := ps_spec_l4Fill_4) (os := os_spec_l4Fill_4) (conv := conv_spec_l4Fill_4) (B := Bk_spec_l4Fill_4 fu) (fu := fu) back_spec_l4Fill_4 (fun raw => by kernel_rfl) 1 (fun c w => by kernel_rfl) (round_spec_l4Fill_4 fu)
theorem lpok_spec_l4Fill (fu : Nat) : LpOk E (pc_spec_l4Fill fu) msk_spec_l4Fill (lp_spec_l4Fill fu) (loops 0 body_spec_l4Fill) := loop_all 3 (by kernel_rfl) fun i hi => match i, hi with
  | 0, _ => by
    have h : (loops 0 body_spec_l4Fill).getD 0 (0, .skip) = (0, lc_spec_l4Fill_0) := by kernel_rfl
    rw [h]; exact lpok_spec_l4Fill_0 fu
  | 1, _ => by
    have h : (loops 0 body_spec_l4Fill).getD 1 (0, .skip) = (2, lc_spec_l4Fill_2) := by kernel_rfl
    rw [h]; exact lpok_spec_l4Fill_2 fu
  | 2, _ => by
    have h : (loops 0 body_spec_l4Fill).getD 2 (0, .skip) = (4, lc_spec_l4Fill_4) := by kernel_rfl
    rw [h]; exact lpok_spec_l4Fill_4 fu
  | i + 3, hi => absurd hi (by omega)
def S_spec_l4Fill (fu : Nat) (xs : List (D RT den)) : Option (Out RT den) := match xs with | [.rs za0_0 .impl_Share na0_0 fa0_0] => some ⟨(Sl Int), F_spec_l4Fill fu (⟨za0_0, na0_0, fa0_0⟩ : (Sl S_impl_Share)), enc_sl_i64, fun _ => true⟩ | _ => none
theorem hpc_spec_l4Fill (fu : Nat) : ∀ f xs o, pcf_spec_l4Fill fu f xs = some o → ∀ y, o.x = some y → Good E Tryz.prog f xs (o.g y) := by
  intro f xs o h
  unfold pcf_spec_l4Fill at h
  split at h
  · exact good_spec_l4Weights fu xs o h
  · exact good_spec_l4Free fu xs o h
  · cases h
theorem hpx_spec_l4Fill (fu : Nat) : ∀ f xs ins o, pcx_spec_l4Fill fu f xs ins = some o → ∀ y, o.x = some y → GoodX E Tryz.prog f xs ins (o.g y).1 (o.g y).2 := by
  intro f xs ins o h
  cases h
theorem goodv_spec_l4Fill (fu : Nat) (list_0 : (Sl S_impl_Share)) (y : (Sl Int)) (hy : F_spec_l4Fill fu list_0 = some y) : Good E Tryz.prog 67 [(.rs list_0.z .impl_Share list_0.n list_0.f)] (enc_sl_i64 y) :=
  fun_good E_ok (pc_good (pc := pc_spec_l4Fill fu) (hpc_spec_l4Fill fu) (hpx_spec_l4Fill fu)) (fn := Tryz.f67) (c := body_spec_l4Fill) (out := out_sl_i64) (y := y) (by kernel_rfl) (by kernel_rfl) (by kernel_rfl) (lpok_spec_l4Fill fu) (fun d hd => out_sl_i64_enc d _ hd) ((ev_spec_l4Fill fu list_0).trans hy)
theorem good_spec_l4Fill (fu : Nat) : ∀ xs o, S_spec_l4Fill fu xs = some o → ∀ y, o.x = some y → Good E Tryz.prog 67 xs (o.g y) := by
  intro xs o h y hy
  unfold S_spec_l4Fill at h
  split at h
  · rename_i za0_0 na0_0 fa0_0
    cases h
    exact goodv_spec_l4Fill fu (⟨za0_0, na0_0, fa0_0⟩ : (Sl S_impl_Share)) y hy
  · cases h

/-! spec.l14Tables -/
def F_spec_l14Tables_B0 {ρ : Type} (fu : Nat) (c0_0 : Int) (c0_1 : (Sl S_impl_Backend)) (c0_2 : (Sl S_impl_Vip)) (k0 : Nat → Nat → (Nat → (Sl Int)) → Option ρ) (out3_3 : Nat) (i4_4 : Int) (on0_5 : Nat) (of0_6 : (Nat → (Sl Int))) (go : Nat → Int → Nat → (Nat → (Sl Int)) → Option ρ) : Option ρ :=
  (bif (decide (i4_4 < ((c0_2.n : Nat) : Int))) then ((F_spec_l5Shares fu (⟨c0_0, c0_1, c0_2⟩ : S_impl_Config) i4_4).bind fun y104 => ((F_spec_l4Fill fu y104).bind fun y105 => (bif (decide ((out3_3 + 1) ≤ 9223372036854775807) &&
    decide ((out3_3 + 1) * 24 ≤ 140737488355328)) then (go (out3_3 + 1) (IntKind.wrap .i64 (i4_4 + 1)) (out3_3 + 1) (fun i => if i < out3_3 then (of0_6 i) else ((fun i =>
    [y105].getD i (dflt .sl_i64)) (i - out3_3)))) else none))) else (k0 out3_3 on0_5 of0_6))
def F_spec_l14Tables (fu : Nat) (c_0 : S_impl_Config) : Option ((Sl (Sl Int))) :=
  (L (fun w0 go0 => F_spec_l14Tables_B0 fu c_0.Version c_0.Backends c_0.Vips (fun z106 z107 z108 => (some (⟨none, z106, z108⟩ : (Sl (Sl Int))))) w0.1 w0.2.1 w0.2.2.1 w0.2.2.2 (fun q0 q1 q2 q3 =>
    go0 (q0, q1, q2, q3))) fu ((0, 0, 0, (fun _ => dflt .sl_i64)) : Nat × Int × Nat × (Nat → (Sl Int))))
def pcf_spec_l14Tables (fu : Nat) (f : Nat) (xs : List (D RT den)) : Option (Out RT den) := match f with | 67 => S_spec_l4Fill fu xs | 68 => S_spec_l5Shares fu xs | _ => none
def pcx_spec_l14Tables (fu : Nat) (f : Nat) (xs : List (D RT den)) (ins : List (Ob RT den)) : Option (OutX RT den) := none
def pc_spec_l14Tables (fu : Nat) : Pc RT den := ⟨pcf_spec_l14Tables fu, fun _ => false, fun _ => false, pcx_spec_l14Tables fu⟩
def msk_spec_l14Tables (b : Nat) : List Nat := match b with | 0 => [1, 2, 5, 6, 7, 8, 9, 10, 11, 12, 13, 14, 15, 16, 17, 18, 19, 20, 21, 22] | 100000 => [0, 1, 4, 5, 6, 7, 8, 9, 10, 11, 12, 13, 14, 15, 16, 17, 18, 19, 20, 21, 22] | 300000 => [3] | _ => []
def ps_spec_l14Tables_0 : List (Pat RT) := [.rptr [(.int .i64), (.rs .impl_Backend), (.rs .impl_Vip)], .flat .dead, .flat .dead, .flat (.os 0), .flat (.int .i64), .flat .dead, .flat .dead, .flat .dead, .flat .dead, .flat .dead, .flat .dead, .flat .dead, .flat .dead, .flat .dead, .flat .dead, .flat .dead, .flat .dead, .flat .dead, .flat .dead, .flat .dead, .flat .dead, .flat .dead, .flat .dead]
def os_spec_l14Tables_0 : List (OP RT) := [.row false .sl_i64]
def conv_spec_l14Tables_0 (r : Raw den ps_spec_l14Tables_0 os_spec_l14Tables_0) : (Int × (Sl S_impl_Backend) × (Sl S_impl_Vip)) × (Nat × Int × Nat × (Nat → (Sl Int))) := ((r.1.1.1, r.1.1.2.1, r.1.1.2.2.1), (r.1.2.2.2.1, r.1.2.2.2.2.1, r.2.1.1, r.2.1.2))
def back_spec_l14Tables_0 (c : Int × (Sl S_impl_Backend) × (Sl S_impl_Vip)) (w : Nat × Int × Nat × (Nat → (Sl Int))) : St RT den := ⟨[(.rptr [(.int .i64 c.1), (.rs c.2.1.z .impl_Backend c.2.1.n c.2.1.f), (.rs c.2.2.z .impl_Vip c.2.2.n c.2.2.f)]), .dead, .dead, (.os 0 w.1), (.int .i64 w.2.1), .dead, .dead, .dead, .dead, .dead, .dead, .dead, .dead, .dead, .dead, .dead, .dead, .dead, .dead, .dead, .dead, .dead, .dead], [(.row false .sl_i64 w.2.2.1 w.2.2.2)]⟩
def Bk_spec_l14Tables_0 {ρ : Type} (fu : Nat) (c : Int × (Sl S_impl_Backend) × (Sl S_impl_Vip)) (k : Ex → St RT den → Option ρ) (w : Nat × Int × Nat × (Nat → (Sl Int))) (go : (Nat × Int × Nat × (Nat → (Sl Int))) → Option ρ) : Option ρ := F_spec_l14Tables_B0 fu c.1 c.2.1 c.2.2 (fun a0 a1 a2 => k (.exit 0) ⟨[.dead, .dead, .dead, (.os 0 a0), .dead, .dead, .dead, .dead, .dead, .dead, .dead, .dead, .dead, .dead, .dead, .dead, .dead, .dead, .dead, .dead, .dead, .dead, .dead], [(.row false .sl_i64 a1 a2)]⟩) w.1 w.2.1 w.2.2.1 w.2.2.2 (fun q0 q1 q2 q3 => go (q0, q1, q2, q3))
def lp_spec_l14Tables (fu : Nat) : Lp RT den ((Sl (Sl Int))) := fun b s k => match b with | 0 => handle ps_spec_l14Tables_0 os_spec_l14Tables_0 conv_spec_l14Tables_0 (Bk_spec_l14Tables_0 fu) fu s k | _ => none
theorem ev_spec_l14Tables (fu : Nat) (c_0 : S_impl_Config) : evFun E (pc_spec_l14Tables fu) msk_spec_l14Tables (lp_spec_l14Tables fu) out_sl_sl_i64 42 [(.rptr [(.int .i64 c_0.Version), (.rs c_0.Backends.z .impl_Backend c_0.Backends.n c_0.Backends.f), (.rs c_0.Vips.z .impl_Vip c_0.Vips.n c_0.Vips.f)])] = F_spec_l14Tables fu c_0 := by kernel_rfl
noncomputable def body_spec_l14Tables : Code := Tryz.f42.body.getD .skip
noncomputable def lc_spec_l14Tables_0 : Code := ((loops 0 body_spec_l14Tables).getD 0 (0, .skip)).2
theorem round_spec_l14Tables_0 (fu : Nat) (it : St RT den → Option ((Sl (Sl Int)))) (k : Ex → St RT den → Option ((Sl (Sl Int)))) c w : evCode E (pc_spec_l14Tables fu) msk_spec_l14Tables (lp_spec_l14Tables fu) 0 lc_spec_l14Tables_0 (back_spec_l14Tables_0 c w) (after (msk_spec_l14Tables 0) (msk_spec_l14Tables 100000) 1 it k) = Bk_spec_l14Tables_0 fu c k w (fun w => it (back_spec_l14Tables_0 c w)) := by kernel_rfl
theorem lpok_spec_l14Tables_0 (fu : Nat) : ∀ s k r, lp_spec_l14Tables fu 0 s k = some r → ∃ fuel, iter (msk_spec_l14Tables 0) (msk_spec_l14Tables 100000) s.objs.length (evCode E (pc_spec_l14Tables fu) msk_spec_l14Tables (lp_spec_l14Tables fu) 0 lc_spec_l14Tables_0) fuel s k = some r :=
  handle_ok (ps := ps_spec_l14Tables_0) (os := os_spec_l14Tables_0) (conv := conv_spec_l14Tables_0) (B := Bk_spec_l14Tables_0 fu) (fu := fu) back_spec_l14Tables_0 (fun raw => by kernel_rfl) 1 (fun c w => by kernel_rfl) (round_spec_l14Tables_0 fu)
theorem lpok_spec_l14Tables (fu : Nat) : LpOk E (pc_spec_l14Tables fu) msk_spec_l14Tables (lp_spec_l14Tables fu) (loops 0 body_spec_l14Tables) := loop_all 1 (by kernel_rfl) fun i hi => match i, hi with
  | 0, _ => by
    have h : (loops 0 body_spec_l14Tables).getD 0 (0, .skip) = (0, lc_spec_l14Tables_0) := by kernel_rfl
    rw [h]; exact lpok_spec_l14Tables_0 fu
  | i + 1, hi => absurd hi (by omega)
def S_spec_l14Tables (fu : Nat) (xs : List (D RT den)) : Option (Out RT den) := match xs with | [.rptr (.int .i64 a0_1 :: .rs za0_2 .impl_Backend na0_2 fa0_2 :: .rs za0_3 .impl_Vip na0_3 fa0_3 :: ra0)] => some ⟨(Sl (Sl Int)), F_spec_l14Tables fu (⟨a0_1, (⟨za0_2, na0_2, fa0_2⟩ : (Sl S_impl_Backend)), (⟨za0_3, na0_3, fa0_3⟩ : (Sl S_impl_Vip))⟩ : S_impl_Config), enc_sl_sl_i64, fun _ => true⟩ | _ => none
theorem hpc_spec_l14Tables (fu : Nat) : ∀ f xs o, pcf_spec_l14Tables fu f xs = some o → ∀ y, o.x = some y → Good E Tryz.prog f xs (o.g y) := by
  intro f xs o h
  unfold pcf_spec_l14Tables at h
  split at h
  · exact good_spec_l4Fill fu xs o h
  · exact good_spec_l5Shares fu xs o h
  · cases h
theorem hpx_spec_l14Tables (fu : Nat) : ∀ f xs ins o, pcx_spec_l14Tables fu f xs ins = some o → ∀ y, o.x = some y → GoodX E Tryz.prog f xs ins (o.g y).1 (o.g y).2 := by
  intro f xs ins o h
  cases h
theorem goodv_spec_l14Tables (fu : Nat) (c_0 : S_impl_Config) (y : (Sl (Sl Int))) (hy : F_spec_l14Tables fu c_0 = some y) : Good E Tryz.prog 42 [(.rptr [(.int .i64 c_0.Version), (.rs c_0.Backends.z .impl_Backend c_0.Backends.n c_0.Backends.f), (.rs c_0.Vips.z .impl_Vip c_0.Vips.n c_0.Vips.f)])] (enc_sl_sl_i64 y) :=
  fun_good E_ok (pc_good (pc := pc_spec_l14Tables fu) (hpc_spec_l14Tables fu) (hpx_spec_l14Tables fu)) (fn := Tryz.f42) (c := body_spec_l14Tables) (out := out_sl_sl_i64) (y := y) (by kernel_rfl) (by kernel_rfl) (by kernel_rfl) (lpok_spec_l14Tables fu) (fun d hd => out_sl_sl_i64_enc d _ hd) ((ev_spec_l14Tables fu c_0).trans hy)
theorem good_spec_l14Tables (fu : Nat) : ∀ xs o, S_spec_l14Tables fu xs = some o → ∀ y, o.x = some y → Good E Tryz.prog 42 xs (o.g y) := by
  intro xs o h y hy
  unfold S_spec_l14Tables at h
  split at h
  · rename_i a0_1 za0_2 na0_2 fa0_2 za0_3 na0_3 fa0_3 ra0
    cases h
    exact (goodv_spec_l14Tables fu (⟨a0_1, (⟨za0_2, na0_2, fa0_2⟩ : (Sl S_impl_Backend)), (⟨za0_3, na0_3, fa0_3⟩ : (Sl S_impl_Vip))⟩ : S_impl_Config) y hy).sub ⟨Sub.of_eq ra0 rfl, trivial⟩
  · cases h

/-! spec.l5Nums -/
def F_spec_l5Nums_B0 {ρ : Type} (fu : Nat) (a0_0 : (Sl Int)) (b1_1 : (Sl Int)) (k0 : Option ρ) (k1 : Option ρ) (i5_2 : Int) (go : Int → Option ρ) : Option ρ :=
  (bif (decide (i5_2 < ((a0_0.n : Nat) : Int))) then ((bif (decide (0 ≤ i5_2) && decide ((Int.toNat i5_2) < a0_0.n)) then some () else none : Option Unit).bind fun _ => ((bif (decide (0 ≤ i5_2) &&
    decide ((Int.toNat i5_2) < b1_1.n)) then some () else none : Option Unit).bind fun _ => (bif ((a0_0.f (Int.toNat i5_2)) != (b1_1.f (Int.toNat i5_2))) then k0 else (go (IntKind.wrap .i64 (i5_2 + 1)))))) else
    k1)
def F_spec_l5Nums (fu : Nat) (a_0 : (Sl Int)) (b_1 : (Sl Int)) : Option (Bool) :=
  (bif (((a_0.n : Nat) : Int) != ((b_1.n : Nat) : Int)) then (some false) else (L (fun w0 go0 => F_spec_l5Nums_B0 fu a_0 b_1 (some false) (some true) w0 go0) fu (0 : Int)))
def pcf_spec_l5Nums (fu : Nat) (f : Nat) (xs : List (D RT den)) : Option (Out RT den) := none
def pcx_spec_l5Nums (fu : Nat) (f : Nat) (xs : List (D RT den)) (ins : List (Ob RT den)) : Option (OutX RT den) := none
def pc_spec_l5Nums (fu : Nat) : Pc RT den := ⟨pcf_spec_l5Nums fu, fun _ => false, fun _ => false, pcx_spec_l5Nums fu⟩
def msk_spec_l5Nums (b : Nat) : List Nat := match b with | 0 => [2, 3, 4, 6, 7, 8, 9, 10, 11, 12, 13, 14, 15, 16, 17, 18, 19, 20, 21, 22, 23, 24, 25] | 100000 => [0, 1, 2, 3, 5, 6, 7, 8, 9, 10, 11, 12, 13, 14, 15, 16, 17, 18, 19, 20, 21, 22, 23, 24, 25] | _ => []
def ps_spec_l5Nums_0 : List (Pat RT) := [.flat (.rs .i64), .flat (.rs .i64), .flat .dead, .flat .dead, .flat .dead, .flat (.int .i64), .flat .dead, .flat .dead, .flat .dead, .flat .dead, .flat .dead, .flat .dead, .flat .dead, .flat .dead, .flat .dead, .flat .dead, .flat .dead, .flat .dead, .flat .dead, .flat .dead, .flat .dead, .flat .dead, .flat .dead, .flat .dead, .flat .dead, .flat .dead]
def os_spec_l5Nums_0 : List (OP RT) := []
def conv_spec_l5Nums_0 (r : Raw den ps_spec_l5Nums_0 os_spec_l5Nums_0) : ((Sl Int) × (Sl Int)) × (Int) := ((r.1.1, r.1.2.1), r.1.2.2.2.2.2.1)
def back_spec_l5Nums_0 (c : (Sl Int) × (Sl Int)) (w : Int) : St RT den := ⟨[(.rs c.1.z .i64 c.1.n c.1.f), (.rs c.2.z .i64 c.2.n c.2.f), .dead, .dead, .dead, (.int .i64 w), .dead, .dead, .dead, .dead, .dead, .dead, .dead, .dead, .dead, .dead, .dead, .dead, .dead, .dead, .dead, .dead, .dead, .dead, .dead, .dead], []⟩
def Bk_spec_l5Nums_0 {ρ : Type} (fu : Nat) (c : (Sl Int) × (Sl Int)) (k : Ex → St RT den → Option ρ) (w : Int) (go : (Int) → Option ρ) : Option ρ := F_spec_l5Nums_B0 fu c.1 c.2 (k .ret ⟨[.dead, .dead, .dead, .dead, (.bool false), .dead, .dead, .dead, .dead, .dead, .dead, .dead, .dead, .dead, .dead, .dead, .dead, .dead, .dead, .dead, .dead, .dead, .dead, .dead, .dead, .dead], []⟩) (k (.exit 0) ⟨[.dead, .dead, .dead, .dead, .dead, .dead, .dead, .dead, .dead, .dead, .dead, .dead, .dead, .dead, .dead, .dead, .dead, .dead, .dead, .dead, .dead, .dead, .dead, .dead, .dead, .dead], []⟩) w go
def lp_spec_l5Nums (fu : Nat) : Lp RT den (Bool) := fun b s k => match b with | 0 => handle ps_spec_l5Nums_0 os_spec_l5Nums_0 conv_spec_l5Nums_0 (Bk_spec_l5Nums_0 fu) fu s k | _ => none
theorem ev_spec_l5Nums (fu : Nat) (a_0 : (Sl Int)) (b_1 : (Sl Int)) : evFun E (pc_spec_l5Nums fu) msk_spec_l5Nums (lp_spec_l5Nums fu) out_bo 43 [(.rs a_0.z .i64 a_0.n a_0.f), (.rs b_1.z .i64 b_1.n b_1.f)] = F_spec_l5Nums fu a_0 b_1 := by kernel_rfl
noncomputable def body_spec_l5Nums : Code := Tryz.f43.body.getD .skip
noncomputable def lc_spec_l5Nums_0 : Code := ((loops 0 body_spec_l5Nums).getD 0 (0, .skip)).2
theorem round_spec_l5Nums_0 (fu : Nat) (it : St RT den → Option (Bool)) (k : Ex → St RT den → Option (Bool)) c w : evCode E (pc_spec_l5Nums fu) msk_spec_l5Nums (lp_spec_l5Nums fu) 0 lc_spec_l5Nums_0 (back_spec_l5Nums_0 c w) (after (msk_spec_l5Nums 0) (msk_spec_l5Nums 100000) 0 it k) = Bk_spec_l5Nums_0 fu c k w (fun w => it (back_spec_l5Nums_0 c w)) := by kernel_rfl
theorem lpok_spec_l5Nums_0 (fu : Nat) : ∀ s k r, lp_spec_l5Nums fu 0 s k = some r → ∃ fuel, iter (msk_spec_l5Nums 0) (msk_spec_l5Nums 100000) s.objs.length (evCode E (pc_spec_l5Nums fu) msk_spec_l5Nums (lp_spec_l5Nums fu) 0 lc_spec_l5Nums_0) fuel s k = some r :=
  handle_ok (ps := ps_spec_l5Nums_0) (os := os_spec_l5Nums_0) (conv := conv_spec_l5Nums_0) (B := Bk_spec_l5Nums_0 fu) (fu := fu) back_spec_l5Nums_0 (fun raw => by kernel_rfl) 0 (fun c w => by kernel_rfl) (round_spec_l5Nums_0 fu)
theorem lpok_spec_l5Nums (fu : Nat) : LpOk E (pc_spec_l5Nums fu) msk_spec_l5Nums (lp_spec_l5Nums fu) (loops 0 body_spec_l5Nums) := loop_all 1 (by kernel_rfl) fun i hi => match i, hi with
  | 0, _ => by
    have h : (loops 0 body_spec_l5Nums).getD 0 (0, .skip) = (0, lc_spec_l5Nums_0) := by kernel_rfl
    rw [h]; exact lpok_spec_l5Nums_0 fu
  | i + 1, hi => absurd hi (by omega)
def S_spec_l5Nums (fu : Nat) (xs : List (D RT den)) : Option (Out RT den) := match xs with | [.rs za0_0 .i64 na0_0 fa0_0, .rs za1_0 .i64 na1_0 fa1_0] => some ⟨Bool, F_spec_l5Nums fu (⟨za0_0, na0_0, fa0_0⟩ : (Sl Int)) (⟨za1_0, na1_0, fa1_0⟩ : (Sl Int)), enc_bo, fun _ => true⟩ | _ => none
theorem hpc_spec_l5Nums (fu : Nat) : ∀ f xs o, pcf_spec_l5Nums fu f xs = some o → ∀ y, o.x = some y → Good E Tryz.prog f xs (o.g y) := by
  intro f xs o h
  cases h
theorem hpx_spec_l5Nums (fu : Nat) : ∀ f xs ins o, pcx_spec_l5Nums fu f xs ins = some o → ∀ y, o.x = some y → GoodX E Tryz.prog f xs ins (o.g y).1 (o.g y).2 := by
  intro f xs ins o h
  cases h
theorem goodv_spec_l5Nums (fu : Nat) (a_0 : (Sl Int)) (b_1 : (Sl Int)) (y : Bool) (hy : F_spec_l5Nums fu a_0 b_1 = some y) : Good E Tryz.prog 43 [(.rs a_0.z .i64 a_0.n a_0.f), (.rs b_1.z .i64 b_1.n b_1.f)] (enc_bo y) :=
  fun_good E_ok (pc_good (pc := pc_spec_l5Nums fu) (hpc_spec_l5Nums fu) (hpx_spec_l5Nums fu)) (fn := Tryz.f43) (c := body_spec_l5Nums) (out := out_bo) (y := y) (by kernel_rfl) (by kernel_rfl) (by kernel_rfl) (lpok_spec_l5Nums fu) (fun d hd => out_bo_enc d _ hd) ((ev_spec_l5Nums fu a_0 b_1).trans hy)
theorem good_spec_l5Nums (fu : Nat) : ∀ xs o, S_spec_l5Nums fu xs = some o → ∀ y, o.x = some y → Good E Tryz.prog 43 xs (o.g y) := by
  intro xs o h y hy
  unfold S_spec_l5Nums at h
  split at h
  · rename_i za0_0 na0_0 fa0_0 za1_0 na1_0 fa1_0
    cases h
    exact goodv_spec_l5Nums fu (⟨za0_0, na0_0, fa0_0⟩ : (Sl Int)) (⟨za1_0, na1_0, fa1_0⟩ : (Sl Int)) y hy
  · cases h

/-! spec.l3Flow -/
def F_spec_l3Flow (fu : Nat) (f_0 : S_impl_Flow) : Option (Bool) :=
  ((((F_spec_l2Address fu f_0.From).bind fun y165 => (bif y165 then ((F_spec_l2Address fu f_0.To).bind fun y166 => (bif y166 then (bif (f_0.Proto == 6) then ((F_spec_l2Port fu f_0.FromP).bind fun y167 =>
    (bif y167 then ((F_spec_l2Port fu f_0.ToP).bind fun y168 => (some y168)) else (some false))) else (bif (f_0.Proto == 17) then ((F_spec_l2Port fu f_0.FromP).bind fun y169 => (bif y169 then
    ((F_spec_l2Port fu f_0.ToP).bind fun y170 => (some y170)) else (some false))) else (some false))) else (some false))) else (some false))) : Option Bool).bind fun m171 => (some m171))
def pcf_spec_l3Flow (fu : Nat) (f : Nat) (xs : List (D RT den)) : Option (Out RT den) := match f with | 39 => S_spec_l2Address fu xs | 60 => S_spec_l2Port fu xs | _ => none
def pcx_spec_l3Flow (fu : Nat) (f : Nat) (xs : List (D RT den)) (ins : List (Ob RT den)) : Option (OutX RT den) := none
def pc_spec_l3Flow (fu : Nat) : Pc RT den := ⟨pcf_spec_l3Flow fu, fun _ => false, fun _ => false, pcx_spec_l3Flow fu⟩
def msk_spec_l3Flow (b : Nat) : List Nat := match b with | 200001 => [2] | _ => []
def lp_spec_l3Flow (fu : Nat) : Lp RT den (Bool) := fun b s k => none
theorem ev_spec_l3Flow (fu : Nat) (f_0 : S_impl_Flow) : evFun E (pc_spec_l3Flow fu) msk_spec_l3Flow (lp_spec_l3Flow fu) out_bo 34 [(.agg [(.int .i64 f_0.From), (.int .i64 f_0.To), (.int .i64 f_0.Proto), (.int .i64 f_0.FromP), (.int .i64 f_0.ToP)])] = F_spec_l3Flow fu f_0 := by kernel_rfl
noncomputable def body_spec_l3Flow : Code := Tryz.f34.body.getD .skip
theorem lpok_spec_l3Flow (fu : Nat) : LpOk E (pc_spec_l3Flow fu) msk_spec_l3Flow (lp_spec_l3Flow fu) (loops 0 body_spec_l3Flow) := by
  have h : loops 0 body_spec_l3Flow = [] := by kernel_rfl
  rw [h]; intro p hp; cases hp
def S_spec_l3Flow (fu : Nat) (xs : List (D RT den)) : Option (Out RT den) := match xs with | [.agg [.int .i64 a0_1, .int .i64 a0_2, .int .i64 a0_3, .int .i64 a0_4, .int .i64 a0_5]] => some ⟨Bool, F_spec_l3Flow fu (⟨a0_1, a0_2, a0_3, a0_4, a0_5⟩ : S_impl_Flow), enc_bo, fun _ => true⟩ | _ => none
theorem hpc_spec_l3Flow (fu : Nat) : ∀ f xs o, pcf_spec_l3Flow fu f xs = some o → ∀ y, o.x = some y → Good E Tryz.prog f xs (o.g y) := by
  intro f xs o h
  unfold pcf_spec_l3Flow at h
  split at h
  · exact good_spec_l2Address fu xs o h
  · exact good_spec_l2Port fu xs o h
  · cases h
theorem hpx_spec_l3Flow (fu : Nat) : ∀ f xs ins o, pcx_spec_l3Flow fu f xs ins = some o → ∀ y, o.x = some y → GoodX E Tryz.prog f xs ins (o.g y).1 (o.g y).2 := by
  intro f xs ins o h
  cases h
theorem goodv_spec_l3Flow (fu : Nat) (f_0 : S_impl_Flow) (y : Bool) (hy : F_spec_l3Flow fu f_0 = some y) : Good E Tryz.prog 34 [(.agg [(.int .i64 f_0.From), (.int .i64 f_0.To), (.int .i64 f_0.Proto), (.int .i64 f_0.FromP), (.int .i64 f_0.ToP)])] (enc_bo y) :=
  fun_good E_ok (pc_good (pc := pc_spec_l3Flow fu) (hpc_spec_l3Flow fu) (hpx_spec_l3Flow fu)) (fn := Tryz.f34) (c := body_spec_l3Flow) (out := out_bo) (y := y) (by kernel_rfl) (by kernel_rfl) (by kernel_rfl) (lpok_spec_l3Flow fu) (fun d hd => out_bo_enc d _ hd) ((ev_spec_l3Flow fu f_0).trans hy)
theorem good_spec_l3Flow (fu : Nat) : ∀ xs o, S_spec_l3Flow fu xs = some o → ∀ y, o.x = some y → Good E Tryz.prog 34 xs (o.g y) := by
  intro xs o h y hy
  unfold S_spec_l3Flow at h
  split at h
  · rename_i a0_1 a0_2 a0_3 a0_4 a0_5
    cases h
    exact goodv_spec_l3Flow fu (⟨a0_1, a0_2, a0_3, a0_4, a0_5⟩ : S_impl_Flow) y hy
  · cases h

/-! spec.l5For -/
def F_spec_l5For_B0 {ρ : Type} (fu : Nat) (c0_0 : Int) (c0_1 : (Sl S_impl_Backend)) (c0_2 : (Sl S_impl_Vip)) (o0_4 : Int) (o0_5 : Int) (o0_6 : Int) (o0_7 : Int) (o0_8 : Int) (k0 : Int → Int → Int → Int → (Sl Int) → Option ρ) (k1 : Option ρ) (i5_3 : Int) (go : Int → Option ρ) : Option ρ :=
  (bif (decide (i5_3 < ((c0_2.n : Nat) : Int))) then ((bif (decide (0 ≤ i5_3) && decide ((Int.toNat i5_3) < c0_2.n)) then some () else none : Option Unit).bind fun _ => (((bif ((c0_2.f (Int.toNat i5_3)).Address == o0_5) then
    (bif ((c0_2.f (Int.toNat i5_3)).Port == o0_8) then (some ((c0_2.f (Int.toNat i5_3)).Proto == o0_6)) else (some false)) else (some false)) : Option Bool).bind fun m176 => (bif m176 then
    (k0 i5_3 (c0_2.f (Int.toNat i5_3)).Address (c0_2.f (Int.toNat i5_3)).Port (c0_2.f (Int.toNat i5_3)).Proto (c0_2.f (Int.toNat i5_3)).Names) else (go (IntKind.wrap .i64 (i5_3 + 1)))))) else
    k1)
def F_spec_l5For (fu : Nat) (c_0 : S_impl_Config) (f_1 : S_impl_Flow) : Option (Int) :=
  (L (fun w0 go0 => F_spec_l5For_B0 fu c_0.Version c_0.Backends c_0.Vips f_1.From f_1.To f_1.Proto f_1.FromP f_1.ToP (fun z177 z178 z179 z180 z181 => (some z177)) (some (-1)) w0 go0) fu (0 : Int))
def pcf_spec_l5For (fu : Nat) (f : Nat) (xs : List (D RT den)) : Option (Out RT den) := none
def pcx_spec_l5For (fu : Nat) (f : Nat) (xs : List (D RT den)) (ins : List (Ob RT den)) : Option (OutX RT den) := none
def pc_spec_l5For (fu : Nat) : Pc RT den := ⟨pcf_spec_l5For fu, fun _ => false, fun _ => false, pcx_spec_l5For fu⟩
def msk_spec_l5For (b : Nat) : List Nat := match b with | 0 => [1, 2, 4, 6, 7, 8, 9, 10, 11, 12, 13, 14, 15, 16, 17, 18, 19, 20, 21, 22, 23, 24, 25, 26, 27, 28, 29, 30, 31, 32, 33, 34, 35, 36, 37, 38, 39, 40, 41, 42] | 100000 => [0, 1, 2, 3, 5, 6, 7, 8, 9, 10, 11, 12, 13, 14, 15, 16, 17, 18, 19, 20, 21, 22, 23, 24, 25, 26, 27, 28, 29, 30, 31, 32, 33, 34, 35, 36, 37, 38, 39, 40, 41, 42] | 200005 => [41] | _ => []
def ps_spec_l5For_0 : List (Pat RT) := [.rptr [(.int .i64), (.rs .impl_Backend), (.rs .impl_Vip)], .flat .dead, .flat .dead, .flat (.ref 0 0), .flat .dead, .flat (.int .i64), .flat .dead, .flat .dead, .flat .dead, .flat .dead, .flat .dead, .flat .dead, .flat .dead, .flat .dead, .flat .dead, .flat .dead, .flat .dead, .flat .dead, .flat .dead, .flat .dead, .flat .dead, .flat .dead, .flat .dead, .flat .dead, .flat .dead, .flat .dead, .flat .dead, .flat .dead, .flat .dead, .flat .dead, .flat .dead, .flat .dead, .flat .dead, .flat .dead, .flat .dead, .flat .dead, .flat .dead, .flat .dead, .flat .dead, .flat .dead, .flat .dead, .flat .dead, .flat .dead]
def os_spec_l5For_0 : List (OP RT) := [.box [(.int .i64), (.int .i64), (.int .i64), (.int .i64), (.int .i64)]]
def conv_spec_l5For_0 (r : Raw den ps_spec_l5For_0 os_spec_l5For_0) : (Int × (Sl S_impl_Backend) × (Sl S_impl_Vip) × Int × Int × Int × Int × Int) × (Int) := ((r.1.1.1, r.1.1.2.1, r.1.1.2.2.1, r.2.1.1, r.2.1.2.1, r.2.1.2.2.1, r.2.1.2.2.2.1, r.2.1.2.2.2.2.1), r.1.2.2.2.2.2.1)
def back_spec_l5For_0 (c : Int × (Sl S_impl_Backend) × (Sl S_impl_Vip) × Int × Int × Int × Int × Int) (w : Int) : St RT den := ⟨[(.rptr [(.int .i64 c.1), (.rs c.2.1.z .impl_Backend c.2.1.n c.2.1.f), (.rs c.2.2.1.z .impl_Vip c.2.2.1.n c.2.2.1.f)]), .dead, .dead, (.ref 0 0), .dead, (.int .i64 w), .dead, .dead, .dead, .dead, .dead, .dead, .dead, .dead, .dead, .dead, .dead, .dead, .dead, .dead, .dead, .dead, .dead, .dead, .dead, .dead, .dead, .dead, .dead, .dead, .dead, .dead, .dead, .dead, .dead, .dead, .dead, .dead, .dead, .dead, .dead, .dead, .dead], [(.box [(.int .i64 c.2.2.2.1), (.int .i64 c.2.2.2.2.1), (.int .i64 c.2.2.2.2.2.1), (.int .i64 c.2.2.2.2.2.2.1), (.int .i64 c.2.2.2.2.2.2.2)])]⟩
def Bk_spec_l5For_0 {ρ : Type} (fu : Nat) (c : Int × (Sl S_impl_Backend) × (Sl S_impl_Vip) × Int × Int × Int × Int × Int) (k : Ex → St RT den → Option ρ) (w : Int) (go : (Int) → Option ρ) : Option ρ := F_spec_l5For_B0 fu c.1 c.2.1 c.2.2.1 c.2.2.2.1 c.2.2.2.2.1 c.2.2.2.2.2.1 c.2.2.2.2.2.2.1 c.2.2.2.2.2.2.2 (fun a0 a1 a2 a3 a4 => k .ret ⟨[.dead, .dead, .dead, .dead, (.int .i64 a0), .dead, .dead, .dead, .dead, .dead, .dead, .dead, .dead, .dead, .dead, .dead, .dead, .dead, .dead, .dead, .dead, .dead, .dead, .dead, .dead, .dead, .dead, .dead, .dead, .dead, .dead, .dead, .dead, .dead, .dead, .dead, .dead, .dead, .dead, .dead, .dead, .dead, .dead], [(.box [(.int .i64 c.2.2.2.1), (.int .i64 c.2.2.2.2.1), (.int .i64 c.2.2.2.2.2.1), (.int .i64 c.2.2.2.2.2.2.1), (.int .i64 c.2.2.2.2.2.2.2)]), (.box [(.int .i64 a1), (.int .i64 a2), (.int .i64 a3), (.rs a4.z .i64 a4.n a4.f)])]⟩) (k (.exit 0) ⟨[.dead, .dead, .dead, .dead, .dead, .dead, .dead, .dead, .dead, .dead, .dead, .dead, .dead, .dead, .dead, .dead, .dead, .dead, .dead, .dead, .dead, .dead, .dead, .dead, .dead, .dead, .dead, .dead, .dead, .dead, .dead, .dead, .dead, .dead, .dead, .dead, .dead, .dead, .dead, .dead, .dead, .dead, .dead], [(.box [(.int .i64 c.2.2.2.1), (.int .i64 c.2.2.2.2.1), (.int .i64 c.2.2.2.2.2.1), (.int .i64 c.2.2.2.2.2.2.1), (.int .i64 c.2.2.2.2.2.2.2)])]⟩) w go
def lp_spec_l5For (fu : Nat) : Lp RT den (Int) := fun b s k => match b with | 0 => handle ps_spec_l5For_0 os_spec_l5For_0 conv_spec_l5For_0 (Bk_spec_l5For_0 fu) fu s k | _ => none
theorem ev_spec_l5For (fu : Nat) (c_0 : S_impl_Config) (f_1 : S_impl_Flow) : evFun E (pc_spec_l5For fu) msk_spec_l5For (lp_spec_l5For fu) out_i64 95 [(.rptr [(.int .i64 c_0.Version), (.rs c_0.Backends.z .impl_Backend c_0.Backends.n c_0.Backends.f), (.rs c_0.Vips.z .impl_Vip c_0.Vips.n c_0.Vips.f)]), (.agg [(.int .i64 f_1.From), (.int .i64 f_1.To), (.int .i64 f_1.Proto), (.int .i64 f_1.FromP), (.int .i64 f_1.ToP)])] = F_spec_l5For fu c_0 f_1 := by kernel_rfl
noncomputable def body_spec_l5For : Code := Tryz.f95.body.getD .skip
noncomputable def lc_spec_l5For_0 : Code := ((loops 0 body_spec_l5For).getD 0 (0, .skip)).2
theorem round_spec_l5For_0 (fu : Nat) (it : St RT den → Option (Int)) (k : Ex → St RT den → Option (Int)) c w : evCode E (pc_spec_l5For fu) msk_spec_l5For (lp_spec_l5For fu) 0 lc_spec_l5For_0 (back_spec_l5For_0 c w) (after (msk_spec_l5For 0) (msk_spec_l5For 100000) 1 it k) = Bk_spec_l5For_0 fu c k w (fun w => it (back_spec_l5For_0 c w)) := by kernel_rfl
theorem lpok_spec_l5For_0 (fu : Nat) : ∀ s k r, lp_spec_l5For fu 0 s k = some r → ∃ fuel, iter (msk_spec_l5For 0) (msk_spec_l5For 100000) s.objs.length (evCode E (pc_spec_l5For fu) msk_spec_l5For (lp_spec_l5For fu) 0 lc_spec_l5For_0) fuel s k = some r :=
  handle_ok (ps := ps_spec_l5For_0) (os := os_spec_l5For_0) (conv := conv_spec_l5For_0) (B := Bk_spec_l5For_0 fu) (fu := fu) back_spec_l5For_0 (fun raw => by kernel_rfl) 1 (fun c w => by kernel_rfl) (round_spec_l5For_0 fu)
theorem lpok_spec_l5For (fu : Nat) : LpOk E (pc_spec_l5For fu) msk_spec_l5For (lp_spec_l5For fu) (loops 0 body_spec_l5For) := loop_all 1 (by kernel_rfl) fun i hi => match i, hi with
  | 0, _ => by
    have h : (loops 0 body_spec_l5For).getD 0 (0, .skip) = (0, lc_spec_l5For_0) := by kernel_rfl
    rw [h]; exact lpok_spec_l5For_0 fu
  | i + 1, hi => absurd hi (by omega)
def S_spec_l5For (fu : Nat) (xs : List (D RT den)) : Option (Out RT den) := match xs with | [.rptr (.int .i64 a0_1 :: .rs za0_2 .impl_Backend na0_2 fa0_2 :: .rs za0_3 .impl_Vip na0_3 fa0_3 :: ra0), .agg [.int .i64 a1_1, .int .i64 a1_2, .int .i64 a1_3, .int .i64 a1_4, .int .i64 a1_5]] => some ⟨Int, F_spec_l5For fu (⟨a0_1, (⟨za0_2, na0_2, fa0_2⟩ : (Sl S_impl_Backend)), (⟨za0_3, na0_3, fa0_3⟩ : (Sl S_impl_Vip))⟩ : S_impl_Config) (⟨a1_1, a1_2, a1_3, a1_4, a1_5⟩ : S_impl_Flow), enc_i64, fun _ => true⟩ | _ => none
theorem hpc_spec_l5For (fu : Nat) : ∀ f xs o, pcf_spec_l5For fu f xs = some o → ∀ y, o.x = some y → Good E Tryz.prog f xs (o.g y) := by
  intro f xs o h
  cases h
theorem hpx_spec_l5For (fu : Nat) : ∀ f xs ins o, pcx_spec_l5For fu f xs ins = some o → ∀ y, o.x = some y → GoodX E Tryz.prog f xs ins (o.g y).1 (o.g y).2 := by
  intro f xs ins o h
  cases h
theorem goodv_spec_l5For (fu : Nat) (c_0 : S_impl_Config) (f_1 : S_impl_Flow) (y : Int) (hy : F_spec_l5For fu c_0 f_1 = some y) : Good E Tryz.prog 95 [(.rptr [(.int .i64 c_0.Version), (.rs c_0.Backends.z .impl_Backend c_0.Backends.n c_0.Backends.f), (.rs c_0.Vips.z .impl_Vip c_0.Vips.n c_0.Vips.f)]), (.agg [(.int .i64 f_1.From), (.int .i64 f_1.To), (.int .i64 f_1.Proto), (.int .i64 f_1.FromP), (.int .i64 f_1.ToP)])] (enc_i64 y) :=
  fun_good E_ok (pc_good (pc := pc_spec_l5For fu) (hpc_spec_l5For fu) (hpx_spec_l5For fu)) (fn := Tryz.f95) (c := body_spec_l5For) (out := out_i64) (y := y) (by kernel_rfl) (by kernel_rfl) (by kernel_rfl) (lpok_spec_l5For fu) (fun d hd => out_i64_enc d _ hd) ((ev_spec_l5For fu c_0 f_1).trans hy)
theorem good_spec_l5For (fu : Nat) : ∀ xs o, S_spec_l5For fu xs = some o → ∀ y, o.x = some y → Good E Tryz.prog 95 xs (o.g y) := by
  intro xs o h y hy
  unfold S_spec_l5For at h
  split at h
  · rename_i a0_1 za0_2 na0_2 fa0_2 za0_3 na0_3 fa0_3 ra0 a1_1 a1_2 a1_3 a1_4 a1_5
    cases h
    exact (goodv_spec_l5For fu (⟨a0_1, (⟨za0_2, na0_2, fa0_2⟩ : (Sl S_impl_Backend)), (⟨za0_3, na0_3, fa0_3⟩ : (Sl S_impl_Vip))⟩ : S_impl_Config) (⟨a1_1, a1_2, a1_3, a1_4, a1_5⟩ : S_impl_Flow) y hy).sub ⟨Sub.of_eq ra0 rfl, .refl _, trivial⟩
  · cases h
end Go.Proofs.YtmgndndkkeinfaaGreat.Pc
