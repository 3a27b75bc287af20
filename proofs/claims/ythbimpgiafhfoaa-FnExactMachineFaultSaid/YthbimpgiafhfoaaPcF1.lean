/- The functions' evaluated forms, each a proved summary. Conditions: none. -/
import Derived.Test.YthbimpgiafhfoaaPcF0
namespace Go.Proofs.Ythbimpgiafhfoaa.Pc
open Go Go.RowKit Go.Proofs Vm
set_option linter.unusedVariables false
set_option linter.unusedSimpArgs false
set_option maxRecDepth 100000
/-! spec.l5Vip -/
def F_spec_l5Vip_B0 {ρ : Type} (fu : Nat) (c0_0 : Int) (c0_1 : (Sl S_impl_Backend)) (c0_2 : (Sl S_impl_Vip)) (o0_4 : Int) (o0_5 : Int) (o0_6 : Int) (o0_7 : (Sl Int)) (k0 : Option ρ) (k1 : Option ρ) (i6_3 : Int) (go : Int → Option ρ) : Option ρ :=
  (bif (decide (i6_3 < ((o0_7.n : Nat) : Int))) then ((bif (decide (0 ≤ i6_3) && decide ((Int.toNat i6_3) < o0_7.n)) then some () else none : Option Unit).bind fun _ =>
    ((F_spec_l5At fu (⟨c0_0, c0_1, c0_2⟩ : S_impl_Config) (o0_7.f (Int.toNat i6_3))).bind fun y62 => (bif (decide (y62 < 0)) then k0 else (go (IntKind.wrap .i64 (i6_3 + 1)))))) else
    k1)
def F_spec_l5Vip_B2 {ρ : Type} (fu : Nat) (o0_1 : Int) (o0_2 : Int) (o0_3 : Int) (o0_4 : (Sl Int)) (k0 : Option ρ) (k1 : Option ρ) (i7_0 : Int) (go : Int → Option ρ) : Option ρ :=
  (bif (decide (i7_0 < ((o0_4.n : Nat) : Int))) then ((bif (decide (0 ≤ i7_0) && decide ((Int.toNat i7_0) < o0_4.n)) then some () else none : Option Unit).bind fun _ => ((bif (decide (0 ≤ (IntKind.wrap .i64 (i7_0 - 1))) &&
    decide ((Int.toNat (IntKind.wrap .i64 (i7_0 - 1))) < o0_4.n)) then some () else none : Option Unit).bind fun _ => (bif (decide ((o0_4.f (Int.toNat i7_0)) ≤ (o0_4.f (Int.toNat (IntKind.wrap .i64 (i7_0 - 1)))))) then
    k0 else (go (IntKind.wrap .i64 (i7_0 + 1)))))) else k1)
def F_spec_l5Vip (fu : Nat) (c_0 : S_impl_Config) (at_1 : Int) : Option (Int) :=
  ((bif (decide (0 ≤ at_1) && decide ((Int.toNat at_1) < c_0.Vips.n)) then some () else none : Option Unit).bind fun _ => ((((F_spec_l2Address fu (c_0.Vips.f (Int.toNat at_1)).Address).bind fun y56 =>
    (bif (!y56) then (some true) else ((F_spec_l2Port fu (c_0.Vips.f (Int.toNat at_1)).Port).bind fun y57 => (bif (!y57) then (some true) else ((F_spec_l5Proto fu (c_0.Vips.f (Int.toNat at_1)).Proto).bind fun y58 =>
    (some (!y58))))))) : Option Bool).bind fun m59 => (bif m59 then (some 3) else (((bif (decide (at_1 > 0)) then ((bif (decide (0 ≤ (IntKind.wrap .i64 (at_1 - 1))) && decide ((Int.toNat (IntKind.wrap .i64 (at_1 - 1))) < c_0.Vips.n)) then
    some () else none : Option Unit).bind fun _ => ((F_spec_l5Behind fu (c_0.Vips.f (Int.toNat (IntKind.wrap .i64 (at_1 - 1)))) (c_0.Vips.f (Int.toNat at_1))).bind fun y60 => (some (!y60)))) else
    (some false)) : Option Bool).bind fun m61 => (bif m61 then (some 1) else (L (fun w0 go0 => F_spec_l5Vip_B0 fu c_0.Version c_0.Backends c_0.Vips ((c_0.Vips.f (Int.toNat at_1)).Address) ((c_0.Vips.f (Int.toNat at_1)).Port) ((c_0.Vips.f (Int.toNat at_1)).Proto) ((c_0.Vips.f (Int.toNat at_1)).Names) (some 4) (L (fun w2 go2 =>
    F_spec_l5Vip_B2 fu ((c_0.Vips.f (Int.toNat at_1)).Address) ((c_0.Vips.f (Int.toNat at_1)).Port) ((c_0.Vips.f (Int.toNat at_1)).Proto) ((c_0.Vips.f (Int.toNat at_1)).Names) (some 1) (some 0) w2 go2) fu (1 : Int)) w0 go0) fu (0 : Int)))))))
def pc_spec_l5Vip (fu : Nat) : Pc RT den := fun f xs => match f with | 87 => S_spec_l5At fu xs | 113 => S_spec_l2Address fu xs | 115 => S_spec_l5Proto fu xs | 143 => S_spec_l2Port fu xs | 144 => S_spec_l5Behind fu xs | _ => none
def msk_spec_l5Vip (b : Nat) : List Nat := match b with | 0 => [1, 2, 3, 4, 7, 8, 9, 10, 11, 12, 13, 14, 15, 16, 17, 18, 19, 20, 21, 22, 23, 24, 25, 26, 27, 28, 29, 30, 31, 32, 33, 34, 35, 36, 37, 38, 39, 40, 41, 42, 43, 44, 45, 46, 47, 48, 49, 50, 51, 52, 53, 54, 55, 56, 57, 58, 59, 60, 61, 62, 63, 64, 65, 66, 67, 68, 69, 70, 71, 72, 73, 74, 75, 76, 77, 78, 79] | 100000 => [0, 1, 2, 3, 6, 7, 8, 9, 10, 11, 12, 13, 14, 15, 16, 17, 18, 19, 20, 21, 22, 23, 24, 25, 26, 27, 28, 29, 30, 31, 32, 33, 34, 35, 36, 37, 38, 39, 40, 41, 42, 43, 44, 45, 46, 47, 48, 49, 50, 51, 52, 53, 54, 55, 56, 57, 58, 59, 60, 61, 62, 63, 64, 65, 66, 67, 68, 69, 70, 71, 72, 73, 74, 75, 76, 77, 78, 79] | 2 => [0, 1, 2, 3, 4, 6, 8, 9, 10, 11, 12, 13, 14, 15, 16, 17, 18, 19, 20, 21, 22, 23, 24, 25, 26, 27, 28, 29, 30, 31, 32, 33, 34, 35, 36, 37, 38, 39, 40, 41, 42, 43, 44, 45, 46, 47, 48, 49, 50, 51, 52, 53, 54, 55, 56, 57, 58, 59, 60, 61, 62, 63, 64, 65, 66, 67, 68, 69, 70, 71, 72, 73, 74, 75, 76, 77, 78, 79] | 100002 => [0, 1, 2, 3, 5, 6, 7, 8, 9, 10, 11, 12, 13, 14, 15, 16, 17, 18, 19, 20, 21, 22, 23, 24, 25, 26, 27, 28, 29, 30, 31, 32, 33, 34, 35, 36, 37, 38, 39, 40, 41, 42, 43, 44, 45, 46, 47, 48, 49, 50, 51, 52, 53, 54, 55, 56, 57, 58, 59, 60, 61, 62, 63, 64, 65, 66, 67, 68, 69, 70, 71, 72, 73, 74, 75, 76, 77, 78, 79] | 200002 => [30] | 200004 => [45] | _ => []
def ps_spec_l5Vip_0 : List (Pat RT) := [.rptr [(.int .i64), (.rs .impl_Backend), (.rs .impl_Vip)], .flat .dead, .flat .dead, .flat .dead, .flat .dead, .flat (.ref 0 0), .flat (.int .i64), .flat .dead, .flat .dead, .flat .dead, .flat .dead, .flat .dead, .flat .dead, .flat .dead, .flat .dead, .flat .dead, .flat .dead, .flat .dead, .flat .dead, .flat .dead, .flat .dead, .flat .dead, .flat .dead, .flat .dead, .flat .dead, .flat .dead, .flat .dead, .flat .dead, .flat .dead, .flat .dead, .flat .dead, .flat .dead, .flat .dead, .flat .dead, .flat .dead, .flat .dead, .flat .dead, .flat .dead, .flat .dead, .flat .dead, .flat .dead, .flat .dead, .flat .dead, .flat .dead, .flat .dead, .flat .dead, .flat .dead, .flat .dead, .flat .dead, .flat .dead, .flat .dead, .flat .dead, .flat .dead, .flat .dead, .flat .dead, .flat .dead, .flat .dead, .flat .dead, .flat .dead, .flat .dead, .flat .dead, .flat .dead, .flat .dead, .flat .dead, .flat .dead, .flat .dead, .flat .dead, .flat .dead, .flat .dead, .flat .dead, .flat .dead, .flat .dead, .flat .dead, .flat .dead, .flat .dead, .flat .dead, .flat .dead, .flat .dead, .flat .dead, .flat .dead]
def os_spec_l5Vip_0 : List (OP RT) := [.box [(.int .i64), (.int .i64), (.int .i64), (.rs .i64)]]
def conv_spec_l5Vip_0 (r : Raw den ps_spec_l5Vip_0 os_spec_l5Vip_0) : (Int × (Sl S_impl_Backend) × (Sl S_impl_Vip) × Int × Int × Int × (Sl Int)) × (Int) := ((r.1.1.1, r.1.1.2.1, r.1.1.2.2.1, r.2.1.1, r.2.1.2.1, r.2.1.2.2.1, r.2.1.2.2.2.1), r.1.2.2.2.2.2.2.1)
def back_spec_l5Vip_0 (c : Int × (Sl S_impl_Backend) × (Sl S_impl_Vip) × Int × Int × Int × (Sl Int)) (w : Int) : St RT den := ⟨[(.rptr [(.int .i64 c.1), (.rs c.2.1.z .impl_Backend c.2.1.n c.2.1.f), (.rs c.2.2.1.z .impl_Vip c.2.2.1.n c.2.2.1.f)]), .dead, .dead, .dead, .dead, (.ref 0 0), (.int .i64 w), .dead, .dead, .dead, .dead, .dead, .dead, .dead, .dead, .dead, .dead, .dead, .dead, .dead, .dead, .dead, .dead, .dead, .dead, .dead, .dead, .dead, .dead, .dead, .dead, .dead, .dead, .dead, .dead, .dead, .dead, .dead, .dead, .dead, .dead, .dead, .dead, .dead, .dead, .dead, .dead, .dead, .dead, .dead, .dead, .dead, .dead, .dead, .dead, .dead, .dead, .dead, .dead, .dead, .dead, .dead, .dead, .dead, .dead, .dead, .dead, .dead, .dead, .dead, .dead, .dead, .dead, .dead, .dead, .dead, .dead, .dead, .dead, .dead], [(.box [(.int .i64 c.2.2.2.1), (.int .i64 c.2.2.2.2.1), (.int .i64 c.2.2.2.2.2.1), (.rs c.2.2.2.2.2.2.z .i64 c.2.2.2.2.2.2.n c.2.2.2.2.2.2.f)])]⟩
def Bk_spec_l5Vip_0 {ρ : Type} (fu : Nat) (c : Int × (Sl S_impl_Backend) × (Sl S_impl_Vip) × Int × Int × Int × (Sl Int)) (k : Ex → St RT den → Option ρ) (w : Int) (go : (Int) → Option ρ) : Option ρ := F_spec_l5Vip_B0 fu c.1 c.2.1 c.2.2.1 c.2.2.2.1 c.2.2.2.2.1 c.2.2.2.2.2.1 c.2.2.2.2.2.2 (k .ret ⟨[.dead, .dead, .dead, .dead, (.int .i64 4), (.ref 0 0), .dead, .dead, .dead, .dead, .dead, .dead, .dead, .dead, .dead, .dead, .dead, .dead, .dead, .dead, .dead, .dead, .dead, .dead, .dead, .dead, .dead, .dead, .dead, .dead, .dead, .dead, .dead, .dead, .dead, .dead, .dead, .dead, .dead, .dead, .dead, .dead, .dead, .dead, .dead, .dead, .dead, .dead, .dead, .dead, .dead, .dead, .dead, .dead, .dead, .dead, .dead, .dead, .dead, .dead, .dead, .dead, .dead, .dead, .dead, .dead, .dead, .dead, .dead, .dead, .dead, .dead, .dead, .dead, .dead, .dead, .dead, .dead, .dead, .dead], [(.box [(.int .i64 c.2.2.2.1), (.int .i64 c.2.2.2.2.1), (.int .i64 c.2.2.2.2.2.1), (.rs c.2.2.2.2.2.2.z .i64 c.2.2.2.2.2.2.n c.2.2.2.2.2.2.f)])]⟩) (k (.exit 0) ⟨[.dead, .dead, .dead, .dead, .dead, (.ref 0 0), .dead, .dead, .dead, .dead, .dead, .dead, .dead, .dead, .dead, .dead, .dead, .dead, .dead, .dead, .dead, .dead, .dead, .dead, .dead, .dead, .dead, .dead, .dead, .dead, .dead, .dead, .dead, .dead, .dead, .dead, .dead, .dead, .dead, .dead, .dead, .dead, .dead, .dead, .dead, .dead, .dead, .dead, .dead, .dead, .dead, .dead, .dead, .dead, .dead, .dead, .dead, .dead, .dead, .dead, .dead, .dead, .dead, .dead, .dead, .dead, .dead, .dead, .dead, .dead, .dead, .dead, .dead, .dead, .dead, .dead, .dead, .dead, .dead, .dead], [(.box [(.int .i64 c.2.2.2.1), (.int .i64 c.2.2.2.2.1), (.int .i64 c.2.2.2.2.2.1), (.rs c.2.2.2.2.2.2.z .i64 c.2.2.2.2.2.2.n c.2.2.2.2.2.2.f)])]⟩) w go
def ps_spec_l5Vip_2 : List (Pat RT) := [.flat .dead, .flat .dead, .flat .dead, .flat .dead, .flat .dead, .flat (.ref 0 0), .flat .dead, .flat (.int .i64), .flat .dead, .flat .dead, .flat .dead, .flat .dead, .flat .dead, .flat .dead, .flat .dead, .flat .dead, .flat .dead, .flat .dead, .flat .dead, .flat .dead, .flat .dead, .flat .dead, .flat .dead, .flat .dead, .flat .dead, .flat .dead, .flat .dead, .flat .dead, .flat .dead, .flat .dead, .flat .dead, .flat .dead, .flat .dead, .flat .dead, .flat .dead, .flat .dead, .flat .dead, .flat .dead, .flat .dead, .flat .dead, .flat .dead, .flat .dead, .flat .dead, .flat .dead, .flat .dead, .flat .dead, .flat .dead, .flat .dead, .flat .dead, .flat .dead, .flat .dead, .flat .dead, .flat .dead, .flat .dead, .flat .dead, .flat .dead, .flat .dead, .flat .dead, .flat .dead, .flat .dead, .flat .dead, .flat .dead, .flat .dead, .flat .dead, .flat .dead, .flat .dead, .flat .dead, .flat .dead, .flat .dead, .flat .dead, .flat .dead, .flat .dead, .flat .dead, .flat .dead, .flat .dead, .flat .dead, .flat .dead, .flat .dead, .flat .dead, .flat .dead]
def os_spec_l5Vip_2 : List (OP RT) := [.box [(.int .i64), (.int .i64), (.int .i64), (.rs .i64)]]
def conv_spec_l5Vip_2 (r : Raw den ps_spec_l5Vip_2 os_spec_l5Vip_2) : (Int × Int × Int × (Sl Int)) × (Int) := ((r.2.1.1, r.2.1.2.1, r.2.1.2.2.1, r.2.1.2.2.2.1), r.1.2.2.2.2.2.2.2.1)
def back_spec_l5Vip_2 (c : Int × Int × Int × (Sl Int)) (w : Int) : St RT den := ⟨[.dead, .dead, .dead, .dead, .dead, (.ref 0 0), .dead, (.int .i64 w), .dead, .dead, .dead, .dead, .dead, .dead, .dead, .dead, .dead, .dead, .dead, .dead, .dead, .dead, .dead, .dead, .dead, .dead, .dead, .dead, .dead, .dead, .dead, .dead, .dead, .dead, .dead, .dead, .dead, .dead, .dead, .dead, .dead, .dead, .dead, .dead, .dead, .dead, .dead, .dead, .dead, .dead, .dead, .dead, .dead, .dead, .dead, .dead, .dead, .dead, .dead, .dead, .dead, .dead, .dead, .dead, .dead, .dead, .dead, .dead, .dead, .dead, .dead, .dead, .dead, .dead, .dead, .dead, .dead, .dead, .dead, .dead], [(.box [(.int .i64 c.1), (.int .i64 c.2.1), (.int .i64 c.2.2.1), (.rs c.2.2.2.z .i64 c.2.2.2.n c.2.2.2.f)])]⟩
def Bk_spec_l5Vip_2 {ρ : Type} (fu : Nat) (c : Int × Int × Int × (Sl Int)) (k : Ex → St RT den → Option ρ) (w : Int) (go : (Int) → Option ρ) : Option ρ := F_spec_l5Vip_B2 fu c.1 c.2.1 c.2.2.1 c.2.2.2 (k .ret ⟨[.dead, .dead, .dead, .dead, (.int .i64 1), .dead, .dead, .dead, .dead, .dead, .dead, .dead, .dead, .dead, .dead, .dead, .dead, .dead, .dead, .dead, .dead, .dead, .dead, .dead, .dead, .dead, .dead, .dead, .dead, .dead, .dead, .dead, .dead, .dead, .dead, .dead, .dead, .dead, .dead, .dead, .dead, .dead, .dead, .dead, .dead, .dead, .dead, .dead, .dead, .dead, .dead, .dead, .dead, .dead, .dead, .dead, .dead, .dead, .dead, .dead, .dead, .dead, .dead, .dead, .dead, .dead, .dead, .dead, .dead, .dead, .dead, .dead, .dead, .dead, .dead, .dead, .dead, .dead, .dead, .dead], [(.box [(.int .i64 c.1), (.int .i64 c.2.1), (.int .i64 c.2.2.1), (.rs c.2.2.2.z .i64 c.2.2.2.n c.2.2.2.f)])]⟩) (k (.exit 2) ⟨[.dead, .dead, .dead, .dead, .dead, .dead, .dead, .dead, .dead, .dead, .dead, .dead, .dead, .dead, .dead, .dead, .dead, .dead, .dead, .dead, .dead, .dead, .dead, .dead, .dead, .dead, .dead, .dead, .dead, .dead, .dead, .dead, .dead, .dead, .dead, .dead, .dead, .dead, .dead, .dead, .dead, .dead, .dead, .dead, .dead, .dead, .dead, .dead, .dead, .dead, .dead, .dead, .dead, .dead, .dead, .dead, .dead, .dead, .dead, .dead, .dead, .dead, .dead, .dead, .dead, .dead, .dead, .dead, .dead, .dead, .dead, .dead, .dead, .dead, .dead, .dead, .dead, .dead, .dead, .dead], [(.box [(.int .i64 c.1), (.int .i64 c.2.1), (.int .i64 c.2.2.1), (.rs c.2.2.2.z .i64 c.2.2.2.n c.2.2.2.f)])]⟩) w go
def lp_spec_l5Vip (fu : Nat) : Lp RT den (Int) := fun b s k => match b with | 0 => handle ps_spec_l5Vip_0 os_spec_l5Vip_0 conv_spec_l5Vip_0 (Bk_spec_l5Vip_0 fu) fu s k | 2 => handle ps_spec_l5Vip_2 os_spec_l5Vip_2 conv_spec_l5Vip_2 (Bk_spec_l5Vip_2 fu) fu s k | _ => none
theorem ev_spec_l5Vip (fu : Nat) (c_0 : S_impl_Config) (at_1 : Int) : evFun E (pc_spec_l5Vip fu) msk_spec_l5Vip (lp_spec_l5Vip fu) out_i64 110 [(.rptr [(.int .i64 c_0.Version), (.rs c_0.Backends.z .impl_Backend c_0.Backends.n c_0.Backends.f), (.rs c_0.Vips.z .impl_Vip c_0.Vips.n c_0.Vips.f)]), (.int .i64 at_1)] = F_spec_l5Vip fu c_0 at_1 := by kernel_rfl
noncomputable def body_spec_l5Vip : Code := Try.f110.body.getD .skip
noncomputable def lc_spec_l5Vip_0 : Code := ((loops 0 body_spec_l5Vip).getD 0 (0, .skip)).2
theorem round_spec_l5Vip_0 (fu : Nat) (it : St RT den → Option (Int)) (k : Ex → St RT den → Option (Int)) c w : evCode E (pc_spec_l5Vip fu) msk_spec_l5Vip (lp_spec_l5Vip fu) 0 lc_spec_l5Vip_0 (back_spec_l5Vip_0 c w) (after (msk_spec_l5Vip 0) (msk_spec_l5Vip 100000) 1 it k) = Bk_spec_l5Vip_0 fu c k w (fun w => it (back_spec_l5Vip_0 c w)) := by kernel_rfl
theorem lpok_spec_l5Vip_0 (fu : Nat) : ∀ s k r, lp_spec_l5Vip fu 0 s k = some r → ∃ fuel, iter (msk_spec_l5Vip 0) (msk_spec_l5Vip 100000) s.objs.length (evCode E (pc_spec_l5Vip fu) msk_spec_l5Vip (lp_spec_l5Vip fu) 0 lc_spec_l5Vip_0) fuel s k = some r :=
  handle_ok (ps := ps_spec_l5Vip_0) (os := os_spec_l5Vip_0) (conv := conv_spec_l5Vip_0) (B := Bk_spec_l5Vip_0 fu) (fu := fu) back_spec_l5Vip_0 (fun raw => by kernel_rfl) 1 (fun c w => by kernel_rfl) (round_spec_l5Vip_0 fu)
noncomputable def lc_spec_l5Vip_2 : Code := ((loops 0 body_spec_l5Vip).getD 1 (0, .skip)).2
theorem round_spec_l5Vip_2 (fu : Nat) (it : St RT den → Option (Int)) (k : Ex → St RT den → Option (Int)) c w : evCode E (pc_spec_l5Vip fu) msk_spec_l5Vip (lp_spec_l5Vip fu) 2 lc_spec_l5Vip_2 (back_spec_l5Vip_2 c w) (after (msk_spec_l5Vip 2) (msk_spec_l5Vip 100002) 1 it k) = Bk_spec_l5Vip_2 fu c k w (fun w => it (back_spec_l5Vip_2 c w)) := by kernel_rfl
theorem lpok_spec_l5Vip_2 (fu : Nat) : ∀ s k r, lp_spec_l5Vip fu 2 s k = some r → ∃ fuel, iter (msk_spec_l5Vip 2) (msk_spec_l5Vip 100002) s.objs.length (evCode E (pc_spec_l5Vip fu) msk_spec_l5Vip (lp_spec_l5Vip fu) 2 lc_spec_l5Vip_2) fuel s k = some r :=
  handle_ok (ps := ps_spec_l5Vip_2) (os := os_spec_l5Vip_2) (conv := conv_spec_l5Vip_2) (B := Bk_spec_l5Vip_2 fu) (fu := fu) back_spec_l5Vip_2 (fun raw => by kernel_rfl) 1 (fun c w => by kernel_rfl) (round_spec_l5Vip_2 fu)
theorem lpok_spec_l5Vip (fu : Nat) : LpOk E (pc_spec_l5Vip fu) msk_spec_l5Vip (lp_spec_l5Vip fu) (loops 0 body_spec_l5Vip) := loop_all 2 (by kernel_rfl) fun i hi => match i, hi with
  | 0, _ => by
    have h : (loops 0 body_spec_l5Vip).getD 0 (0, .skip) = (0, lc_spec_l5Vip_0) := by kernel_rfl
    rw [h]; exact lpok_spec_l5Vip_0 fu
  | 1, _ => by
    have h : (loops 0 body_spec_l5Vip).getD 1 (0, .skip) = (2, lc_spec_l5Vip_2) := by kernel_rfl
    rw [h]; exact lpok_spec_l5Vip_2 fu
  | i + 2, hi => absurd hi (by omega)
def S_spec_l5Vip (fu : Nat) (xs : List (D RT den)) : Option (Out RT den) := match xs with | [.rptr (.int .i64 a0_1 :: .rs za0_2 .impl_Backend na0_2 fa0_2 :: .rs za0_3 .impl_Vip na0_3 fa0_3 :: ra0), .int .i64 a1_0] => some ⟨Int, F_spec_l5Vip fu (⟨a0_1, (⟨za0_2, na0_2, fa0_2⟩ : (Sl S_impl_Backend)), (⟨za0_3, na0_3, fa0_3⟩ : (Sl S_impl_Vip))⟩ : S_impl_Config) a1_0, enc_i64, fun _ => true⟩ | _ => none
theorem hpc_spec_l5Vip (fu : Nat) : ∀ f xs o, pc_spec_l5Vip fu f xs = some o → ∀ y, o.x = some y → Good E Try.prog f xs (o.g y) := by
  intro f xs o h
  unfold pc_spec_l5Vip at h
  split at h
  · exact good_spec_l5At fu xs o h
  · exact good_spec_l2Address fu xs o h
  · exact good_spec_l5Proto fu xs o h
  · exact good_spec_l2Port fu xs o h
  · exact good_spec_l5Behind fu xs o h
  · cases h
theorem goodv_spec_l5Vip (fu : Nat) (c_0 : S_impl_Config) (at_1 : Int) (y : Int) (hy : F_spec_l5Vip fu c_0 at_1 = some y) : Good E Try.prog 110 [(.rptr [(.int .i64 c_0.Version), (.rs c_0.Backends.z .impl_Backend c_0.Backends.n c_0.Backends.f), (.rs c_0.Vips.z .impl_Vip c_0.Vips.n c_0.Vips.f)]), (.int .i64 at_1)] (enc_i64 y) :=
  fun_good E_ok (pc_good (hpc_spec_l5Vip fu)) (fn := Try.f110) (c := body_spec_l5Vip) (out := out_i64) (y := y) (by kernel_rfl) (by kernel_rfl) (by kernel_rfl) (lpok_spec_l5Vip fu) (fun d hd => out_i64_enc d _ hd) ((ev_spec_l5Vip fu c_0 at_1).trans hy)
theorem good_spec_l5Vip (fu : Nat) : ∀ xs o, S_spec_l5Vip fu xs = some o → ∀ y, o.x = some y → Good E Try.prog 110 xs (o.g y) := by
  intro xs o h y hy
  unfold S_spec_l5Vip at h
  split at h
  · rename_i a0_1 za0_2 na0_2 fa0_2 za0_3 na0_3 fa0_3 ra0 a1_0
    cases h
    exact (goodv_spec_l5Vip fu (⟨a0_1, (⟨za0_2, na0_2, fa0_2⟩ : (Sl S_impl_Backend)), (⟨za0_3, na0_3, fa0_3⟩ : (Sl S_impl_Vip))⟩ : S_impl_Config) a1_0 y hy).sub ⟨Sub.of_eq ra0 rfl, .refl _, trivial⟩
  · cases h

/-! spec.l5Fault -/
def F_spec_l5Fault_B0 {ρ : Type} (fu : Nat) (c0_0 : Int) (c0_1 : (Sl S_impl_Backend)) (c0_2 : (Sl S_impl_Vip)) (k0 : Option ρ) (k1 : Option ρ) (k2 : Option ρ) (i3_3 : Int) (go : Int → Option ρ) : Option ρ :=
  (bif (decide (i3_3 < ((c0_1.n : Nat) : Int))) then ((bif (decide (0 ≤ i3_3) && decide ((Int.toNat i3_3) < c0_1.n)) then some () else none : Option Unit).bind fun _ =>
    ((F_spec_l5Backend fu (c0_1.f (Int.toNat i3_3))).bind fun y43 => (bif (!y43) then k0 else (((bif (decide (i3_3 > 0)) then ((bif (decide (0 ≤ i3_3) && decide ((Int.toNat i3_3) < c0_1.n)) then
    some () else none : Option Unit).bind fun _ => ((bif (decide (0 ≤ (IntKind.wrap .i64 (i3_3 - 1))) && decide ((Int.toNat (IntKind.wrap .i64 (i3_3 - 1))) < c0_1.n)) then some () else
    none : Option Unit).bind fun _ => (some (decide ((c0_1.f (Int.toNat i3_3)).Name ≤ (c0_1.f (Int.toNat (IntKind.wrap .i64 (i3_3 - 1)))).Name))))) else (some false)) : Option Bool).bind fun m44 =>
    (bif m44 then k1 else (go (IntKind.wrap .i64 (i3_3 + 1)))))))) else k2)
def F_spec_l5Fault_B2 {ρ : Type} (fu : Nat) (c0_0 : Int) (c0_1 : (Sl S_impl_Backend)) (c0_2 : (Sl S_impl_Vip)) (k0 : Int → Option ρ) (k1 : Option ρ) (i4_3 : Int) (go : Int → Option ρ) : Option ρ :=
  (bif (decide (i4_3 < ((c0_2.n : Nat) : Int))) then ((F_spec_l5Vip fu (⟨c0_0, c0_1, c0_2⟩ : S_impl_Config) i4_3).bind fun y45 => (bif (y45 != 0) then (k0 y45) else (go (IntKind.wrap .i64 (i4_3 + 1))))) else
    k1)
def F_spec_l5Fault (fu : Nat) (c_0 : S_impl_Config) : Option (Int) :=
  ((F_spec_l5Version fu c_0.Version).bind fun y41 => (bif (!y41) then (some 3) else (((bif (decide (((c_0.Backends.n : Nat) : Int) > 8)) then (some true) else (some (decide (((c_0.Vips.n : Nat) : Int) > 4)))) : Option Bool).bind fun m42 =>
    (bif m42 then (some 2) else (L (fun w0 go0 => F_spec_l5Fault_B0 fu c_0.Version c_0.Backends c_0.Vips (some 3) (some 1) (L (fun w2 go2 => F_spec_l5Fault_B2 fu c_0.Version c_0.Backends c_0.Vips (fun z46 =>
    (some z46)) (some 0) w2 go2) fu (0 : Int)) w0 go0) fu (0 : Int))))))
def pc_spec_l5Fault (fu : Nat) : Pc RT den := fun f xs => match f with | 54 => S_spec_l5Version fu xs | 109 => S_spec_l5Backend fu xs | 110 => S_spec_l5Vip fu xs | _ => none
def msk_spec_l5Fault (b : Nat) : List Nat := match b with | 0 => [1, 2, 4, 5, 6, 7, 8, 9, 10, 11, 12, 13, 14, 15, 16, 17, 18, 19, 20, 21, 22, 23, 24, 25, 26, 27, 28, 29, 30, 31, 32, 33, 34, 35, 36, 37, 38, 39, 40, 41, 42, 43, 44, 45, 46, 47, 48, 49, 50, 51, 52, 53, 54, 55, 56, 57, 58, 59, 60, 61, 62, 63, 64, 65, 66, 67, 68, 69, 70, 71, 72, 73, 74, 75, 76, 77, 78, 79, 80] | 100000 => [1, 3, 4, 5, 6, 7, 8, 9, 10, 11, 12, 13, 14, 15, 16, 17, 18, 19, 20, 21, 22, 23, 24, 25, 26, 27, 28, 29, 30, 31, 32, 33, 34, 35, 36, 37, 38, 39, 40, 41, 42, 43, 44, 45, 46, 47, 48, 49, 50, 51, 52, 53, 54, 55, 56, 57, 58, 59, 60, 61, 62, 63, 64, 65, 66, 67, 68, 69, 70, 71, 72, 73, 74, 75, 76, 77, 78, 79, 80] | 2 => [1, 2, 3, 5, 6, 7, 8, 9, 10, 11, 12, 13, 14, 15, 16, 17, 18, 19, 20, 21, 22, 23, 24, 25, 26, 27, 28, 29, 30, 31, 32, 33, 34, 35, 36, 37, 38, 39, 40, 41, 42, 43, 44, 45, 46, 47, 48, 49, 50, 51, 52, 53, 54, 55, 56, 57, 58, 59, 60, 61, 62, 63, 64, 65, 66, 67, 68, 69, 70, 71, 72, 73, 74, 75, 76, 77, 78, 79, 80] | 100002 => [0, 1, 3, 4, 5, 6, 7, 8, 9, 10, 11, 12, 13, 14, 15, 16, 17, 18, 19, 20, 21, 22, 23, 24, 25, 26, 27, 28, 29, 30, 31, 32, 33, 34, 35, 36, 37, 38, 39, 40, 41, 42, 43, 44, 45, 46, 47, 48, 49, 50, 51, 52, 53, 54, 55, 56, 57, 58, 59, 60, 61, 62, 63, 64, 65, 66, 67, 68, 69, 70, 71, 72, 73, 74, 75, 76, 77, 78, 79, 80] | 200003 => [25] | 200010 => [65] | _ => []
def ps_spec_l5Fault_0 : List (Pat RT) := [.rptr [(.int .i64), (.rs .impl_Backend), (.rs .impl_Vip)], .flat .dead, .flat .dead, .flat (.int .i64), .flat .dead, .flat .dead, .flat .dead, .flat .dead, .flat .dead, .flat .dead, .flat .dead, .flat .dead, .flat .dead, .flat .dead, .flat .dead, .flat .dead, .flat .dead, .flat .dead, .flat .dead, .flat .dead, .flat .dead, .flat .dead, .flat .dead, .flat .dead, .flat .dead, .flat .dead, .flat .dead, .flat .dead, .flat .dead, .flat .dead, .flat .dead, .flat .dead, .flat .dead, .flat .dead, .flat .dead, .flat .dead, .flat .dead, .flat .dead, .flat .dead, .flat .dead, .flat .dead, .flat .dead, .flat .dead, .flat .dead, .flat .dead, .flat .dead, .flat .dead, .flat .dead, .flat .dead, .flat .dead, .flat .dead, .flat .dead, .flat .dead, .flat .dead, .flat .dead, .flat .dead, .flat .dead, .flat .dead, .flat .dead, .flat .dead, .flat .dead, .flat .dead, .flat .dead, .flat .dead, .flat .dead, .flat .dead, .flat .dead, .flat .dead, .flat .dead, .flat .dead, .flat .dead, .flat .dead, .flat .dead, .flat .dead, .flat .dead, .flat .dead, .flat .dead, .flat .dead, .flat .dead, .flat .dead, .flat .dead]
def os_spec_l5Fault_0 : List (OP RT) := []
def conv_spec_l5Fault_0 (r : Raw den ps_spec_l5Fault_0 os_spec_l5Fault_0) : (Int × (Sl S_impl_Backend) × (Sl S_impl_Vip)) × (Int) := ((r.1.1.1, r.1.1.2.1, r.1.1.2.2.1), r.1.2.2.2.1)
def back_spec_l5Fault_0 (c : Int × (Sl S_impl_Backend) × (Sl S_impl_Vip)) (w : Int) : St RT den := ⟨[(.rptr [(.int .i64 c.1), (.rs c.2.1.z .impl_Backend c.2.1.n c.2.1.f), (.rs c.2.2.z .impl_Vip c.2.2.n c.2.2.f)]), .dead, .dead, (.int .i64 w), .dead, .dead, .dead, .dead, .dead, .dead, .dead, .dead, .dead, .dead, .dead, .dead, .dead, .dead, .dead, .dead, .dead, .dead, .dead, .dead, .dead, .dead, .dead, .dead, .dead, .dead, .dead, .dead, .dead, .dead, .dead, .dead, .dead, .dead, .dead, .dead, .dead, .dead, .dead, .dead, .dead, .dead, .dead, .dead, .dead, .dead, .dead, .dead, .dead, .dead, .dead, .dead, .dead, .dead, .dead, .dead, .dead, .dead, .dead, .dead, .dead, .dead, .dead, .dead, .dead, .dead, .dead, .dead, .dead, .dead, .dead, .dead, .dead, .dead, .dead, .dead, .dead], []⟩
def Bk_spec_l5Fault_0 {ρ : Type} (fu : Nat) (c : Int × (Sl S_impl_Backend) × (Sl S_impl_Vip)) (k : Ex → St RT den → Option ρ) (w : Int) (go : (Int) → Option ρ) : Option ρ := F_spec_l5Fault_B0 fu c.1 c.2.1 c.2.2 (k .ret ⟨[(.rptr [(.int .i64 c.1), (.rs c.2.1.z .impl_Backend c.2.1.n c.2.1.f), (.rs c.2.2.z .impl_Vip c.2.2.n c.2.2.f)]), .dead, (.int .i64 3), .dead, .dead, .dead, .dead, .dead, .dead, .dead, .dead, .dead, .dead, .dead, .dead, .dead, .dead, .dead, .dead, .dead, .dead, .dead, .dead, .dead, .dead, .dead, .dead, .dead, .dead, .dead, .dead, .dead, .dead, .dead, .dead, .dead, .dead, .dead, .dead, .dead, .dead, .dead, .dead, .dead, .dead, .dead, .dead, .dead, .dead, .dead, .dead, .dead, .dead, .dead, .dead, .dead, .dead, .dead, .dead, .dead, .dead, .dead, .dead, .dead, .dead, .dead, .dead, .dead, .dead, .dead, .dead, .dead, .dead, .dead, .dead, .dead, .dead, .dead, .dead, .dead, .dead], []⟩) (k .ret ⟨[(.rptr [(.int .i64 c.1), (.rs c.2.1.z .impl_Backend c.2.1.n c.2.1.f), (.rs c.2.2.z .impl_Vip c.2.2.n c.2.2.f)]), .dead, (.int .i64 1), .dead, .dead, .dead, .dead, .dead, .dead, .dead, .dead, .dead, .dead, .dead, .dead, .dead, .dead, .dead, .dead, .dead, .dead, .dead, .dead, .dead, .dead, .dead, .dead, .dead, .dead, .dead, .dead, .dead, .dead, .dead, .dead, .dead, .dead, .dead, .dead, .dead, .dead, .dead, .dead, .dead, .dead, .dead, .dead, .dead, .dead, .dead, .dead, .dead, .dead, .dead, .dead, .dead, .dead, .dead, .dead, .dead, .dead, .dead, .dead, .dead, .dead, .dead, .dead, .dead, .dead, .dead, .dead, .dead, .dead, .dead, .dead, .dead, .dead, .dead, .dead, .dead, .dead], []⟩) (k (.exit 0) ⟨[(.rptr [(.int .i64 c.1), (.rs c.2.1.z .impl_Backend c.2.1.n c.2.1.f), (.rs c.2.2.z .impl_Vip c.2.2.n c.2.2.f)]), .dead, .dead, .dead, .dead, .dead, .dead, .dead, .dead, .dead, .dead, .dead, .dead, .dead, .dead, .dead, .dead, .dead, .dead, .dead, .dead, .dead, .dead, .dead, .dead, .dead, .dead, .dead, .dead, .dead, .dead, .dead, .dead, .dead, .dead, .dead, .dead, .dead, .dead, .dead, .dead, .dead, .dead, .dead, .dead, .dead, .dead, .dead, .dead, .dead, .dead, .dead, .dead, .dead, .dead, .dead, .dead, .dead, .dead, .dead, .dead, .dead, .dead, .dead, .dead, .dead, .dead, .dead, .dead, .dead, .dead, .dead, .dead, .dead, .dead, .dead, .dead, .dead, .dead, .dead, .dead], []⟩) w go
def ps_spec_l5Fault_2 : List (Pat RT) := [.rptr [(.int .i64), (.rs .impl_Backend), (.rs .impl_Vip)], .flat .dead, .flat .dead, .flat .dead, .flat (.int .i64), .flat .dead, .flat .dead, .flat .dead, .flat .dead, .flat .dead, .flat .dead, .flat .dead, .flat .dead, .flat .dead, .flat .dead, .flat .dead, .flat .dead, .flat .dead, .flat .dead, .flat .dead, .flat .dead, .flat .dead, .flat .dead, .flat .dead, .flat .dead, .flat .dead, .flat .dead, .flat .dead, .flat .dead, .flat .dead, .flat .dead, .flat .dead, .flat .dead, .flat .dead, .flat .dead, .flat .dead, .flat .dead, .flat .dead, .flat .dead, .flat .dead, .flat .dead, .flat .dead, .flat .dead, .flat .dead, .flat .dead, .flat .dead, .flat .dead, .flat .dead, .flat .dead, .flat .dead, .flat .dead, .flat .dead, .flat .dead, .flat .dead, .flat .dead, .flat .dead, .flat .dead, .flat .dead, .flat .dead, .flat .dead, .flat .dead, .flat .dead, .flat .dead, .flat .dead, .flat .dead, .flat .dead, .flat .dead, .flat .dead, .flat .dead, .flat .dead, .flat .dead, .flat .dead, .flat .dead, .flat .dead, .flat .dead, .flat .dead, .flat .dead, .flat .dead, .flat .dead, .flat .dead, .flat .dead]
def os_spec_l5Fault_2 : List (OP RT) := []
def conv_spec_l5Fault_2 (r : Raw den ps_spec_l5Fault_2 os_spec_l5Fault_2) : (Int × (Sl S_impl_Backend) × (Sl S_impl_Vip)) × (Int) := ((r.1.1.1, r.1.1.2.1, r.1.1.2.2.1), r.1.2.2.2.2.1)
def back_spec_l5Fault_2 (c : Int × (Sl S_impl_Backend) × (Sl S_impl_Vip)) (w : Int) : St RT den := ⟨[(.rptr [(.int .i64 c.1), (.rs c.2.1.z .impl_Backend c.2.1.n c.2.1.f), (.rs c.2.2.z .impl_Vip c.2.2.n c.2.2.f)]), .dead, .dead, .dead, (.int .i64 w), .dead, .dead, .dead, .dead, .dead, .dead, .dead, .dead, .dead, .dead, .dead, .dead, .dead, .dead, .dead, .dead, .dead, .dead, .dead, .dead, .dead, .dead, .dead, .dead, .dead, .dead, .dead, .dead, .dead, .dead, .dead, .dead, .dead, .dead, .dead, .dead, .dead, .dead, .dead, .dead, .dead, .dead, .dead, .dead, .dead, .dead, .dead, .dead, .dead, .dead, .dead, .dead, .dead, .dead, .dead, .dead, .dead, .dead, .dead, .dead, .dead, .dead, .dead, .dead, .dead, .dead, .dead, .dead, .dead, .dead, .dead, .dead, .dead, .dead, .dead, .dead], []⟩
def Bk_spec_l5Fault_2 {ρ : Type} (fu : Nat) (c : Int × (Sl S_impl_Backend) × (Sl S_impl_Vip)) (k : Ex → St RT den → Option ρ) (w : Int) (go : (Int) → Option ρ) : Option ρ := F_spec_l5Fault_B2 fu c.1 c.2.1 c.2.2 (fun a0 => k .ret ⟨[.dead, .dead, (.int .i64 a0), .dead, .dead, .dead, .dead, .dead, .dead, .dead, .dead, .dead, .dead, .dead, .dead, .dead, .dead, .dead, .dead, .dead, .dead, .dead, .dead, .dead, .dead, .dead, .dead, .dead, .dead, .dead, .dead, .dead, .dead, .dead, .dead, .dead, .dead, .dead, .dead, .dead, .dead, .dead, .dead, .dead, .dead, .dead, .dead, .dead, .dead, .dead, .dead, .dead, .dead, .dead, .dead, .dead, .dead, .dead, .dead, .dead, .dead, .dead, .dead, .dead, .dead, .dead, .dead, .dead, .dead, .dead, .dead, .dead, .dead, .dead, .dead, .dead, .dead, .dead, .dead, .dead, .dead], []⟩) (k (.exit 2) ⟨[.dead, .dead, .dead, .dead, .dead, .dead, .dead, .dead, .dead, .dead, .dead, .dead, .dead, .dead, .dead, .dead, .dead, .dead, .dead, .dead, .dead, .dead, .dead, .dead, .dead, .dead, .dead, .dead, .dead, .dead, .dead, .dead, .dead, .dead, .dead, .dead, .dead, .dead, .dead, .dead, .dead, .dead, .dead, .dead, .dead, .dead, .dead, .dead, .dead, .dead, .dead, .dead, .dead, .dead, .dead, .dead, .dead, .dead, .dead, .dead, .dead, .dead, .dead, .dead, .dead, .dead, .dead, .dead, .dead, .dead, .dead, .dead, .dead, .dead, .dead, .dead, .dead, .dead, .dead, .dead, .dead], []⟩) w go
def lp_spec_l5Fault (fu : Nat) : Lp RT den (Int) := fun b s k => match b with | 0 => handle ps_spec_l5Fault_0 os_spec_l5Fault_0 conv_spec_l5Fault_0 (Bk_spec_l5Fault_0 fu) fu s k | 2 => handle ps_spec_l5Fault_2 os_spec_l5Fault_2 conv_spec_l5Fault_2 (Bk_spec_l5Fault_2 fu) fu s k | _ => none
theorem ev_spec_l5Fault (fu : Nat) (c_0 : S_impl_Config) : evFun E (pc_spec_l5Fault fu) msk_spec_l5Fault (lp_spec_l5Fault fu) out_i64 55 [(.rptr [(.int .i64 c_0.Version), (.rs c_0.Backends.z .impl_Backend c_0.Backends.n c_0.Backends.f), (.rs c_0.Vips.z .impl_Vip c_0.Vips.n c_0.Vips.f)])] = F_spec_l5Fault fu c_0 := by kernel_rfl
noncomputable def body_spec_l5Fault : Code := Try.f55.body.getD .skip
noncomputable def lc_spec_l5Fault_0 : Code := ((loops 0 body_spec_l5Fault).getD 0 (0, .skip)).2
theorem round_spec_l5Fault_0 (fu : Nat) (it : St RT den → Option (Int)) (k : Ex → St RT den → Option (Int)) c w : evCode E (pc_spec_l5Fault fu) msk_spec_l5Fault (lp_spec_l5Fault fu) 0 lc_spec_l5Fault_0 (back_spec_l5Fault_0 c w) (after (msk_spec_l5Fault 0) (msk_spec_l5Fault 100000) 0 it k) = Bk_spec_l5Fault_0 fu c k w (fun w => it (back_spec_l5Fault_0 c w)) := by kernel_rfl
theorem lpok_spec_l5Fault_0 (fu : Nat) : ∀ s k r, lp_spec_l5Fault fu 0 s k = some r → ∃ fuel, iter (msk_spec_l5Fault 0) (msk_spec_l5Fault 100000) s.objs.length (evCode E (pc_spec_l5Fault fu) msk_spec_l5Fault (lp_spec_l5Fault fu) 0 lc_spec_l5Fault_0) fuel s k = some r :=
  handle_ok (ps := ps_spec_l5Fault_0) (os := os_spec_l5Fault_0) (conv := conv_spec_l5Fault_0) (B := Bk_spec_l5Fault_0 fu) (fu := fu) back_spec_l5Fault_0 (fun raw => by kernel_rfl) 0 (fun c w => by kernel_rfl) (round_spec_l5Fault_0 fu)
noncomputable def lc_spec_l5Fault_2 : Code := ((loops 0 body_spec_l5Fault).getD 1 (0, .skip)).2
theorem round_spec_l5Fault_2 (fu : Nat) (it : St RT den → Option (Int)) (k : Ex → St RT den → Option (Int)) c w : evCode E (pc_spec_l5Fault fu) msk_spec_l5Fault (lp_spec_l5Fault fu) 2 lc_spec_l5Fault_2 (back_spec_l5Fault_2 c w) (after (msk_spec_l5Fault 2) (msk_spec_l5Fault 100002) 0 it k) = Bk_spec_l5Fault_2 fu c k w (fun w => it (back_spec_l5Fault_2 c w)) := by kernel_rfl
theorem lpok_spec_l5Fault_2 (fu : Nat) : ∀ s k r, lp_spec_l5Fault fu 2 s k = some r → ∃ fuel, iter (msk_spec_l5Fault 2) (msk_spec_l5Fault 100002) s.objs.length (evCode E (pc_spec_l5Fault fu) msk_spec_l5Fault (lp_spec_l5Fault fu) 2 lc_spec_l5Fault_2) fuel s k = some r :=
  handle_ok (ps := ps_spec_l5Fault_2) (os := os_spec_l5Fault_2) (conv := conv_spec_l5Fault_2) (B := Bk_spec_l5Fault_2 fu) (fu := fu) back_spec_l5Fault_2 (fun raw => by kernel_rfl) 0 (fun c w => by kernel_rfl) (round_spec_l5Fault_2 fu)
theorem lpok_spec_l5Fault (fu : Nat) : LpOk E (pc_spec_l5Fault fu) msk_spec_l5Fault (lp_spec_l5Fault fu) (loops 0 body_spec_l5Fault) := loop_all 2 (by kernel_rfl) fun i hi => match i, hi with
  | 0, _ => by
    have h : (loops 0 body_spec_l5Fault).getD 0 (0, .skip) = (0, lc_spec_l5Fault_0) := by kernel_rfl
    rw [h]; exact lpok_spec_l5Fault_0 fu
  | 1, _ => by
    have h : (loops 0 body_spec_l5Fault).getD 1 (0, .skip) = (2, lc_spec_l5Fault_2) := by kernel_rfl
    rw [h]; exact lpok_spec_l5Fault_2 fu
  | i + 2, hi => absurd hi (by omega)
def S_spec_l5Fault (fu : Nat) (xs : List (D RT den)) : Option (Out RT den) := match xs with | [.rptr (.int .i64 a0_1 :: .rs za0_2 .impl_Backend na0_2 fa0_2 :: .rs za0_3 .impl_Vip na0_3 fa0_3 :: ra0)] => some ⟨Int, F_spec_l5Fault fu (⟨a0_1, (⟨za0_2, na0_2, fa0_2⟩ : (Sl S_impl_Backend)), (⟨za0_3, na0_3, fa0_3⟩ : (Sl S_impl_Vip))⟩ : S_impl_Config), enc_i64, fun _ => true⟩ | _ => none
theorem hpc_spec_l5Fault (fu : Nat) : ∀ f xs o, pc_spec_l5Fault fu f xs = some o → ∀ y, o.x = some y → Good E Try.prog f xs (o.g y) := by
  intro f xs o h
  unfold pc_spec_l5Fault at h
  split at h
  · exact good_spec_l5Version fu xs o h
  · exact good_spec_l5Backend fu xs o h
  · exact good_spec_l5Vip fu xs o h
  · cases h
theorem goodv_spec_l5Fault (fu : Nat) (c_0 : S_impl_Config) (y : Int) (hy : F_spec_l5Fault fu c_0 = some y) : Good E Try.prog 55 [(.rptr [(.int .i64 c_0.Version), (.rs c_0.Backends.z .impl_Backend c_0.Backends.n c_0.Backends.f), (.rs c_0.Vips.z .impl_Vip c_0.Vips.n c_0.Vips.f)])] (enc_i64 y) :=
  fun_good E_ok (pc_good (hpc_spec_l5Fault fu)) (fn := Try.f55) (c := body_spec_l5Fault) (out := out_i64) (y := y) (by kernel_rfl) (by kernel_rfl) (by kernel_rfl) (lpok_spec_l5Fault fu) (fun d hd => out_i64_enc d _ hd) ((ev_spec_l5Fault fu c_0).trans hy)
theorem good_spec_l5Fault (fu : Nat) : ∀ xs o, S_spec_l5Fault fu xs = some o → ∀ y, o.x = some y → Good E Try.prog 55 xs (o.g y) := by
  intro xs o h y hy
  unfold S_spec_l5Fault at h
  split at h
  · rename_i a0_1 za0_2 na0_2 fa0_2 za0_3 na0_3 fa0_3 ra0
    cases h
    exact (goodv_spec_l5Fault fu (⟨a0_1, (⟨za0_2, na0_2, fa0_2⟩ : (Sl S_impl_Backend)), (⟨za0_3, na0_3, fa0_3⟩ : (Sl S_impl_Vip))⟩ : S_impl_Config) y hy).sub ⟨Sub.of_eq ra0 rfl, trivial⟩
  · cases h

/-! spec.l11Fault -/
def F_spec_l11Fault_B0 {ρ : Type} (fu : Nat) (m0_0 : Int) (m0_1 : (Sl S_impl_Backend)) (m0_2 : (Sl S_impl_Vip)) (m0_3 : (Sl S_impl_Session)) (k0 : Int → Int → Int → Option ρ) (k1 : Int → Int → Int → Option ρ) (k2 : Option ρ) (i4_4 : Int) (go : Int → Option ρ) : Option ρ :=
  (bif (decide (i4_4 < ((m0_3.n : Nat) : Int))) then ((bif (decide (0 ≤ i4_4) && decide ((Int.toNat i4_4) < m0_3.n)) then some () else none : Option Unit).bind fun _ =>
    ((((F_spec_l1In fu (m0_3.f (Int.toNat i4_4)).Client 1 999).bind fun y30 => (bif (!y30) then (some true) else ((F_spec_l1In fu (m0_3.f (Int.toNat i4_4)).Seq 1 1000000).bind fun y31 =>
    (bif (!y31) then (some true) else ((F_spec_l1In fu (m0_3.f (Int.toNat i4_4)).Code 0 10).bind fun y32 => (some (!y32))))))) : Option Bool).bind fun m33 => (bif m33 then (k0 (m0_3.f (Int.toNat i4_4)).Client (m0_3.f (Int.toNat i4_4)).Seq (m0_3.f (Int.toNat i4_4)).Code) else
    (((bif (decide (i4_4 > 0)) then ((bif (decide (0 ≤ (IntKind.wrap .i64 (i4_4 - 1))) && decide ((Int.toNat (IntKind.wrap .i64 (i4_4 - 1))) < m0_3.n)) then some () else none : Option Unit).bind fun _ =>
    (some (decide ((m0_3.f (Int.toNat i4_4)).Client ≤ (m0_3.f (Int.toNat (IntKind.wrap .i64 (i4_4 - 1)))).Client)))) else (some false)) : Option Bool).bind fun m34 => (bif m34 then
    (k1 (m0_3.f (Int.toNat i4_4)).Client (m0_3.f (Int.toNat i4_4)).Seq (m0_3.f (Int.toNat i4_4)).Code) else (go (IntKind.wrap .i64 (i4_4 + 1)))))))) else k2)
def F_spec_l11Fault (fu : Nat) (m_0 : S_impl_Machine) : Option (Int) :=
  ((F_spec_l5Fault fu m_0.Config).bind fun y29 => (bif (y29 != 0) then (some y29) else (bif (decide (((m_0.Sessions.n : Nat) : Int) > 40)) then (some 2) else (L (fun w0 go0 =>
    F_spec_l11Fault_B0 fu m_0.Config.Version m_0.Config.Backends m_0.Config.Vips m_0.Sessions (fun z35 z36 z37 => (some 3)) (fun z38 z39 z40 => (some 1)) (some 0) w0 go0) fu (0 : Int)))))
def pc_spec_l11Fault (fu : Nat) : Pc RT den := fun f xs => match f with | 55 => S_spec_l5Fault fu xs | 76 => S_spec_l1In fu xs | _ => none
def msk_spec_l11Fault (b : Nat) : List Nat := match b with | 0 => [1, 2, 3, 5, 6, 7, 8, 9, 10, 11, 12, 13, 14, 15, 16, 17, 18, 19, 20, 21, 22, 23, 24, 25, 26, 27, 28, 29, 30, 31, 32, 33, 34, 35, 36, 37, 38, 39, 40, 41, 42, 43, 44, 45, 46, 47, 48, 49, 50, 51, 52, 53, 54, 55, 56, 57, 58, 59, 60, 61, 62, 63, 64, 65, 66] | 100000 => [0, 1, 3, 4, 5, 6, 7, 8, 9, 10, 11, 12, 13, 14, 15, 16, 17, 18, 19, 20, 21, 22, 23, 24, 25, 26, 27, 28, 29, 30, 31, 32, 33, 34, 35, 36, 37, 38, 39, 40, 41, 42, 43, 44, 45, 46, 47, 48, 49, 50, 51, 52, 53, 54, 55, 56, 57, 58, 59, 60, 61, 62, 63, 64, 65, 66] | 200010 => [50] | 200012 => [66] | _ => []
def ps_spec_l11Fault_0 : List (Pat RT) := [.rptr [(.int .i64), (.rs .impl_Backend), (.rs .impl_Vip), (.rs .impl_Session)], .flat .dead, .flat .dead, .flat .dead, .flat (.int .i64), .flat .dead, .flat .dead, .flat .dead, .flat .dead, .flat .dead, .flat .dead, .flat .dead, .flat .dead, .flat .dead, .flat .dead, .flat .dead, .flat .dead, .flat .dead, .flat .dead, .flat .dead, .flat .dead, .flat .dead, .flat .dead, .flat .dead, .flat .dead, .flat .dead, .flat .dead, .flat .dead, .flat .dead, .flat .dead, .flat .dead, .flat .dead, .flat .dead, .flat .dead, .flat .dead, .flat .dead, .flat .dead, .flat .dead, .flat .dead, .flat .dead, .flat .dead, .flat .dead, .flat .dead, .flat .dead, .flat .dead, .flat .dead, .flat .dead, .flat .dead, .flat .dead, .flat .dead, .flat .dead, .flat .dead, .flat .dead, .flat .dead, .flat .dead, .flat .dead, .flat .dead, .flat .dead, .flat .dead, .flat .dead, .flat .dead, .flat .dead, .flat .dead, .flat .dead, .flat .dead, .flat .dead, .flat .dead]
def os_spec_l11Fault_0 : List (OP RT) := []
def conv_spec_l11Fault_0 (r : Raw den ps_spec_l11Fault_0 os_spec_l11Fault_0) : (Int × (Sl S_impl_Backend) × (Sl S_impl_Vip) × (Sl S_impl_Session)) × (Int) := ((r.1.1.1, r.1.1.2.1, r.1.1.2.2.1, r.1.1.2.2.2.1), r.1.2.2.2.2.1)
def back_spec_l11Fault_0 (c : Int × (Sl S_impl_Backend) × (Sl S_impl_Vip) × (Sl S_impl_Session)) (w : Int) : St RT den := ⟨[(.rptr [(.int .i64 c.1), (.rs c.2.1.z .impl_Backend c.2.1.n c.2.1.f), (.rs c.2.2.1.z .impl_Vip c.2.2.1.n c.2.2.1.f), (.rs c.2.2.2.z .impl_Session c.2.2.2.n c.2.2.2.f)]), .dead, .dead, .dead, (.int .i64 w), .dead, .dead, .dead, .dead, .dead, .dead, .dead, .dead, .dead, .dead, .dead, .dead, .dead, .dead, .dead, .dead, .dead, .dead, .dead, .dead, .dead, .dead, .dead, .dead, .dead, .dead, .dead, .dead, .dead, .dead, .dead, .dead, .dead, .dead, .dead, .dead, .dead, .dead, .dead, .dead, .dead, .dead, .dead, .dead, .dead, .dead, .dead, .dead, .dead, .dead, .dead, .dead, .dead, .dead, .dead, .dead, .dead, .dead, .dead, .dead, .dead, .dead], []⟩
def Bk_spec_l11Fault_0 {ρ : Type} (fu : Nat) (c : Int × (Sl S_impl_Backend) × (Sl S_impl_Vip) × (Sl S_impl_Session)) (k : Ex → St RT den → Option ρ) (w : Int) (go : (Int) → Option ρ) : Option ρ := F_spec_l11Fault_B0 fu c.1 c.2.1 c.2.2.1 c.2.2.2 (fun a0 a1 a2 => k .ret ⟨[.dead, .dead, (.int .i64 3), .dead, .dead, .dead, .dead, .dead, .dead, .dead, .dead, .dead, .dead, .dead, .dead, .dead, .dead, .dead, .dead, .dead, .dead, .dead, .dead, .dead, .dead, .dead, .dead, .dead, .dead, .dead, .dead, .dead, .dead, .dead, .dead, .dead, .dead, .dead, .dead, .dead, .dead, .dead, .dead, .dead, .dead, .dead, .dead, .dead, .dead, .dead, .dead, .dead, .dead, .dead, .dead, .dead, .dead, .dead, .dead, .dead, .dead, .dead, .dead, .dead, .dead, .dead, .dead], [(.box [(.int .i64 a0), (.int .i64 a1), (.int .i64 a2)])]⟩) (fun a0 a1 a2 => k .ret ⟨[.dead, .dead, (.int .i64 1), .dead, .dead, .dead, .dead, .dead, .dead, .dead, .dead, .dead, .dead, .dead, .dead, .dead, .dead, .dead, .dead, .dead, .dead, .dead, .dead, .dead, .dead, .dead, .dead, .dead, .dead, .dead, .dead, .dead, .dead, .dead, .dead, .dead, .dead, .dead, .dead, .dead, .dead, .dead, .dead, .dead, .dead, .dead, .dead, .dead, .dead, .dead, .dead, .dead, .dead, .dead, .dead, .dead, .dead, .dead, .dead, .dead, .dead, .dead, .dead, .dead, .dead, .dead, .dead], [(.box [(.int .i64 a0), (.int .i64 a1), (.int .i64 a2)])]⟩) (k (.exit 0) ⟨[.dead, .dead, .dead, .dead, .dead, .dead, .dead, .dead, .dead, .dead, .dead, .dead, .dead, .dead, .dead, .dead, .dead, .dead, .dead, .dead, .dead, .dead, .dead, .dead, .dead, .dead, .dead, .dead, .dead, .dead, .dead, .dead, .dead, .dead, .dead, .dead, .dead, .dead, .dead, .dead, .dead, .dead, .dead, .dead, .dead, .dead, .dead, .dead, .dead, .dead, .dead, .dead, .dead, .dead, .dead, .dead, .dead, .dead, .dead, .dead, .dead, .dead, .dead, .dead, .dead, .dead, .dead], []⟩) w go
def lp_spec_l11Fault (fu : Nat) : Lp RT den (Int) := fun b s k => match b with | 0 => handle ps_spec_l11Fault_0 os_spec_l11Fault_0 conv_spec_l11Fault_0 (Bk_spec_l11Fault_0 fu) fu s k | _ => none
theorem ev_spec_l11Fault (fu : Nat) (m_0 : S_impl_Machine) : evFun E (pc_spec_l11Fault fu) msk_spec_l11Fault (lp_spec_l11Fault fu) out_i64 45 [(.rptr [(.int .i64 m_0.Config.Version), (.rs m_0.Config.Backends.z .impl_Backend m_0.Config.Backends.n m_0.Config.Backends.f), (.rs m_0.Config.Vips.z .impl_Vip m_0.Config.Vips.n m_0.Config.Vips.f), (.rs m_0.Sessions.z .impl_Session m_0.Sessions.n m_0.Sessions.f)])] = F_spec_l11Fault fu m_0 := by kernel_rfl
noncomputable def body_spec_l11Fault : Code := Try.f45.body.getD .skip
noncomputable def lc_spec_l11Fault_0 : Code := ((loops 0 body_spec_l11Fault).getD 0 (0, .skip)).2
theorem round_spec_l11Fault_0 (fu : Nat) (it : St RT den → Option (Int)) (k : Ex → St RT den → Option (Int)) c w : evCode E (pc_spec_l11Fault fu) msk_spec_l11Fault (lp_spec_l11Fault fu) 0 lc_spec_l11Fault_0 (back_spec_l11Fault_0 c w) (after (msk_spec_l11Fault 0) (msk_spec_l11Fault 100000) 0 it k) = Bk_spec_l11Fault_0 fu c k w (fun w => it (back_spec_l11Fault_0 c w)) := by kernel_rfl
theorem lpok_spec_l11Fault_0 (fu : Nat) : ∀ s k r, lp_spec_l11Fault fu 0 s k = some r → ∃ fuel, iter (msk_spec_l11Fault 0) (msk_spec_l11Fault 100000) s.objs.length (evCode E (pc_spec_l11Fault fu) msk_spec_l11Fault (lp_spec_l11Fault fu) 0 lc_spec_l11Fault_0) fuel s k = some r :=
  handle_ok (ps := ps_spec_l11Fault_0) (os := os_spec_l11Fault_0) (conv := conv_spec_l11Fault_0) (B := Bk_spec_l11Fault_0 fu) (fu := fu) back_spec_l11Fault_0 (fun raw => by kernel_rfl) 0 (fun c w => by kernel_rfl) (round_spec_l11Fault_0 fu)
theorem lpok_spec_l11Fault (fu : Nat) : LpOk E (pc_spec_l11Fault fu) msk_spec_l11Fault (lp_spec_l11Fault fu) (loops 0 body_spec_l11Fault) := loop_all 1 (by kernel_rfl) fun i hi => match i, hi with
  | 0, _ => by
    have h : (loops 0 body_spec_l11Fault).getD 0 (0, .skip) = (0, lc_spec_l11Fault_0) := by kernel_rfl
    rw [h]; exact lpok_spec_l11Fault_0 fu
  | i + 1, hi => absurd hi (by omega)
def S_spec_l11Fault (fu : Nat) (xs : List (D RT den)) : Option (Out RT den) := match xs with | [.rptr (.int .i64 a0_2 :: .rs za0_3 .impl_Backend na0_3 fa0_3 :: .rs za0_4 .impl_Vip na0_4 fa0_4 :: .rs za0_5 .impl_Session na0_5 fa0_5 :: ra0)] => some ⟨Int, F_spec_l11Fault fu (⟨(⟨a0_2, (⟨za0_3, na0_3, fa0_3⟩ : (Sl S_impl_Backend)), (⟨za0_4, na0_4, fa0_4⟩ : (Sl S_impl_Vip))⟩ : S_impl_Config), (⟨za0_5, na0_5, fa0_5⟩ : (Sl S_impl_Session))⟩ : S_impl_Machine), enc_i64, fun _ => true⟩ | _ => none
theorem hpc_spec_l11Fault (fu : Nat) : ∀ f xs o, pc_spec_l11Fault fu f xs = some o → ∀ y, o.x = some y → Good E Try.prog f xs (o.g y) := by
  intro f xs o h
  unfold pc_spec_l11Fault at h
  split at h
  · exact good_spec_l5Fault fu xs o h
  · exact good_spec_l1In fu xs o h
  · cases h
theorem goodv_spec_l11Fault (fu : Nat) (m_0 : S_impl_Machine) (y : Int) (hy : F_spec_l11Fault fu m_0 = some y) : Good E Try.prog 45 [(.rptr [(.int .i64 m_0.Config.Version), (.rs m_0.Config.Backends.z .impl_Backend m_0.Config.Backends.n m_0.Config.Backends.f), (.rs m_0.Config.Vips.z .impl_Vip m_0.Config.Vips.n m_0.Config.Vips.f), (.rs m_0.Sessions.z .impl_Session m_0.Sessions.n m_0.Sessions.f)])] (enc_i64 y) :=
  fun_good E_ok (pc_good (hpc_spec_l11Fault fu)) (fn := Try.f45) (c := body_spec_l11Fault) (out := out_i64) (y := y) (by kernel_rfl) (by kernel_rfl) (by kernel_rfl) (lpok_spec_l11Fault fu) (fun d hd => out_i64_enc d _ hd) ((ev_spec_l11Fault fu m_0).trans hy)
theorem good_spec_l11Fault (fu : Nat) : ∀ xs o, S_spec_l11Fault fu xs = some o → ∀ y, o.x = some y → Good E Try.prog 45 xs (o.g y) := by
  intro xs o h y hy
  unfold S_spec_l11Fault at h
  split at h
  · rename_i a0_2 za0_3 na0_3 fa0_3 za0_4 na0_4 fa0_4 za0_5 na0_5 fa0_5 ra0
    cases h
    exact (goodv_spec_l11Fault fu (⟨(⟨a0_2, (⟨za0_3, na0_3, fa0_3⟩ : (Sl S_impl_Backend)), (⟨za0_4, na0_4, fa0_4⟩ : (Sl S_impl_Vip))⟩ : S_impl_Config), (⟨za0_5, na0_5, fa0_5⟩ : (Sl S_impl_Session))⟩ : S_impl_Machine) y hy).sub ⟨Sub.of_eq ra0 rfl, trivial⟩
  · cases h

/-! spec.MachineFault -/
def F_spec_MachineFault (fu : Nat) (m_0 : S_impl_Machine) : Option (Int) :=
  ((F_spec_l11Fault fu m_0).bind fun y28 => (some y28))
def pc_spec_MachineFault (fu : Nat) : Pc RT den := fun f xs => match f with | 45 => S_spec_l11Fault fu xs | _ => none
def msk_spec_MachineFault (b : Nat) : List Nat := []
def lp_spec_MachineFault (fu : Nat) : Lp RT den (Int) := fun b s k => none
theorem ev_spec_MachineFault (fu : Nat) (m_0 : S_impl_Machine) : evFun E (pc_spec_MachineFault fu) msk_spec_MachineFault (lp_spec_MachineFault fu) out_i64 10 [(.agg [(.int .i64 m_0.Config.Version), (.rs m_0.Config.Backends.z .impl_Backend m_0.Config.Backends.n m_0.Config.Backends.f), (.rs m_0.Config.Vips.z .impl_Vip m_0.Config.Vips.n m_0.Config.Vips.f), (.rs m_0.Sessions.z .impl_Session m_0.Sessions.n m_0.Sessions.f)])] = F_spec_MachineFault fu m_0 := by kernel_rfl
noncomputable def body_spec_MachineFault : Code := Try.f10.body.getD .skip
theorem lpok_spec_MachineFault (fu : Nat) : LpOk E (pc_spec_MachineFault fu) msk_spec_MachineFault (lp_spec_MachineFault fu) (loops 0 body_spec_MachineFault) := by
  have h : loops 0 body_spec_MachineFault = [] := by kernel_rfl
  rw [h]; intro p hp; cases hp
def S_spec_MachineFault (fu : Nat) (xs : List (D RT den)) : Option (Out RT den) := match xs with | [.agg [.int .i64 a0_2, .rs za0_3 .impl_Backend na0_3 fa0_3, .rs za0_4 .impl_Vip na0_4 fa0_4, .rs za0_5 .impl_Session na0_5 fa0_5]] => some ⟨Int, F_spec_MachineFault fu (⟨(⟨a0_2, (⟨za0_3, na0_3, fa0_3⟩ : (Sl S_impl_Backend)), (⟨za0_4, na0_4, fa0_4⟩ : (Sl S_impl_Vip))⟩ : S_impl_Config), (⟨za0_5, na0_5, fa0_5⟩ : (Sl S_impl_Session))⟩ : S_impl_Machine), enc_i64, fun _ => true⟩ | _ => none
theorem hpc_spec_MachineFault (fu : Nat) : ∀ f xs o, pc_spec_MachineFault fu f xs = some o → ∀ y, o.x = some y → Good E Try.prog f xs (o.g y) := by
  intro f xs o h
  unfold pc_spec_MachineFault at h
  split at h
  · exact good_spec_l11Fault fu xs o h
  · cases h
theorem goodv_spec_MachineFault (fu : Nat) (m_0 : S_impl_Machine) (y : Int) (hy : F_spec_MachineFault fu m_0 = some y) : Good E Try.prog 10 [(.agg [(.int .i64 m_0.Config.Version), (.rs m_0.Config.Backends.z .impl_Backend m_0.Config.Backends.n m_0.Config.Backends.f), (.rs m_0.Config.Vips.z .impl_Vip m_0.Config.Vips.n m_0.Config.Vips.f), (.rs m_0.Sessions.z .impl_Session m_0.Sessions.n m_0.Sessions.f)])] (enc_i64 y) :=
  fun_good E_ok (pc_good (hpc_spec_MachineFault fu)) (fn := Try.f10) (c := body_spec_MachineFault) (out := out_i64) (y := y) (by kernel_rfl) (by kernel_rfl) (by kernel_rfl) (lpok_spec_MachineFault fu) (fun d hd => out_i64_enc d _ hd) ((ev_spec_MachineFault fu m_0).trans hy)
theorem good_spec_MachineFault (fu : Nat) : ∀ xs o, S_spec_MachineFault fu xs = some o → ∀ y, o.x = some y → Good E Try.prog 10 xs (o.g y) := by
  intro xs o h y hy
  unfold S_spec_MachineFault at h
  split at h
  · rename_i a0_2 za0_3 na0_3 fa0_3 za0_4 na0_4 fa0_4 za0_5 na0_5 fa0_5
    cases h
    exact goodv_spec_MachineFault fu (⟨(⟨a0_2, (⟨za0_3, na0_3, fa0_3⟩ : (Sl S_impl_Backend)), (⟨za0_4, na0_4, fa0_4⟩ : (Sl S_impl_Vip))⟩ : S_impl_Config), (⟨za0_5, na0_5, fa0_5⟩ : (Sl S_impl_Session))⟩ : S_impl_Machine) y hy
  · cases h

/-! impl.in -/
def F_impl_in (fu : Nat) (n_0 : Int) (low_1 : Int) (high_2 : Int) : Option (Bool) :=
  (((bif (decide (n_0 ≥ low_1)) then (some (decide (n_0 ≤ high_2))) else (some false)) : Option Bool).bind fun m111 => (some m111))
def pc_impl_in (fu : Nat) : Pc RT den := fun f xs => none
def msk_impl_in (b : Nat) : List Nat := match b with | 200001 => [6] | _ => []
def lp_impl_in (fu : Nat) : Lp RT den (Bool) := fun b s k => none
theorem ev_impl_in (fu : Nat) (n_0 : Int) (low_1 : Int) (high_2 : Int) : evFun E (pc_impl_in fu) msk_impl_in (lp_impl_in fu) out_bo 49 [(.int .i64 n_0), (.int .i64 low_1), (.int .i64 high_2)] = F_impl_in fu n_0 low_1 high_2 := by kernel_rfl
noncomputable def body_impl_in : Code := Try.f49.body.getD .skip
theorem lpok_impl_in (fu : Nat) : LpOk E (pc_impl_in fu) msk_impl_in (lp_impl_in fu) (loops 0 body_impl_in) := by
  have h : loops 0 body_impl_in = [] := by kernel_rfl
  rw [h]; intro p hp; cases hp
def S_impl_in (fu : Nat) (xs : List (D RT den)) : Option (Out RT den) := match xs with | [.int .i64 a0_0, .int .i64 a1_0, .int .i64 a2_0] => some ⟨Bool, F_impl_in fu a0_0 a1_0 a2_0, enc_bo, fun _ => true⟩ | _ => none
theorem hpc_impl_in (fu : Nat) : ∀ f xs o, pc_impl_in fu f xs = some o → ∀ y, o.x = some y → Good E Try.prog f xs (o.g y) := by
  intro f xs o h
  cases h
theorem goodv_impl_in (fu : Nat) (n_0 : Int) (low_1 : Int) (high_2 : Int) (y : Bool) (hy : F_impl_in fu n_0 low_1 high_2 = some y) : Good E Try.prog 49 [(.int .i64 n_0), (.int .i64 low_1), (.int .i64 high_2)] (enc_bo y) :=
  fun_good E_ok (pc_good (hpc_impl_in fu)) (fn := Try.f49) (c := body_impl_in) (out := out_bo) (y := y) (by kernel_rfl) (by kernel_rfl) (by kernel_rfl) (lpok_impl_in fu) (fun d hd => out_bo_enc d _ hd) ((ev_impl_in fu n_0 low_1 high_2).trans hy)
theorem good_impl_in (fu : Nat) : ∀ xs o, S_impl_in fu xs = some o → ∀ y, o.x = some y → Good E Try.prog 49 xs (o.g y) := by
  intro xs o h y hy
  unfold S_impl_in at h
  split at h
  · rename_i a0_0 a1_0 a2_0
    cases h
    exact goodv_impl_in fu a0_0 a1_0 a2_0 y hy
  · cases h

/-! impl.isName -/
def F_impl_isName (fu : Nat) (name_0 : Int) : Option (Bool) :=
  ((F_impl_in fu name_0 1 999).bind fun y117 => (some y117))
def pc_impl_isName (fu : Nat) : Pc RT den := fun f xs => match f with | 49 => S_impl_in fu xs | _ => none
def msk_impl_isName (b : Nat) : List Nat := []
def lp_impl_isName (fu : Nat) : Lp RT den (Bool) := fun b s k => none
theorem ev_impl_isName (fu : Nat) (name_0 : Int) : evFun E (pc_impl_isName fu) msk_impl_isName (lp_impl_isName fu) out_bo 48 [(.int .i64 name_0)] = F_impl_isName fu name_0 := by kernel_rfl
noncomputable def body_impl_isName : Code := Try.f48.body.getD .skip
theorem lpok_impl_isName (fu : Nat) : LpOk E (pc_impl_isName fu) msk_impl_isName (lp_impl_isName fu) (loops 0 body_impl_isName) := by
  have h : loops 0 body_impl_isName = [] := by kernel_rfl
  rw [h]; intro p hp; cases hp
def S_impl_isName (fu : Nat) (xs : List (D RT den)) : Option (Out RT den) := match xs with | [.int .i64 a0_0] => some ⟨Bool, F_impl_isName fu a0_0, enc_bo, fun _ => true⟩ | _ => none
theorem hpc_impl_isName (fu : Nat) : ∀ f xs o, pc_impl_isName fu f xs = some o → ∀ y, o.x = some y → Good E Try.prog f xs (o.g y) := by
  intro f xs o h
  unfold pc_impl_isName at h
  split at h
  · exact good_impl_in fu xs o h
  · cases h
theorem goodv_impl_isName (fu : Nat) (name_0 : Int) (y : Bool) (hy : F_impl_isName fu name_0 = some y) : Good E Try.prog 48 [(.int .i64 name_0)] (enc_bo y) :=
  fun_good E_ok (pc_good (hpc_impl_isName fu)) (fn := Try.f48) (c := body_impl_isName) (out := out_bo) (y := y) (by kernel_rfl) (by kernel_rfl) (by kernel_rfl) (lpok_impl_isName fu) (fun d hd => out_bo_enc d _ hd) ((ev_impl_isName fu name_0).trans hy)
theorem good_impl_isName (fu : Nat) : ∀ xs o, S_impl_isName fu xs = some o → ∀ y, o.x = some y → Good E Try.prog 48 xs (o.g y) := by
  intro xs o h y hy
  unfold S_impl_isName at h
  split at h
  · rename_i a0_0
    cases h
    exact goodv_impl_isName fu a0_0 y hy
  · cases h

/-! impl.isAddress -/
def F_impl_isAddress (fu : Nat) (a_0 : Int) : Option (Bool) :=
  ((F_impl_in fu a_0 0 4294967295).bind fun y118 => (some y118))
def pc_impl_isAddress (fu : Nat) : Pc RT den := fun f xs => match f with | 49 => S_impl_in fu xs | _ => none
def msk_impl_isAddress (b : Nat) : List Nat := []
def lp_impl_isAddress (fu : Nat) : Lp RT den (Bool) := fun b s k => none
theorem ev_impl_isAddress (fu : Nat) (a_0 : Int) : evFun E (pc_impl_isAddress fu) msk_impl_isAddress (lp_impl_isAddress fu) out_bo 90 [(.int .i64 a_0)] = F_impl_isAddress fu a_0 := by kernel_rfl
noncomputable def body_impl_isAddress : Code := Try.f90.body.getD .skip
theorem lpok_impl_isAddress (fu : Nat) : LpOk E (pc_impl_isAddress fu) msk_impl_isAddress (lp_impl_isAddress fu) (loops 0 body_impl_isAddress) := by
  have h : loops 0 body_impl_isAddress = [] := by kernel_rfl
  rw [h]; intro p hp; cases hp
def S_impl_isAddress (fu : Nat) (xs : List (D RT den)) : Option (Out RT den) := match xs with | [.int .i64 a0_0] => some ⟨Bool, F_impl_isAddress fu a0_0, enc_bo, fun _ => true⟩ | _ => none
theorem hpc_impl_isAddress (fu : Nat) : ∀ f xs o, pc_impl_isAddress fu f xs = some o → ∀ y, o.x = some y → Good E Try.prog f xs (o.g y) := by
  intro f xs o h
  unfold pc_impl_isAddress at h
  split at h
  · exact good_impl_in fu xs o h
  · cases h
theorem goodv_impl_isAddress (fu : Nat) (a_0 : Int) (y : Bool) (hy : F_impl_isAddress fu a_0 = some y) : Good E Try.prog 90 [(.int .i64 a_0)] (enc_bo y) :=
  fun_good E_ok (pc_good (hpc_impl_isAddress fu)) (fn := Try.f90) (c := body_impl_isAddress) (out := out_bo) (y := y) (by kernel_rfl) (by kernel_rfl) (by kernel_rfl) (lpok_impl_isAddress fu) (fun d hd => out_bo_enc d _ hd) ((ev_impl_isAddress fu a_0).trans hy)
theorem good_impl_isAddress (fu : Nat) : ∀ xs o, S_impl_isAddress fu xs = some o → ∀ y, o.x = some y → Good E Try.prog 90 xs (o.g y) := by
  intro xs o h y hy
  unfold S_impl_isAddress at h
  split at h
  · rename_i a0_0
    cases h
    exact goodv_impl_isAddress fu a0_0 y hy
  · cases h

/-! impl.isBackend -/
def F_impl_isBackend (fu : Nat) (b_0 : S_impl_Backend) : Option (Bool) :=
  ((((F_impl_isName fu b_0.Name).bind fun y112 => (bif y112 then ((F_impl_isAddress fu b_0.Address).bind fun y113 => (bif y113 then ((F_impl_in fu b_0.Weight 0 9).bind fun y114 =>
    (bif y114 then ((F_impl_in fu b_0.Stage 1 3).bind fun y115 => (some y115)) else (some false))) else (some false))) else (some false))) : Option Bool).bind fun m116 => (some m116))
def pc_impl_isBackend (fu : Nat) : Pc RT den := fun f xs => match f with | 48 => S_impl_isName fu xs | 49 => S_impl_in fu xs | 90 => S_impl_isAddress fu xs | _ => none
def msk_impl_isBackend (b : Nat) : List Nat := match b with | 200001 => [2] | _ => []
def lp_impl_isBackend (fu : Nat) : Lp RT den (Bool) := fun b s k => none
theorem ev_impl_isBackend (fu : Nat) (b_0 : S_impl_Backend) : evFun E (pc_impl_isBackend fu) msk_impl_isBackend (lp_impl_isBackend fu) out_bo 100 [(.agg [(.int .i64 b_0.Name), (.int .i64 b_0.Address), (.int .i64 b_0.Weight), (.int .i64 b_0.Stage), (.bool b_0.Up)])] = F_impl_isBackend fu b_0 := by kernel_rfl
noncomputable def body_impl_isBackend : Code := Try.f100.body.getD .skip
theorem lpok_impl_isBackend (fu : Nat) : LpOk E (pc_impl_isBackend fu) msk_impl_isBackend (lp_impl_isBackend fu) (loops 0 body_impl_isBackend) := by
  have h : loops 0 body_impl_isBackend = [] := by kernel_rfl
  rw [h]; intro p hp; cases hp
def S_impl_isBackend (fu : Nat) (xs : List (D RT den)) : Option (Out RT den) := match xs with | [.agg [.int .i64 a0_1, .int .i64 a0_2, .int .i64 a0_3, .int .i64 a0_4, .bool a0_5]] => some ⟨Bool, F_impl_isBackend fu (⟨a0_1, a0_2, a0_3, a0_4, a0_5⟩ : S_impl_Backend), enc_bo, fun _ => true⟩ | _ => none
theorem hpc_impl_isBackend (fu : Nat) : ∀ f xs o, pc_impl_isBackend fu f xs = some o → ∀ y, o.x = some y → Good E Try.prog f xs (o.g y) := by
  intro f xs o h
  unfold pc_impl_isBackend at h
  split at h
  · exact good_impl_isName fu xs o h
  · exact good_impl_in fu xs o h
  · exact good_impl_isAddress fu xs o h
  · cases h
theorem goodv_impl_isBackend (fu : Nat) (b_0 : S_impl_Backend) (y : Bool) (hy : F_impl_isBackend fu b_0 = some y) : Good E Try.prog 100 [(.agg [(.int .i64 b_0.Name), (.int .i64 b_0.Address), (.int .i64 b_0.Weight), (.int .i64 b_0.Stage), (.bool b_0.Up)])] (enc_bo y) :=
  fun_good E_ok (pc_good (hpc_impl_isBackend fu)) (fn := Try.f100) (c := body_impl_isBackend) (out := out_bo) (y := y) (by kernel_rfl) (by kernel_rfl) (by kernel_rfl) (lpok_impl_isBackend fu) (fun d hd => out_bo_enc d _ hd) ((ev_impl_isBackend fu b_0).trans hy)
theorem good_impl_isBackend (fu : Nat) : ∀ xs o, S_impl_isBackend fu xs = some o → ∀ y, o.x = some y → Good E Try.prog 100 xs (o.g y) := by
  intro xs o h y hy
  unfold S_impl_isBackend at h
  split at h
  · rename_i a0_1 a0_2 a0_3 a0_4 a0_5
    cases h
    exact goodv_impl_isBackend fu (⟨a0_1, a0_2, a0_3, a0_4, a0_5⟩ : S_impl_Backend) y hy
  · cases h

/-! impl.isPort -/
def F_impl_isPort (fu : Nat) (n_0 : Int) : Option (Bool) :=
  ((F_impl_in fu n_0 0 65535).bind fun y119 => (some y119))
def pc_impl_isPort (fu : Nat) : Pc RT den := fun f xs => match f with | 49 => S_impl_in fu xs | _ => none
def msk_impl_isPort (b : Nat) : List Nat := []
def lp_impl_isPort (fu : Nat) : Lp RT den (Bool) := fun b s k => none
theorem ev_impl_isPort (fu : Nat) (n_0 : Int) : evFun E (pc_impl_isPort fu) msk_impl_isPort (lp_impl_isPort fu) out_bo 101 [(.int .i64 n_0)] = F_impl_isPort fu n_0 := by kernel_rfl
noncomputable def body_impl_isPort : Code := Try.f101.body.getD .skip
theorem lpok_impl_isPort (fu : Nat) : LpOk E (pc_impl_isPort fu) msk_impl_isPort (lp_impl_isPort fu) (loops 0 body_impl_isPort) := by
  have h : loops 0 body_impl_isPort = [] := by kernel_rfl
  rw [h]; intro p hp; cases hp
def S_impl_isPort (fu : Nat) (xs : List (D RT den)) : Option (Out RT den) := match xs with | [.int .i64 a0_0] => some ⟨Bool, F_impl_isPort fu a0_0, enc_bo, fun _ => true⟩ | _ => none
theorem hpc_impl_isPort (fu : Nat) : ∀ f xs o, pc_impl_isPort fu f xs = some o → ∀ y, o.x = some y → Good E Try.prog f xs (o.g y) := by
  intro f xs o h
  unfold pc_impl_isPort at h
  split at h
  · exact good_impl_in fu xs o h
  · cases h
theorem goodv_impl_isPort (fu : Nat) (n_0 : Int) (y : Bool) (hy : F_impl_isPort fu n_0 = some y) : Good E Try.prog 101 [(.int .i64 n_0)] (enc_bo y) :=
  fun_good E_ok (pc_good (hpc_impl_isPort fu)) (fn := Try.f101) (c := body_impl_isPort) (out := out_bo) (y := y) (by kernel_rfl) (by kernel_rfl) (by kernel_rfl) (lpok_impl_isPort fu) (fun d hd => out_bo_enc d _ hd) ((ev_impl_isPort fu n_0).trans hy)
theorem good_impl_isPort (fu : Nat) : ∀ xs o, S_impl_isPort fu xs = some o → ∀ y, o.x = some y → Good E Try.prog 101 xs (o.g y) := by
  intro xs o h y hy
  unfold S_impl_isPort at h
  split at h
  · rename_i a0_0
    cases h
    exact goodv_impl_isPort fu a0_0 y hy
  · cases h

/-! impl.isProto -/
def F_impl_isProto (fu : Nat) (n_0 : Int) : Option (Bool) :=
  (((bif (n_0 == 6) then (some true) else (some (n_0 == 17))) : Option Bool).bind fun m120 => (some m120))
def pc_impl_isProto (fu : Nat) : Pc RT den := fun f xs => none
def msk_impl_isProto (b : Nat) : List Nat := match b with | 200001 => [2] | _ => []
def lp_impl_isProto (fu : Nat) : Lp RT den (Bool) := fun b s k => none
theorem ev_impl_isProto (fu : Nat) (n_0 : Int) : evFun E (pc_impl_isProto fu) msk_impl_isProto (lp_impl_isProto fu) out_bo 102 [(.int .i64 n_0)] = F_impl_isProto fu n_0 := by kernel_rfl
noncomputable def body_impl_isProto : Code := Try.f102.body.getD .skip
theorem lpok_impl_isProto (fu : Nat) : LpOk E (pc_impl_isProto fu) msk_impl_isProto (lp_impl_isProto fu) (loops 0 body_impl_isProto) := by
  have h : loops 0 body_impl_isProto = [] := by kernel_rfl
  rw [h]; intro p hp; cases hp
def S_impl_isProto (fu : Nat) (xs : List (D RT den)) : Option (Out RT den) := match xs with | [.int .i64 a0_0] => some ⟨Bool, F_impl_isProto fu a0_0, enc_bo, fun _ => true⟩ | _ => none
theorem hpc_impl_isProto (fu : Nat) : ∀ f xs o, pc_impl_isProto fu f xs = some o → ∀ y, o.x = some y → Good E Try.prog f xs (o.g y) := by
  intro f xs o h
  cases h
theorem goodv_impl_isProto (fu : Nat) (n_0 : Int) (y : Bool) (hy : F_impl_isProto fu n_0 = some y) : Good E Try.prog 102 [(.int .i64 n_0)] (enc_bo y) :=
  fun_good E_ok (pc_good (hpc_impl_isProto fu)) (fn := Try.f102) (c := body_impl_isProto) (out := out_bo) (y := y) (by kernel_rfl) (by kernel_rfl) (by kernel_rfl) (lpok_impl_isProto fu) (fun d hd => out_bo_enc d _ hd) ((ev_impl_isProto fu n_0).trans hy)
theorem good_impl_isProto (fu : Nat) : ∀ xs o, S_impl_isProto fu xs = some o → ∀ y, o.x = some y → Good E Try.prog 102 xs (o.g y) := by
  intro xs o h y hy
  unfold S_impl_isProto at h
  split at h
  · rename_i a0_0
    cases h
    exact goodv_impl_isProto fu a0_0 y hy
  · cases h

/-! cmp.isNaN[int64] -/
def F_cmp_isNaN_int64 (fu : Nat) (x_0 : Int) : Option (Bool) :=
  (some (x_0 != x_0))
def pc_cmp_isNaN_int64 (fu : Nat) : Pc RT den := fun f xs => none
def msk_cmp_isNaN_int64 (b : Nat) : List Nat := []
def lp_cmp_isNaN_int64 (fu : Nat) : Lp RT den (Bool) := fun b s k => none
theorem ev_cmp_isNaN_int64 (fu : Nat) (x_0 : Int) : evFun E (pc_cmp_isNaN_int64 fu) msk_cmp_isNaN_int64 (lp_cmp_isNaN_int64 fu) out_bo 142 [(.int .i64 x_0)] = F_cmp_isNaN_int64 fu x_0 := by kernel_rfl
noncomputable def body_cmp_isNaN_int64 : Code := Try.f142.body.getD .skip
theorem lpok_cmp_isNaN_int64 (fu : Nat) : LpOk E (pc_cmp_isNaN_int64 fu) msk_cmp_isNaN_int64 (lp_cmp_isNaN_int64 fu) (loops 0 body_cmp_isNaN_int64) := by
  have h : loops 0 body_cmp_isNaN_int64 = [] := by kernel_rfl
  rw [h]; intro p hp; cases hp
def S_cmp_isNaN_int64 (fu : Nat) (xs : List (D RT den)) : Option (Out RT den) := match xs with | [.int .i64 a0_0] => some ⟨Bool, F_cmp_isNaN_int64 fu a0_0, enc_bo, fun _ => true⟩ | _ => none
theorem hpc_cmp_isNaN_int64 (fu : Nat) : ∀ f xs o, pc_cmp_isNaN_int64 fu f xs = some o → ∀ y, o.x = some y → Good E Try.prog f xs (o.g y) := by
  intro f xs o h
  cases h
theorem goodv_cmp_isNaN_int64 (fu : Nat) (x_0 : Int) (y : Bool) (hy : F_cmp_isNaN_int64 fu x_0 = some y) : Good E Try.prog 142 [(.int .i64 x_0)] (enc_bo y) :=
  fun_good E_ok (pc_good (hpc_cmp_isNaN_int64 fu)) (fn := Try.f142) (c := body_cmp_isNaN_int64) (out := out_bo) (y := y) (by kernel_rfl) (by kernel_rfl) (by kernel_rfl) (lpok_cmp_isNaN_int64 fu) (fun d hd => out_bo_enc d _ hd) ((ev_cmp_isNaN_int64 fu x_0).trans hy)
theorem good_cmp_isNaN_int64 (fu : Nat) : ∀ xs o, S_cmp_isNaN_int64 fu xs = some o → ∀ y, o.x = some y → Good E Try.prog 142 xs (o.g y) := by
  intro xs o h y hy
  unfold S_cmp_isNaN_int64 at h
  split at h
  · rename_i a0_0
    cases h
    exact goodv_cmp_isNaN_int64 fu a0_0 y hy
  · cases h

/-! cmp.Compare[int64] -/
def F_cmp_Compare_int64 (fu : Nat) (x_0 : Int) (y_1 : Int) : Option (Int) :=
  ((F_cmp_isNaN_int64 fu x_0).bind fun y125 => ((F_cmp_isNaN_int64 fu y_1).bind fun y126 => (bif y125 then (bif y126 then (some 0) else (some (-1))) else (bif y126 then (some 1) else
    (bif (decide (x_0 < y_1)) then (some (-1)) else (bif (decide (x_0 > y_1)) then (some 1) else (some 0)))))))
def pc_cmp_Compare_int64 (fu : Nat) : Pc RT den := fun f xs => match f with | 142 => S_cmp_isNaN_int64 fu xs | _ => none
def msk_cmp_Compare_int64 (b : Nat) : List Nat := []
def lp_cmp_Compare_int64 (fu : Nat) : Lp RT den (Int) := fun b s k => none
theorem ev_cmp_Compare_int64 (fu : Nat) (x_0 : Int) (y_1 : Int) : evFun E (pc_cmp_Compare_int64 fu) msk_cmp_Compare_int64 (lp_cmp_Compare_int64 fu) out_i64 108 [(.int .i64 x_0), (.int .i64 y_1)] = F_cmp_Compare_int64 fu x_0 y_1 := by kernel_rfl
noncomputable def body_cmp_Compare_int64 : Code := Try.f108.body.getD .skip
theorem lpok_cmp_Compare_int64 (fu : Nat) : LpOk E (pc_cmp_Compare_int64 fu) msk_cmp_Compare_int64 (lp_cmp_Compare_int64 fu) (loops 0 body_cmp_Compare_int64) := by
  have h : loops 0 body_cmp_Compare_int64 = [] := by kernel_rfl
  rw [h]; intro p hp; cases hp
def S_cmp_Compare_int64 (fu : Nat) (xs : List (D RT den)) : Option (Out RT den) := match xs with | [.int .i64 a0_0, .int .i64 a1_0] => some ⟨Int, F_cmp_Compare_int64 fu a0_0 a1_0, enc_i64, fun _ => true⟩ | _ => none
theorem hpc_cmp_Compare_int64 (fu : Nat) : ∀ f xs o, pc_cmp_Compare_int64 fu f xs = some o → ∀ y, o.x = some y → Good E Try.prog f xs (o.g y) := by
  intro f xs o h
  unfold pc_cmp_Compare_int64 at h
  split at h
  · exact good_cmp_isNaN_int64 fu xs o h
  · cases h
theorem goodv_cmp_Compare_int64 (fu : Nat) (x_0 : Int) (y_1 : Int) (y : Int) (hy : F_cmp_Compare_int64 fu x_0 y_1 = some y) : Good E Try.prog 108 [(.int .i64 x_0), (.int .i64 y_1)] (enc_i64 y) :=
  fun_good E_ok (pc_good (hpc_cmp_Compare_int64 fu)) (fn := Try.f108) (c := body_cmp_Compare_int64) (out := out_i64) (y := y) (by kernel_rfl) (by kernel_rfl) (by kernel_rfl) (lpok_cmp_Compare_int64 fu) (fun d hd => out_i64_enc d _ hd) ((ev_cmp_Compare_int64 fu x_0 y_1).trans hy)
theorem good_cmp_Compare_int64 (fu : Nat) : ∀ xs o, S_cmp_Compare_int64 fu xs = some o → ∀ y, o.x = some y → Good E Try.prog 108 xs (o.g y) := by
  intro xs o h y hy
  unfold S_cmp_Compare_int64 at h
  split at h
  · rename_i a0_0 a1_0
    cases h
    exact goodv_cmp_Compare_int64 fu a0_0 a1_0 y hy
  · cases h

/-! cmp.Or[int] -/
def F_cmp_Or_int_B0 {ρ : Type} (fu : Nat) (zero3_0 : Int) (t6_1 : (Sl Int)) (t7_2 : Int) (k0 : Int → Option ρ) (k1 : Option ρ) (t8_3 : Int) (go : Int → Option ρ) : Option ρ :=
  (bif (decide (t8_3 < t7_2)) then ((bif (decide (0 ≤ t8_3) && decide ((Int.toNat t8_3) < t6_1.n)) then some () else none : Option Unit).bind fun _ => (bif ((t6_1.f (Int.toNat t8_3)) != zero3_0) then
    (k0 (t6_1.f (Int.toNat t8_3))) else (go (IntKind.wrap .i64 (t8_3 + 1))))) else k1)
def F_cmp_Or_int (fu : Nat) (vals_0 : (Sl Int)) : Option (Int) :=
  (L (fun w0 go0 => F_cmp_Or_int_B0 fu 0 vals_0 ((vals_0.n : Nat) : Int) (fun z127 => (some z127)) (some 0) w0 go0) fu (0 : Int))
def pc_cmp_Or_int (fu : Nat) : Pc RT den := fun f xs => none
def msk_cmp_Or_int (b : Nat) : List Nat := match b with | 0 => [0, 1, 2, 4, 5, 9, 10, 11, 12, 13, 14, 15, 16, 17] | 100000 => [0, 1, 4, 5, 6, 7, 8, 9, 10, 11, 12, 13, 14, 15, 16, 17] | _ => []
def ps_cmp_Or_int_0 : List (Pat RT) := [.flat .dead, .flat .dead, .flat .dead, .flat (.int .i64), .flat .dead, .flat .dead, .flat (.rs .i64), .flat (.int .i64), .flat (.int .i64), .flat .dead, .flat .dead, .flat .dead, .flat .dead, .flat .dead, .flat .dead, .flat .dead, .flat .dead, .flat .dead]
def os_cmp_Or_int_0 : List (OP RT) := []
def conv_cmp_Or_int_0 (r : Raw den ps_cmp_Or_int_0 os_cmp_Or_int_0) : (Int × (Sl Int) × Int) × (Int) := ((r.1.2.2.2.1, r.1.2.2.2.2.2.2.1, r.1.2.2.2.2.2.2.2.1), r.1.2.2.2.2.2.2.2.2.1)
def back_cmp_Or_int_0 (c : Int × (Sl Int) × Int) (w : Int) : St RT den := ⟨[.dead, .dead, .dead, (.int .i64 c.1), .dead, .dead, (.rs c.2.1.z .i64 c.2.1.n c.2.1.f), (.int .i64 c.2.2), (.int .i64 w), .dead, .dead, .dead, .dead, .dead, .dead, .dead, .dead, .dead], []⟩
def Bk_cmp_Or_int_0 {ρ : Type} (fu : Nat) (c : Int × (Sl Int) × Int) (k : Ex → St RT den → Option ρ) (w : Int) (go : (Int) → Option ρ) : Option ρ := F_cmp_Or_int_B0 fu c.1 c.2.1 c.2.2 (fun a0 => k .ret ⟨[.dead, .dead, (.int .i64 a0), (.int .i64 c.1), .dead, .dead, .dead, .dead, .dead, .dead, .dead, .dead, .dead, .dead, .dead, .dead, .dead, .dead], []⟩) (k (.exit 0) ⟨[.dead, .dead, .dead, (.int .i64 c.1), .dead, .dead, .dead, .dead, .dead, .dead, .dead, .dead, .dead, .dead, .dead, .dead, .dead, .dead], []⟩) w go
def lp_cmp_Or_int (fu : Nat) : Lp RT den (Int) := fun b s k => match b with | 0 => handle ps_cmp_Or_int_0 os_cmp_Or_int_0 conv_cmp_Or_int_0 (Bk_cmp_Or_int_0 fu) fu s k | _ => none
theorem ev_cmp_Or_int (fu : Nat) (vals_0 : (Sl Int)) : evFun E (pc_cmp_Or_int fu) msk_cmp_Or_int (lp_cmp_Or_int fu) out_i64 141 [(.rs vals_0.z .i64 vals_0.n vals_0.f)] = F_cmp_Or_int fu vals_0 := by kernel_rfl
noncomputable def body_cmp_Or_int : Code := Try.f141.body.getD .skip
noncomputable def lc_cmp_Or_int_0 : Code := ((loops 0 body_cmp_Or_int).getD 0 (0, .skip)).2
theorem round_cmp_Or_int_0 (fu : Nat) (it : St RT den → Option (Int)) (k : Ex → St RT den → Option (Int)) c w : evCode E (pc_cmp_Or_int fu) msk_cmp_Or_int (lp_cmp_Or_int fu) 0 lc_cmp_Or_int_0 (back_cmp_Or_int_0 c w) (after (msk_cmp_Or_int 0) (msk_cmp_Or_int 100000) 0 it k) = Bk_cmp_Or_int_0 fu c k w (fun w => it (back_cmp_Or_int_0 c w)) := by kernel_rfl
theorem lpok_cmp_Or_int_0 (fu : Nat) : ∀ s k r, lp_cmp_Or_int fu 0 s k = some r → ∃ fuel, iter (msk_cmp_Or_int 0) (msk_cmp_Or_int 100000) s.objs.length (evCode E (pc_cmp_Or_int fu) msk_cmp_Or_int (lp_cmp_Or_int fu) 0 lc_cmp_Or_int_0) fuel s k = some r :=
  handle_ok (ps := ps_cmp_Or_int_0) (os := os_cmp_Or_int_0) (conv := conv_cmp_Or_int_0) (B := Bk_cmp_Or_int_0 fu) (fu := fu) back_cmp_Or_int_0 (fun raw => by kernel_rfl) 0 (fun c w => by kernel_rfl) (round_cmp_Or_int_0 fu)
theorem lpok_cmp_Or_int (fu : Nat) : LpOk E (pc_cmp_Or_int fu) msk_cmp_Or_int (lp_cmp_Or_int fu) (loops 0 body_cmp_Or_int) := loop_all 1 (by kernel_rfl) fun i hi => match i, hi with
  | 0, _ => by
    have h : (loops 0 body_cmp_Or_int).getD 0 (0, .skip) = (0, lc_cmp_Or_int_0) := by kernel_rfl
    rw [h]; exact lpok_cmp_Or_int_0 fu
  | i + 1, hi => absurd hi (by omega)
def S_cmp_Or_int (fu : Nat) (xs : List (D RT den)) : Option (Out RT den) := match xs with | [.rs za0_0 .i64 na0_0 fa0_0] => some ⟨Int, F_cmp_Or_int fu (⟨za0_0, na0_0, fa0_0⟩ : (Sl Int)), enc_i64, fun _ => true⟩ | _ => none
theorem hpc_cmp_Or_int (fu : Nat) : ∀ f xs o, pc_cmp_Or_int fu f xs = some o → ∀ y, o.x = some y → Good E Try.prog f xs (o.g y) := by
  intro f xs o h
  cases h
theorem goodv_cmp_Or_int (fu : Nat) (vals_0 : (Sl Int)) (y : Int) (hy : F_cmp_Or_int fu vals_0 = some y) : Good E Try.prog 141 [(.rs vals_0.z .i64 vals_0.n vals_0.f)] (enc_i64 y) :=
  fun_good E_ok (pc_good (hpc_cmp_Or_int fu)) (fn := Try.f141) (c := body_cmp_Or_int) (out := out_i64) (y := y) (by kernel_rfl) (by kernel_rfl) (by kernel_rfl) (lpok_cmp_Or_int fu) (fun d hd => out_i64_enc d _ hd) ((ev_cmp_Or_int fu vals_0).trans hy)
theorem good_cmp_Or_int (fu : Nat) : ∀ xs o, S_cmp_Or_int fu xs = some o → ∀ y, o.x = some y → Good E Try.prog 141 xs (o.g y) := by
  intro xs o h y hy
  unfold S_cmp_Or_int at h
  split at h
  · rename_i za0_0 na0_0 fa0_0
    cases h
    exact goodv_cmp_Or_int fu (⟨za0_0, na0_0, fa0_0⟩ : (Sl Int)) y hy
  · cases h

/-! impl.compareVip -/
def F_impl_compareVip (fu : Nat) (a_0 : S_impl_Vip) (b_1 : S_impl_Vip) : Option (Int) :=
  ((F_cmp_Compare_int64 fu a_0.Address b_1.Address).bind fun y121 => ((F_cmp_Compare_int64 fu a_0.Port b_1.Port).bind fun y122 => ((F_cmp_Compare_int64 fu a_0.Proto b_1.Proto).bind fun y123 =>
    ((F_cmp_Or_int fu (⟨(some false), 3, (fun i => [y121, y122, y123].getD i (dflt .i64))⟩ : (Sl Int))).bind fun y124 => (some y124)))))
def pc_impl_compareVip (fu : Nat) : Pc RT den := fun f xs => match f with | 108 => S_cmp_Compare_int64 fu xs | 141 => S_cmp_Or_int fu xs | _ => none
def msk_impl_compareVip (b : Nat) : List Nat := []
def lp_impl_compareVip (fu : Nat) : Lp RT den (Int) := fun b s k => none
theorem ev_impl_compareVip (fu : Nat) (a_0 : S_impl_Vip) (b_1 : S_impl_Vip) : evFun E (pc_impl_compareVip fu) msk_impl_compareVip (lp_impl_compareVip fu) out_i64 103 [(.agg [(.int .i64 a_0.Address), (.int .i64 a_0.Port), (.int .i64 a_0.Proto), (.rs a_0.Names.z .i64 a_0.Names.n a_0.Names.f)]), (.agg [(.int .i64 b_1.Address), (.int .i64 b_1.Port), (.int .i64 b_1.Proto), (.rs b_1.Names.z .i64 b_1.Names.n b_1.Names.f)])] = F_impl_compareVip fu a_0 b_1 := by kernel_rfl
noncomputable def body_impl_compareVip : Code := Try.f103.body.getD .skip
theorem lpok_impl_compareVip (fu : Nat) : LpOk E (pc_impl_compareVip fu) msk_impl_compareVip (lp_impl_compareVip fu) (loops 0 body_impl_compareVip) := by
  have h : loops 0 body_impl_compareVip = [] := by kernel_rfl
  rw [h]; intro p hp; cases hp
def S_impl_compareVip (fu : Nat) (xs : List (D RT den)) : Option (Out RT den) := match xs with | [.agg [.int .i64 a0_1, .int .i64 a0_2, .int .i64 a0_3, .rs za0_4 .i64 na0_4 fa0_4], .agg [.int .i64 a1_1, .int .i64 a1_2, .int .i64 a1_3, .rs za1_4 .i64 na1_4 fa1_4]] => some ⟨Int, F_impl_compareVip fu (⟨a0_1, a0_2, a0_3, (⟨za0_4, na0_4, fa0_4⟩ : (Sl Int))⟩ : S_impl_Vip) (⟨a1_1, a1_2, a1_3, (⟨za1_4, na1_4, fa1_4⟩ : (Sl Int))⟩ : S_impl_Vip), enc_i64, fun _ => true⟩ | _ => none
theorem hpc_impl_compareVip (fu : Nat) : ∀ f xs o, pc_impl_compareVip fu f xs = some o → ∀ y, o.x = some y → Good E Try.prog f xs (o.g y) := by
  intro f xs o h
  unfold pc_impl_compareVip at h
  split at h
  · exact good_cmp_Compare_int64 fu xs o h
  · exact good_cmp_Or_int fu xs o h
  · cases h
theorem goodv_impl_compareVip (fu : Nat) (a_0 : S_impl_Vip) (b_1 : S_impl_Vip) (y : Int) (hy : F_impl_compareVip fu a_0 b_1 = some y) : Good E Try.prog 103 [(.agg [(.int .i64 a_0.Address), (.int .i64 a_0.Port), (.int .i64 a_0.Proto), (.rs a_0.Names.z .i64 a_0.Names.n a_0.Names.f)]), (.agg [(.int .i64 b_1.Address), (.int .i64 b_1.Port), (.int .i64 b_1.Proto), (.rs b_1.Names.z .i64 b_1.Names.n b_1.Names.f)])] (enc_i64 y) :=
  fun_good E_ok (pc_good (hpc_impl_compareVip fu)) (fn := Try.f103) (c := body_impl_compareVip) (out := out_i64) (y := y) (by kernel_rfl) (by kernel_rfl) (by kernel_rfl) (lpok_impl_compareVip fu) (fun d hd => out_i64_enc d _ hd) ((ev_impl_compareVip fu a_0 b_1).trans hy)
theorem good_impl_compareVip (fu : Nat) : ∀ xs o, S_impl_compareVip fu xs = some o → ∀ y, o.x = some y → Good E Try.prog 103 xs (o.g y) := by
  intro xs o h y hy
  unfold S_impl_compareVip at h
  split at h
  · rename_i a0_1 a0_2 a0_3 za0_4 na0_4 fa0_4 a1_1 a1_2 a1_3 za1_4 na1_4 fa1_4
    cases h
    exact goodv_impl_compareVip fu (⟨a0_1, a0_2, a0_3, (⟨za0_4, na0_4, fa0_4⟩ : (Sl Int))⟩ : S_impl_Vip) (⟨a1_1, a1_2, a1_3, (⟨za1_4, na1_4, fa1_4⟩ : (Sl Int))⟩ : S_impl_Vip) y hy
  · cases h

/-! (*impl.Config).backend'1 -/
def F_impl_Config_backend_c1 (fu : Nat) (b_0 : S_impl_Backend) (x_1_1 : Int) : Option (Bool) :=
  (some (b_0.Name == x_1_1))
def pc_impl_Config_backend_c1 (fu : Nat) : Pc RT den := fun f xs => none
def msk_impl_Config_backend_c1 (b : Nat) : List Nat := []
def lp_impl_Config_backend_c1 (fu : Nat) : Lp RT den (Bool) := fun b s k => none
theorem ev_impl_Config_backend_c1 (fu : Nat) (b_0 : S_impl_Backend) (x_1_1 : Int) : evFun E (pc_impl_Config_backend_c1 fu) msk_impl_Config_backend_c1 (lp_impl_Config_backend_c1 fu) out_bo 140 [(.agg [(.int .i64 b_0.Name), (.int .i64 b_0.Address), (.int .i64 b_0.Weight), (.int .i64 b_0.Stage), (.bool b_0.Up)]), (.rptr [(.int .i64 x_1_1)])] = F_impl_Config_backend_c1 fu b_0 x_1_1 := by kernel_rfl
noncomputable def body_impl_Config_backend_c1 : Code := Try.f140.body.getD .skip
theorem lpok_impl_Config_backend_c1 (fu : Nat) : LpOk E (pc_impl_Config_backend_c1 fu) msk_impl_Config_backend_c1 (lp_impl_Config_backend_c1 fu) (loops 0 body_impl_Config_backend_c1) := by
  have h : loops 0 body_impl_Config_backend_c1 = [] := by kernel_rfl
  rw [h]; intro p hp; cases hp
def S_impl_Config_backend_c1 (fu : Nat) (xs : List (D RT den)) : Option (Out RT den) := match xs with | [.agg [.int .i64 a0_1, .int .i64 a0_2, .int .i64 a0_3, .int .i64 a0_4, .bool a0_5], .rptr [.int .i64 a1_0]] => some ⟨Bool, F_impl_Config_backend_c1 fu (⟨a0_1, a0_2, a0_3, a0_4, a0_5⟩ : S_impl_Backend) a1_0, enc_bo, fun _ => true⟩ | _ => none
theorem hpc_impl_Config_backend_c1 (fu : Nat) : ∀ f xs o, pc_impl_Config_backend_c1 fu f xs = some o → ∀ y, o.x = some y → Good E Try.prog f xs (o.g y) := by
  intro f xs o h
  cases h
theorem goodv_impl_Config_backend_c1 (fu : Nat) (b_0 : S_impl_Backend) (x_1_1 : Int) (y : Bool) (hy : F_impl_Config_backend_c1 fu b_0 x_1_1 = some y) : Good E Try.prog 140 [(.agg [(.int .i64 b_0.Name), (.int .i64 b_0.Address), (.int .i64 b_0.Weight), (.int .i64 b_0.Stage), (.bool b_0.Up)]), (.rptr [(.int .i64 x_1_1)])] (enc_bo y) :=
  fun_good E_ok (pc_good (hpc_impl_Config_backend_c1 fu)) (fn := Try.f140) (c := body_impl_Config_backend_c1) (out := out_bo) (y := y) (by kernel_rfl) (by kernel_rfl) (by kernel_rfl) (lpok_impl_Config_backend_c1 fu) (fun d hd => out_bo_enc d _ hd) ((ev_impl_Config_backend_c1 fu b_0 x_1_1).trans hy)
theorem good_impl_Config_backend_c1 (fu : Nat) : ∀ xs o, S_impl_Config_backend_c1 fu xs = some o → ∀ y, o.x = some y → Good E Try.prog 140 xs (o.g y) := by
  intro xs o h y hy
  unfold S_impl_Config_backend_c1 at h
  split at h
  · rename_i a0_1 a0_2 a0_3 a0_4 a0_5 a1_0
    cases h
    exact goodv_impl_Config_backend_c1 fu (⟨a0_1, a0_2, a0_3, a0_4, a0_5⟩ : S_impl_Backend) a1_0 y hy
  · cases h

/-! slices.IndexFunc[[]impl.Backend,impl.Backend] -/
def F_slices_IndexFunc_impl_Backend_impl_Backend_w_impl_Config_backend_c1_B0 {ρ : Type} (fu : Nat) (s0_0 : (Sl S_impl_Backend)) (f1_1 : Int) (t7_2 : Int) (k0 : Int → Option ρ) (k1 : Option ρ) (t8_3 : Int) (go : Int → Option ρ) : Option ρ :=
  (bif (decide (t8_3 < t7_2)) then ((bif (decide (0 ≤ t8_3) && decide ((Int.toNat t8_3) < s0_0.n)) then some () else none : Option Unit).bind fun _ => ((F_impl_Config_backend_c1 fu (s0_0.f (Int.toNat t8_3)) f1_1).bind fun y133 =>
    (bif y133 then (k0 t8_3) else (go (IntKind.wrap .i64 (t8_3 + 1)))))) else k1)
def F_slices_IndexFunc_impl_Backend_impl_Backend_w_impl_Config_backend_c1 (fu : Nat) (s_0 : (Sl S_impl_Backend)) (f_1_1 : Int) : Option (Int) :=
  (L (fun w0 go0 => F_slices_IndexFunc_impl_Backend_impl_Backend_w_impl_Config_backend_c1_B0 fu s_0 f_1_1 ((s_0.n : Nat) : Int) (fun z134 => (some z134)) (some (-1)) w0 go0) fu (0 : Int))
def pc_slices_IndexFunc_impl_Backend_impl_Backend_w_impl_Config_backend_c1 (fu : Nat) : Pc RT den := fun f xs => match f with | 140 => S_impl_Config_backend_c1 fu xs | _ => none
def msk_slices_IndexFunc_impl_Backend_impl_Backend_w_impl_Config_backend_c1 (b : Nat) : List Nat := match b with | 0 => [2, 3, 4, 5, 6, 9, 10, 11, 12, 13, 14, 15, 16, 17, 18] | 100000 => [0, 1, 2, 3, 5, 6, 7, 8, 9, 10, 11, 12, 13, 14, 15, 16, 17, 18] | _ => []
def ps_slices_IndexFunc_impl_Backend_impl_Backend_w_impl_Config_backend_c1_0 : List (Pat RT) := [.flat (.rs .impl_Backend), .fn 140 [.rptr [(.int .i64)]], .flat .dead, .flat .dead, .flat .dead, .flat .dead, .flat .dead, .flat (.int .i64), .flat (.int .i64), .flat .dead, .flat .dead, .flat .dead, .flat .dead, .flat .dead, .flat .dead, .flat .dead, .flat .dead, .flat .dead, .flat .dead]
def os_slices_IndexFunc_impl_Backend_impl_Backend_w_impl_Config_backend_c1_0 : List (OP RT) := []
def conv_slices_IndexFunc_impl_Backend_impl_Backend_w_impl_Config_backend_c1_0 (r : Raw den ps_slices_IndexFunc_impl_Backend_impl_Backend_w_impl_Config_backend_c1_0 os_slices_IndexFunc_impl_Backend_impl_Backend_w_impl_Config_backend_c1_0) : ((Sl S_impl_Backend) × Int × Int) × (Int) := ((r.1.1, r.1.2.1.1.1, r.1.2.2.2.2.2.2.2.1), r.1.2.2.2.2.2.2.2.2.1)
def back_slices_IndexFunc_impl_Backend_impl_Backend_w_impl_Config_backend_c1_0 (c : (Sl S_impl_Backend) × Int × Int) (w : Int) : St RT den := ⟨[(.rs c.1.z .impl_Backend c.1.n c.1.f), (.fn 140 [(.rptr [(.int .i64 c.2.1)])]), .dead, .dead, .dead, .dead, .dead, (.int .i64 c.2.2), (.int .i64 w), .dead, .dead, .dead, .dead, .dead, .dead, .dead, .dead, .dead, .dead], []⟩
def Bk_slices_IndexFunc_impl_Backend_impl_Backend_w_impl_Config_backend_c1_0 {ρ : Type} (fu : Nat) (c : (Sl S_impl_Backend) × Int × Int) (k : Ex → St RT den → Option ρ) (w : Int) (go : (Int) → Option ρ) : Option ρ := F_slices_IndexFunc_impl_Backend_impl_Backend_w_impl_Config_backend_c1_B0 fu c.1 c.2.1 c.2.2 (fun a0 => k .ret ⟨[.dead, .dead, .dead, .dead, (.int .i64 a0), .dead, .dead, .dead, .dead, .dead, .dead, .dead, .dead, .dead, .dead, .dead, .dead, .dead, .dead], []⟩) (k (.exit 0) ⟨[.dead, .dead, .dead, .dead, .dead, .dead, .dead, .dead, .dead, .dead, .dead, .dead, .dead, .dead, .dead, .dead, .dead, .dead, .dead], []⟩) w go
def lp_slices_IndexFunc_impl_Backend_impl_Backend_w_impl_Config_backend_c1 (fu : Nat) : Lp RT den (Int) := fun b s k => match b with | 0 => handle ps_slices_IndexFunc_impl_Backend_impl_Backend_w_impl_Config_backend_c1_0 os_slices_IndexFunc_impl_Backend_impl_Backend_w_impl_Config_backend_c1_0 conv_slices_IndexFunc_impl_Backend_impl_Backend_w_impl_Config_backend_c1_0 (Bk_slices_IndexFunc_impl_Backend_impl_Backend_w_impl_Config_backend_c1_0 fu) fu s k | _ => none
theorem ev_slices_IndexFunc_impl_Backend_impl_Backend_w_impl_Config_backend_c1 (fu : Nat) (s_0 : (Sl S_impl_Backend)) (f_1_1 : Int) : evFun E (pc_slices_IndexFunc_impl_Backend_impl_Backend_w_impl_Config_backend_c1 fu) msk_slices_IndexFunc_impl_Backend_impl_Backend_w_impl_Config_backend_c1 (lp_slices_IndexFunc_impl_Backend_impl_Backend_w_impl_Config_backend_c1 fu) out_i64 139 [(.rs s_0.z .impl_Backend s_0.n s_0.f), (.fn 140 [(.rptr [(.int .i64 f_1_1)])])] = F_slices_IndexFunc_impl_Backend_impl_Backend_w_impl_Config_backend_c1 fu s_0 f_1_1 := by kernel_rfl
noncomputable def body_slices_IndexFunc_impl_Backend_impl_Backend_w_impl_Config_backend_c1 : Code := Try.f139.body.getD .skip
noncomputable def lc_slices_IndexFunc_impl_Backend_impl_Backend_w_impl_Config_backend_c1_0 : Code := ((loops 0 body_slices_IndexFunc_impl_Backend_impl_Backend_w_impl_Config_backend_c1).getD 0 (0, .skip)).2
theorem round_slices_IndexFunc_impl_Backend_impl_Backend_w_impl_Config_backend_c1_0 (fu : Nat) (it : St RT den → Option (Int)) (k : Ex → St RT den → Option (Int)) c w : evCode E (pc_slices_IndexFunc_impl_Backend_impl_Backend_w_impl_Config_backend_c1 fu) msk_slices_IndexFunc_impl_Backend_impl_Backend_w_impl_Config_backend_c1 (lp_slices_IndexFunc_impl_Backend_impl_Backend_w_impl_Config_backend_c1 fu) 0 lc_slices_IndexFunc_impl_Backend_impl_Backend_w_impl_Config_backend_c1_0 (back_slices_IndexFunc_impl_Backend_impl_Backend_w_impl_Config_backend_c1_0 c w) (after (msk_slices_IndexFunc_impl_Backend_impl_Backend_w_impl_Config_backend_c1 0) (msk_slices_IndexFunc_impl_Backend_impl_Backend_w_impl_Config_backend_c1 100000) 0 it k) = Bk_slices_IndexFunc_impl_Backend_impl_Backend_w_impl_Config_backend_c1_0 fu c k w (fun w => it (back_slices_IndexFunc_impl_Backend_impl_Backend_w_impl_Config_backend_c1_0 c w)) := by kernel_rfl
theorem lpok_slices_IndexFunc_impl_Backend_impl_Backend_w_impl_Config_backend_c1_0 (fu : Nat) : ∀ s k r, lp_slices_IndexFunc_impl_Backend_impl_Backend_w_impl_Config_backend_c1 fu 0 s k = some r → ∃ fuel, iter (msk_slices_IndexFunc_impl_Backend_impl_Backend_w_impl_Config_backend_c1 0) (msk_slices_IndexFunc_impl_Backend_impl_Backend_w_impl_Config_backend_c1 100000) s.objs.length (evCode E (pc_slices_IndexFunc_impl_Backend_impl_Backend_w_impl_Config_backend_c1 fu) msk_slices_IndexFunc_impl_Backend_impl_Backend_w_impl_Config_backend_c1 (lp_slices_IndexFunc_impl_Backend_impl_Backend_w_impl_Config_backend_c1 fu) 0 lc_slices_IndexFunc_impl_Backend_impl_Backend_w_impl_Config_backend_c1_0) fuel s k = some r :=
  handle_ok (ps := ps_slices_IndexFunc_impl_Backend_impl_Backend_w_impl_Config_backend_c1_0) (os := os_slices_IndexFunc_impl_Backend_impl_Backend_w_impl_Config_backend_c1_0) (conv := conv_slices_IndexFunc_impl_Backend_impl_Backend_w_impl_Config_backend_c1_0) (B := Bk_slices_IndexFunc_impl_Backend_impl_Backend_w_impl_Config_backend_c1_0 fu) (fu := fu) back_slices_IndexFunc_impl_Backend_impl_Backend_w_impl_Config_backend_c1_0 (fun raw => by kernel_rfl) 0 (fun c w => by kernel_rfl) (round_slices_IndexFunc_impl_Backend_impl_Backend_w_impl_Config_backend_c1_0 fu)
theorem lpok_slices_IndexFunc_impl_Backend_impl_Backend_w_impl_Config_backend_c1 (fu : Nat) : LpOk E (pc_slices_IndexFunc_impl_Backend_impl_Backend_w_impl_Config_backend_c1 fu) msk_slices_IndexFunc_impl_Backend_impl_Backend_w_impl_Config_backend_c1 (lp_slices_IndexFunc_impl_Backend_impl_Backend_w_impl_Config_backend_c1 fu) (loops 0 body_slices_IndexFunc_impl_Backend_impl_Backend_w_impl_Config_backend_c1) := loop_all 1 (by kernel_rfl) fun i hi => match i, hi with
  | 0, _ => by
    have h : (loops 0 body_slices_IndexFunc_impl_Backend_impl_Backend_w_impl_Config_backend_c1).getD 0 (0, .skip) = (0, lc_slices_IndexFunc_impl_Backend_impl_Backend_w_impl_Config_backend_c1_0) := by kernel_rfl
    rw [h]; exact lpok_slices_IndexFunc_impl_Backend_impl_Backend_w_impl_Config_backend_c1_0 fu
  | i + 1, hi => absurd hi (by omega)
def S_slices_IndexFunc_impl_Backend_impl_Backend_w_impl_Config_backend_c1 (fu : Nat) (xs : List (D RT den)) : Option (Out RT den) := match xs with | [.rs za0_0 .impl_Backend na0_0 fa0_0, .fn 140 [.rptr [.int .i64 a1_0]]] => some ⟨Int, F_slices_IndexFunc_impl_Backend_impl_Backend_w_impl_Config_backend_c1 fu (⟨za0_0, na0_0, fa0_0⟩ : (Sl S_impl_Backend)) a1_0, enc_i64, fun _ => true⟩ | _ => none
theorem hpc_slices_IndexFunc_impl_Backend_impl_Backend_w_impl_Config_backend_c1 (fu : Nat) : ∀ f xs o, pc_slices_IndexFunc_impl_Backend_impl_Backend_w_impl_Config_backend_c1 fu f xs = some o → ∀ y, o.x = some y → Good E Try.prog f xs (o.g y) := by
  intro f xs o h
  unfold pc_slices_IndexFunc_impl_Backend_impl_Backend_w_impl_Config_backend_c1 at h
  split at h
  · exact good_impl_Config_backend_c1 fu xs o h
  · cases h
theorem goodv_slices_IndexFunc_impl_Backend_impl_Backend_w_impl_Config_backend_c1 (fu : Nat) (s_0 : (Sl S_impl_Backend)) (f_1_1 : Int) (y : Int) (hy : F_slices_IndexFunc_impl_Backend_impl_Backend_w_impl_Config_backend_c1 fu s_0 f_1_1 = some y) : Good E Try.prog 139 [(.rs s_0.z .impl_Backend s_0.n s_0.f), (.fn 140 [(.rptr [(.int .i64 f_1_1)])])] (enc_i64 y) :=
  fun_good E_ok (pc_good (hpc_slices_IndexFunc_impl_Backend_impl_Backend_w_impl_Config_backend_c1 fu)) (fn := Try.f139) (c := body_slices_IndexFunc_impl_Backend_impl_Backend_w_impl_Config_backend_c1) (out := out_i64) (y := y) (by kernel_rfl) (by kernel_rfl) (by kernel_rfl) (lpok_slices_IndexFunc_impl_Backend_impl_Backend_w_impl_Config_backend_c1 fu) (fun d hd => out_i64_enc d _ hd) ((ev_slices_IndexFunc_impl_Backend_impl_Backend_w_impl_Config_backend_c1 fu s_0 f_1_1).trans hy)
theorem good_slices_IndexFunc_impl_Backend_impl_Backend_w_impl_Config_backend_c1 (fu : Nat) : ∀ xs o, S_slices_IndexFunc_impl_Backend_impl_Backend_w_impl_Config_backend_c1 fu xs = some o → ∀ y, o.x = some y → Good E Try.prog 139 xs (o.g y) := by
  intro xs o h y hy
  unfold S_slices_IndexFunc_impl_Backend_impl_Backend_w_impl_Config_backend_c1 at h
  split at h
  · rename_i za0_0 na0_0 fa0_0 a1_0
    cases h
    exact goodv_slices_IndexFunc_impl_Backend_impl_Backend_w_impl_Config_backend_c1 fu (⟨za0_0, na0_0, fa0_0⟩ : (Sl S_impl_Backend)) a1_0 y hy
  · cases h
end Go.Proofs.Ythbimpgiafhfoaa.Pc
