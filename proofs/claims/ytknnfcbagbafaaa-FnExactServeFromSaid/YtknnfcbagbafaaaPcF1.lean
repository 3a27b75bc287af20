/- The functions' evaluated forms, each a proved summary. Conditions: none. -/
import Derived.Test.YtknnfcbagbafaaaPcF0
namespace Go.Proofs.Ytknnfcbagbafaaa.Pc
open Go Go.RowKit Go.Proofs Vm
set_option linter.unusedVariables false
set_option linter.unusedSimpArgs false
set_option maxRecDepth 100000
/-! spec.l5Vip -/
def F_spec_l5Vip_B0 {ρ : Type} (fu : Nat) (c0_0 : Int) (c0_1 : (Sl S_impl_Backend)) (c0_2 : (Sl S_impl_Vip)) (o0_4 : Int) (o0_5 : Int) (o0_6 : Int) (o0_7 : (Sl Int)) (k0 : Option ρ) (k1 : Option ρ) (i6_3 : Int) (go : Int → Option ρ) : Option ρ :=
  (bif (decide (i6_3 < ((o0_7.n : Nat) : Int))) then ((bif (decide (0 ≤ i6_3) && decide ((Int.toNat i6_3) < o0_7.n)) then some () else none : Option Unit).bind fun _ =>
    ((F_spec_l5At fu (⟨c0_0, c0_1, c0_2⟩ : S_impl_Config) (o0_7.f (Int.toNat i6_3))).bind fun y64 => (bif (decide (y64 < 0)) then k0 else (go (IntKind.wrap .i64 (i6_3 + 1)))))) else
    k1)
def F_spec_l5Vip_B2 {ρ : Type} (fu : Nat) (o0_1 : Int) (o0_2 : Int) (o0_3 : Int) (o0_4 : (Sl Int)) (k0 : Option ρ) (k1 : Option ρ) (i7_0 : Int) (go : Int → Option ρ) : Option ρ :=
  (bif (decide (i7_0 < ((o0_4.n : Nat) : Int))) then ((bif (decide (0 ≤ i7_0) && decide ((Int.toNat i7_0) < o0_4.n)) then some () else none : Option Unit).bind fun _ => ((bif (decide (0 ≤ (IntKind.wrap .i64 (i7_0 - 1))) &&
    decide ((Int.toNat (IntKind.wrap .i64 (i7_0 - 1))) < o0_4.n)) then some () else none : Option Unit).bind fun _ => (bif (decide ((o0_4.f (Int.toNat i7_0)) ≤ (o0_4.f (Int.toNat (IntKind.wrap .i64 (i7_0 - 1)))))) then
    k0 else (go (IntKind.wrap .i64 (i7_0 + 1)))))) else k1)
def F_spec_l5Vip (fu : Nat) (c_0 : S_impl_Config) (at_1 : Int) : Option (Int) :=
  ((bif (decide (0 ≤ at_1) && decide ((Int.toNat at_1) < c_0.Vips.n)) then some () else none : Option Unit).bind fun _ => ((((F_spec_l2Address fu (c_0.Vips.f (Int.toNat at_1)).Address).bind fun y58 =>
    (bif (!y58) then (some true) else ((F_spec_l2Port fu (c_0.Vips.f (Int.toNat at_1)).Port).bind fun y59 => (bif (!y59) then (some true) else ((F_spec_l5Proto fu (c_0.Vips.f (Int.toNat at_1)).Proto).bind fun y60 =>
    (some (!y60))))))) : Option Bool).bind fun m61 => (bif m61 then (some 3) else (((bif (decide (at_1 > 0)) then ((bif (decide (0 ≤ (IntKind.wrap .i64 (at_1 - 1))) && decide ((Int.toNat (IntKind.wrap .i64 (at_1 - 1))) < c_0.Vips.n)) then
    some () else none : Option Unit).bind fun _ => ((F_spec_l5Behind fu (c_0.Vips.f (Int.toNat (IntKind.wrap .i64 (at_1 - 1)))) (c_0.Vips.f (Int.toNat at_1))).bind fun y62 => (some (!y62)))) else
    (some false)) : Option Bool).bind fun m63 => (bif m63 then (some 1) else (L (fun w0 go0 => F_spec_l5Vip_B0 fu c_0.Version c_0.Backends c_0.Vips ((c_0.Vips.f (Int.toNat at_1)).Address) ((c_0.Vips.f (Int.toNat at_1)).Port) ((c_0.Vips.f (Int.toNat at_1)).Proto) ((c_0.Vips.f (Int.toNat at_1)).Names) (some 4) (L (fun w2 go2 =>
    F_spec_l5Vip_B2 fu ((c_0.Vips.f (Int.toNat at_1)).Address) ((c_0.Vips.f (Int.toNat at_1)).Port) ((c_0.Vips.f (Int.toNat at_1)).Proto) ((c_0.Vips.f (Int.toNat at_1)).Names) (some 1) (some 0) w2 go2) fu (1 : Int)) w0 go0) fu (0 : Int)))))))
def pcf_a19 (fu : Nat) (f : Nat) (xs : List (D RT den)) : Option (Out RT den) := match f with | 106 => S_a13 fu xs | 108 => S_a16 fu xs | 119 => S_a15 fu xs | 120 => S_a17 fu xs | 121 => S_a18 fu xs | _ => none
def pc_a19 (fu : Nat) : Pc RT den := ⟨pcf_a19 fu, fun _ => false, fun _ => false, pcd0, pcx0⟩
def msk_a19 (b : Nat) : List Nat := match b with | 0 => [1, 2, 3, 4, 7, 8, 9, 10, 11, 12, 13, 14, 15, 16, 17, 18, 19, 20, 21, 22, 23, 24, 25, 26, 27, 28, 29, 30, 31, 32, 33, 34, 35, 36, 37, 38, 39, 40, 41, 42, 43, 44, 45, 46, 47, 48, 49, 50, 51, 52, 53, 54, 55, 56, 57, 58, 59, 60, 61, 62, 63, 64, 65, 66, 67, 68, 69, 70, 71, 72, 73, 74, 75, 76, 77, 78, 79] | 100000 => [0, 1, 2, 3, 6, 7, 8, 9, 10, 11, 12, 13, 14, 15, 16, 17, 18, 19, 20, 21, 22, 23, 24, 25, 26, 27, 28, 29, 30, 31, 32, 33, 34, 35, 36, 37, 38, 39, 40, 41, 42, 43, 44, 45, 46, 47, 48, 49, 50, 51, 52, 53, 54, 55, 56, 57, 58, 59, 60, 61, 62, 63, 64, 65, 66, 67, 68, 69, 70, 71, 72, 73, 74, 75, 76, 77, 78, 79] | 2 => [0, 1, 2, 3, 4, 6, 8, 9, 10, 11, 12, 13, 14, 15, 16, 17, 18, 19, 20, 21, 22, 23, 24, 25, 26, 27, 28, 29, 30, 31, 32, 33, 34, 35, 36, 37, 38, 39, 40, 41, 42, 43, 44, 45, 46, 47, 48, 49, 50, 51, 52, 53, 54, 55, 56, 57, 58, 59, 60, 61, 62, 63, 64, 65, 66, 67, 68, 69, 70, 71, 72, 73, 74, 75, 76, 77, 78, 79] | 100002 => [0, 1, 2, 3, 5, 6, 7, 8, 9, 10, 11, 12, 13, 14, 15, 16, 17, 18, 19, 20, 21, 22, 23, 24, 25, 26, 27, 28, 29, 30, 31, 32, 33, 34, 35, 36, 37, 38, 39, 40, 41, 42, 43, 44, 45, 46, 47, 48, 49, 50, 51, 52, 53, 54, 55, 56, 57, 58, 59, 60, 61, 62, 63, 64, 65, 66, 67, 68, 69, 70, 71, 72, 73, 74, 75, 76, 77, 78, 79] | 200002 => [30] | 200004 => [45] | _ => []
def ps_a19_0 : List (Pat RT) := [.rptr [(.int .i64), (.rs .impl_Backend), (.rs .impl_Vip)], .flat .q, .flat .q, .flat .q, .flat .q, .flat (.ref 0 0), .flat (.int .i64), .flat .q, .flat .q, .flat .q, .flat .q, .flat .q, .flat .q, .flat .q, .flat .q, .flat .q, .flat .q, .flat .q, .flat .q, .flat .q, .flat .q, .flat .q, .flat .q, .flat .q, .flat .q, .flat .q, .flat .q, .flat .q, .flat .q, .flat .q, .flat .q, .flat .q, .flat .q, .flat .q, .flat .q, .flat .q, .flat .q, .flat .q, .flat .q, .flat .q, .flat .q, .flat .q, .flat .q, .flat .q, .flat .q, .flat .q, .flat .q, .flat .q, .flat .q, .flat .q, .flat .q, .flat .q, .flat .q, .flat .q, .flat .q, .flat .q, .flat .q, .flat .q, .flat .q, .flat .q, .flat .q, .flat .q, .flat .q, .flat .q, .flat .q, .flat .q, .flat .q, .flat .q, .flat .q, .flat .q, .flat .q, .flat .q, .flat .q, .flat .q, .flat .q, .flat .q, .flat .q, .flat .q, .flat .q, .flat .q]
def os_a19_0 : List (OP RT) := [.box false [(.int .i64), (.int .i64), (.int .i64), (.rs .i64)]]
def conv_a19_0 (r : Raw den ps_a19_0 os_a19_0) : (Int × (Sl S_impl_Backend) × (Sl S_impl_Vip) × Int × Int × Int × (Sl Int)) × (Int) := ((r.1.1.1, r.1.1.2.1, r.1.1.2.2.1, r.2.1.1, r.2.1.2.1, r.2.1.2.2.1, r.2.1.2.2.2.1), r.1.2.2.2.2.2.2.1)
def back_a19_0 (c : Int × (Sl S_impl_Backend) × (Sl S_impl_Vip) × Int × Int × Int × (Sl Int)) (w : Int) : St RT den := ⟨[(.rptr [(.int .i64 c.1), (.rs c.2.1.z .impl_Backend c.2.1.n c.2.1.f), (.rs c.2.2.1.z .impl_Vip c.2.2.1.n c.2.2.1.f)]), .q, .q, .q, .q, (.ref 0 0), (.int .i64 w), .q, .q, .q, .q, .q, .q, .q, .q, .q, .q, .q, .q, .q, .q, .q, .q, .q, .q, .q, .q, .q, .q, .q, .q, .q, .q, .q, .q, .q, .q, .q, .q, .q, .q, .q, .q, .q, .q, .q, .q, .q, .q, .q, .q, .q, .q, .q, .q, .q, .q, .q, .q, .q, .q, .q, .q, .q, .q, .q, .q, .q, .q, .q, .q, .q, .q, .q, .q, .q, .q, .q, .q, .q], [(.box false [(.int .i64 c.2.2.2.1), (.int .i64 c.2.2.2.2.1), (.int .i64 c.2.2.2.2.2.1), (.rs c.2.2.2.2.2.2.z .i64 c.2.2.2.2.2.2.n c.2.2.2.2.2.2.f)])]⟩
def Bk_a19_0 {ρ : Type} (fu : Nat) (c : Int × (Sl S_impl_Backend) × (Sl S_impl_Vip) × Int × Int × Int × (Sl Int)) (k : Ex → St RT den → Option ρ) (w : Int) (go : (Int) → Option ρ) : Option ρ := F_spec_l5Vip_B0 fu c.1 c.2.1 c.2.2.1 c.2.2.2.1 c.2.2.2.2.1 c.2.2.2.2.2.1 c.2.2.2.2.2.2 (k .ret ⟨[.q, .q, .q, .q, (.int .i64 4), (.ref 0 0), .q, .q, .q, .q, .q, .q, .q, .q, .q, .q, .q, .q, .q, .q, .q, .q, .q, .q, .q, .q, .q, .q, .q, .q, .q, .q, .q, .q, .q, .q, .q, .q, .q, .q, .q, .q, .q, .q, .q, .q, .q, .q, .q, .q, .q, .q, .q, .q, .q, .q, .q, .q, .q, .q, .q, .q, .q, .q, .q, .q, .q, .q, .q, .q, .q, .q, .q, .q, .q, .q, .q, .q, .q, .q], [(.box false [(.int .i64 c.2.2.2.1), (.int .i64 c.2.2.2.2.1), (.int .i64 c.2.2.2.2.2.1), (.rs c.2.2.2.2.2.2.z .i64 c.2.2.2.2.2.2.n c.2.2.2.2.2.2.f)])]⟩) (k (.exit 0) ⟨[.q, .q, .q, .q, .q, (.ref 0 0), .q, .q, .q, .q, .q, .q, .q, .q, .q, .q, .q, .q, .q, .q, .q, .q, .q, .q, .q, .q, .q, .q, .q, .q, .q, .q, .q, .q, .q, .q, .q, .q, .q, .q, .q, .q, .q, .q, .q, .q, .q, .q, .q, .q, .q, .q, .q, .q, .q, .q, .q, .q, .q, .q, .q, .q, .q, .q, .q, .q, .q, .q, .q, .q, .q, .q, .q, .q, .q, .q, .q, .q, .q, .q], [(.box false [(.int .i64 c.2.2.2.1), (.int .i64 c.2.2.2.2.1), (.int .i64 c.2.2.2.2.2.1), (.rs c.2.2.2.2.2.2.z .i64 c.2.2.2.2.2.2.n c.2.2.2.2.2.2.f)])]⟩) w go
def ps_a19_2 : List (Pat RT) := [.flat .q, .flat .q, .flat .q, .flat .q, .flat .q, .flat (.ref 0 0), .flat .q, .flat (.int .i64), .flat .q, .flat .q, .flat .q, .flat .q, .flat .q, .flat .q, .flat .q, .flat .q, .flat .q, .flat .q, .flat .q, .flat .q, .flat .q, .flat .q, .flat .q, .flat .q, .flat .q, .flat .q, .flat .q, .flat .q, .flat .q, .flat .q, .flat .q, .flat .q, .flat .q, .flat .q, .flat .q, .flat .q, .flat .q, .flat .q, .flat .q, .flat .q, .flat .q, .flat .q, .flat .q, .flat .q, .flat .q, .flat .q, .flat .q, .flat .q, .flat .q, .flat .q, .flat .q, .flat .q, .flat .q, .flat .q, .flat .q, .flat .q, .flat .q, .flat .q, .flat .q, .flat .q, .flat .q, .flat .q, .flat .q, .flat .q, .flat .q, .flat .q, .flat .q, .flat .q, .flat .q, .flat .q, .flat .q, .flat .q, .flat .q, .flat .q, .flat .q, .flat .q, .flat .q, .flat .q, .flat .q, .flat .q]
def os_a19_2 : List (OP RT) := [.box false [(.int .i64), (.int .i64), (.int .i64), (.rs .i64)]]
def conv_a19_2 (r : Raw den ps_a19_2 os_a19_2) : (Int × Int × Int × (Sl Int)) × (Int) := ((r.2.1.1, r.2.1.2.1, r.2.1.2.2.1, r.2.1.2.2.2.1), r.1.2.2.2.2.2.2.2.1)
def back_a19_2 (c : Int × Int × Int × (Sl Int)) (w : Int) : St RT den := ⟨[.q, .q, .q, .q, .q, (.ref 0 0), .q, (.int .i64 w), .q, .q, .q, .q, .q, .q, .q, .q, .q, .q, .q, .q, .q, .q, .q, .q, .q, .q, .q, .q, .q, .q, .q, .q, .q, .q, .q, .q, .q, .q, .q, .q, .q, .q, .q, .q, .q, .q, .q, .q, .q, .q, .q, .q, .q, .q, .q, .q, .q, .q, .q, .q, .q, .q, .q, .q, .q, .q, .q, .q, .q, .q, .q, .q, .q, .q, .q, .q, .q, .q, .q, .q], [(.box false [(.int .i64 c.1), (.int .i64 c.2.1), (.int .i64 c.2.2.1), (.rs c.2.2.2.z .i64 c.2.2.2.n c.2.2.2.f)])]⟩
def Bk_a19_2 {ρ : Type} (fu : Nat) (c : Int × Int × Int × (Sl Int)) (k : Ex → St RT den → Option ρ) (w : Int) (go : (Int) → Option ρ) : Option ρ := F_spec_l5Vip_B2 fu c.1 c.2.1 c.2.2.1 c.2.2.2 (k .ret ⟨[.q, .q, .q, .q, (.int .i64 1), .q, .q, .q, .q, .q, .q, .q, .q, .q, .q, .q, .q, .q, .q, .q, .q, .q, .q, .q, .q, .q, .q, .q, .q, .q, .q, .q, .q, .q, .q, .q, .q, .q, .q, .q, .q, .q, .q, .q, .q, .q, .q, .q, .q, .q, .q, .q, .q, .q, .q, .q, .q, .q, .q, .q, .q, .q, .q, .q, .q, .q, .q, .q, .q, .q, .q, .q, .q, .q, .q, .q, .q, .q, .q, .q], [(.box false [(.int .i64 c.1), (.int .i64 c.2.1), (.int .i64 c.2.2.1), (.rs c.2.2.2.z .i64 c.2.2.2.n c.2.2.2.f)])]⟩) (k (.exit 2) ⟨[.q, .q, .q, .q, .q, .q, .q, .q, .q, .q, .q, .q, .q, .q, .q, .q, .q, .q, .q, .q, .q, .q, .q, .q, .q, .q, .q, .q, .q, .q, .q, .q, .q, .q, .q, .q, .q, .q, .q, .q, .q, .q, .q, .q, .q, .q, .q, .q, .q, .q, .q, .q, .q, .q, .q, .q, .q, .q, .q, .q, .q, .q, .q, .q, .q, .q, .q, .q, .q, .q, .q, .q, .q, .q, .q, .q, .q, .q, .q, .q], [(.box false [(.int .i64 c.1), (.int .i64 c.2.1), (.int .i64 c.2.2.1), (.rs c.2.2.2.z .i64 c.2.2.2.n c.2.2.2.f)])]⟩) w go
def lp_a19 (fu : Nat) : Lp RT den (Int) := fun b s k => match b with | 0 => handle ps_a19_0 os_a19_0 conv_a19_0 (Bk_a19_0 fu) fu s k | 2 => handle ps_a19_2 os_a19_2 conv_a19_2 (Bk_a19_2 fu) fu s k | _ => none
theorem ev_a19 (fu : Nat) (c_0 : S_impl_Config) (at_1 : Int) : evFun E (pc_a19 fu) msk_a19 (lp_a19 fu) out_i64 82 [(.rptr [(.int .i64 c_0.Version), (.rs c_0.Backends.z .impl_Backend c_0.Backends.n c_0.Backends.f), (.rs c_0.Vips.z .impl_Vip c_0.Vips.n c_0.Vips.f)]), (.int .i64 at_1)] = F_spec_l5Vip fu c_0 at_1 := by kernel_rfl
noncomputable def body_a19 : Code := Try.f82.body.getD .skip
noncomputable def lc_a19_0 : Code := ((loops 0 body_a19).getD 0 (0, .skip)).2
theorem round_a19_0 (fu : Nat) (it : St RT den → Option (Int)) (k : Ex → St RT den → Option (Int)) c w : evCode E (pc_a19 fu) msk_a19 (lp_a19 fu) 0 lc_a19_0 (back_a19_0 c w) (after (msk_a19 0) (msk_a19 100000) 1 it k) = Bk_a19_0 fu c k w (fun w => it (back_a19_0 c w)) := by kernel_rfl
theorem lpok_a19_0 (fu : Nat) : ∀ s k r, lp_a19 fu 0 s k = some r → ∃ fuel, iter (msk_a19 0) (msk_a19 100000) s.objs.length (evCode E (pc_a19 fu) msk_a19 (lp_a19 fu) 0 lc_a19_0) fuel s k = some r :=
  handle_ok (ps := ps_a19_0) (os := os_a19_0) (conv := conv_a19_0) (B := Bk_a19_0 fu) (fu := fu) back_a19_0 (fun raw => by kernel_rfl) 1 (fun c w => by kernel_rfl) (round_a19_0 fu)
noncomputable def lc_a19_2 : Code := ((loops 0 body_a19).getD 1 (0, .skip)).2
theorem round_a19_2 (fu : Nat) (it : St RT den → Option (Int)) (k : Ex → St RT den → Option (Int)) c w : evCode E (pc_a19 fu) msk_a19 (lp_a19 fu) 2 lc_a19_2 (back_a19_2 c w) (after (msk_a19 2) (msk_a19 100002) 1 it k) = Bk_a19_2 fu c k w (fun w => it (back_a19_2 c w)) := by kernel_rfl
theorem lpok_a19_2 (fu : Nat) : ∀ s k r, lp_a19 fu 2 s k = some r → ∃ fuel, iter (msk_a19 2) (msk_a19 100002) s.objs.length (evCode E (pc_a19 fu) msk_a19 (lp_a19 fu) 2 lc_a19_2) fuel s k = some r :=
  handle_ok (ps := ps_a19_2) (os := os_a19_2) (conv := conv_a19_2) (B := Bk_a19_2 fu) (fu := fu) back_a19_2 (fun raw => by kernel_rfl) 1 (fun c w => by kernel_rfl) (round_a19_2 fu)
theorem lpok_a19 (fu : Nat) : LpOk E (pc_a19 fu) msk_a19 (lp_a19 fu) (loops 0 body_a19) := loop_all 2 (by kernel_rfl) fun i hi => match i, hi with
  | 0, _ => by
    have h : (loops 0 body_a19).getD 0 (0, .skip) = (0, lc_a19_0) := by kernel_rfl
    rw [h]; exact lpok_a19_0 fu
  | 1, _ => by
    have h : (loops 0 body_a19).getD 1 (0, .skip) = (2, lc_a19_2) := by kernel_rfl
    rw [h]; exact lpok_a19_2 fu
  | i + 2, hi => absurd hi (by omega)
def S_a19 (fu : Nat) (xs : List (D RT den)) : Option (Out RT den) := match xs with | [.rptr (.int .i64 a0_1 :: .rs za0_2 .impl_Backend na0_2 fa0_2 :: .rs za0_3 .impl_Vip na0_3 fa0_3 :: ra0), .int .i64 a1_0] => some ⟨Int, F_spec_l5Vip fu (⟨a0_1, (⟨za0_2, na0_2, fa0_2⟩ : (Sl S_impl_Backend)), (⟨za0_3, na0_3, fa0_3⟩ : (Sl S_impl_Vip))⟩ : S_impl_Config) a1_0, enc_i64, fun _ => true⟩ | _ => none
theorem hpc_a19 (fu : Nat) : ∀ f xs o, pcf_a19 fu f xs = some o → ∀ y, o.x = some y → Good E Try.prog f xs (o.g y) := by
  intro f xs o h
  unfold pcf_a19 at h
  split at h
  · exact good_a13 fu xs o h
  · exact good_a16 fu xs o h
  · exact good_a15 fu xs o h
  · exact good_a17 fu xs o h
  · exact good_a18 fu xs o h
  · cases h
theorem goodv_a19 (fu : Nat) (c_0 : S_impl_Config) (at_1 : Int) (y : Int) (hy : F_spec_l5Vip fu c_0 at_1 = some y) : Good E Try.prog 82 [(.rptr [(.int .i64 c_0.Version), (.rs c_0.Backends.z .impl_Backend c_0.Backends.n c_0.Backends.f), (.rs c_0.Vips.z .impl_Vip c_0.Vips.n c_0.Vips.f)]), (.int .i64 at_1)] (enc_i64 y) :=
  fun_good E_ok (pc_good (pc := pc_a19 fu) (hpc_a19 fu) hpx0) (fn := Try.f82) (c := body_a19) (out := out_i64) (y := y) (by kernel_rfl) (by kernel_rfl) (by kernel_rfl) (lpok_a19 fu) (fun d hd => out_i64_enc d _ hd) ((ev_a19 fu c_0 at_1).trans hy)
theorem good_a19 (fu : Nat) : ∀ xs o, S_a19 fu xs = some o → ∀ y, o.x = some y → Good E Try.prog 82 xs (o.g y) := by
  intro xs o h y hy
  unfold S_a19 at h
  split at h
  · rename_i a0_1 za0_2 na0_2 fa0_2 za0_3 na0_3 fa0_3 ra0 a1_0
    cases h
    exact (goodv_a19 fu (⟨a0_1, (⟨za0_2, na0_2, fa0_2⟩ : (Sl S_impl_Backend)), (⟨za0_3, na0_3, fa0_3⟩ : (Sl S_impl_Vip))⟩ : S_impl_Config) a1_0 y hy).sub ⟨Sub.of_eq ra0 rfl, .refl _, trivial⟩
  · cases h

/-! spec.l5Fault -/
def F_spec_l5Fault_B0 {ρ : Type} (fu : Nat) (c0_0 : Int) (c0_1 : (Sl S_impl_Backend)) (c0_2 : (Sl S_impl_Vip)) (k0 : Option ρ) (k1 : Option ρ) (k2 : Option ρ) (i3_3 : Int) (go : Int → Option ρ) : Option ρ :=
  (bif (decide (i3_3 < ((c0_1.n : Nat) : Int))) then ((bif (decide (0 ≤ i3_3) && decide ((Int.toNat i3_3) < c0_1.n)) then some () else none : Option Unit).bind fun _ =>
    ((F_spec_l5Backend fu (c0_1.f (Int.toNat i3_3))).bind fun y45 => (bif (!y45) then k0 else (((bif (decide (i3_3 > 0)) then ((bif (decide (0 ≤ i3_3) && decide ((Int.toNat i3_3) < c0_1.n)) then
    some () else none : Option Unit).bind fun _ => ((bif (decide (0 ≤ (IntKind.wrap .i64 (i3_3 - 1))) && decide ((Int.toNat (IntKind.wrap .i64 (i3_3 - 1))) < c0_1.n)) then some () else
    none : Option Unit).bind fun _ => (some (decide ((c0_1.f (Int.toNat i3_3)).Name ≤ (c0_1.f (Int.toNat (IntKind.wrap .i64 (i3_3 - 1)))).Name))))) else (some false)) : Option Bool).bind fun m46 =>
    (bif m46 then k1 else (go (IntKind.wrap .i64 (i3_3 + 1)))))))) else k2)
def F_spec_l5Fault_B2 {ρ : Type} (fu : Nat) (c0_0 : Int) (c0_1 : (Sl S_impl_Backend)) (c0_2 : (Sl S_impl_Vip)) (k0 : Int → Option ρ) (k1 : Option ρ) (i4_3 : Int) (go : Int → Option ρ) : Option ρ :=
  (bif (decide (i4_3 < ((c0_2.n : Nat) : Int))) then ((F_spec_l5Vip fu (⟨c0_0, c0_1, c0_2⟩ : S_impl_Config) i4_3).bind fun y47 => (bif (y47 != 0) then (k0 y47) else (go (IntKind.wrap .i64 (i4_3 + 1))))) else
    k1)
def F_spec_l5Fault (fu : Nat) (c_0 : S_impl_Config) : Option (Int) :=
  ((F_spec_l5Version fu c_0.Version).bind fun y43 => (bif (!y43) then (some 3) else (((bif (decide (((c_0.Backends.n : Nat) : Int) > 8)) then (some true) else (some (decide (((c_0.Vips.n : Nat) : Int) > 4)))) : Option Bool).bind fun m44 =>
    (bif m44 then (some 2) else (L (fun w0 go0 => F_spec_l5Fault_B0 fu c_0.Version c_0.Backends c_0.Vips (some 3) (some 1) (L (fun w2 go2 => F_spec_l5Fault_B2 fu c_0.Version c_0.Backends c_0.Vips (fun z48 =>
    (some z48)) (some 0) w2 go2) fu (0 : Int)) w0 go0) fu (0 : Int))))))
def pcf_a20 (fu : Nat) (f : Nat) (xs : List (D RT den)) : Option (Out RT den) := match f with | 80 => S_a11 fu xs | 81 => S_a14 fu xs | 82 => S_a19 fu xs | _ => none
def pc_a20 (fu : Nat) : Pc RT den := ⟨pcf_a20 fu, fun _ => false, fun _ => false, pcd0, pcx0⟩
def msk_a20 (b : Nat) : List Nat := match b with | 0 => [1, 2, 4, 5, 6, 7, 8, 9, 10, 11, 12, 13, 14, 15, 16, 17, 18, 19, 20, 21, 22, 23, 24, 25, 26, 27, 28, 29, 30, 31, 32, 33, 34, 35, 36, 37, 38, 39, 40, 41, 42, 43, 44, 45, 46, 47, 48, 49, 50, 51, 52, 53, 54, 55, 56, 57, 58, 59, 60, 61, 62, 63, 64, 65, 66, 67, 68, 69, 70, 71, 72, 73, 74, 75, 76, 77, 78, 79, 80] | 100000 => [1, 3, 4, 5, 6, 7, 8, 9, 10, 11, 12, 13, 14, 15, 16, 17, 18, 19, 20, 21, 22, 23, 24, 25, 26, 27, 28, 29, 30, 31, 32, 33, 34, 35, 36, 37, 38, 39, 40, 41, 42, 43, 44, 45, 46, 47, 48, 49, 50, 51, 52, 53, 54, 55, 56, 57, 58, 59, 60, 61, 62, 63, 64, 65, 66, 67, 68, 69, 70, 71, 72, 73, 74, 75, 76, 77, 78, 79, 80] | 2 => [1, 2, 3, 5, 6, 7, 8, 9, 10, 11, 12, 13, 14, 15, 16, 17, 18, 19, 20, 21, 22, 23, 24, 25, 26, 27, 28, 29, 30, 31, 32, 33, 34, 35, 36, 37, 38, 39, 40, 41, 42, 43, 44, 45, 46, 47, 48, 49, 50, 51, 52, 53, 54, 55, 56, 57, 58, 59, 60, 61, 62, 63, 64, 65, 66, 67, 68, 69, 70, 71, 72, 73, 74, 75, 76, 77, 78, 79, 80] | 100002 => [0, 1, 3, 4, 5, 6, 7, 8, 9, 10, 11, 12, 13, 14, 15, 16, 17, 18, 19, 20, 21, 22, 23, 24, 25, 26, 27, 28, 29, 30, 31, 32, 33, 34, 35, 36, 37, 38, 39, 40, 41, 42, 43, 44, 45, 46, 47, 48, 49, 50, 51, 52, 53, 54, 55, 56, 57, 58, 59, 60, 61, 62, 63, 64, 65, 66, 67, 68, 69, 70, 71, 72, 73, 74, 75, 76, 77, 78, 79, 80] | 200003 => [25] | 200010 => [65] | _ => []
def ps_a20_0 : List (Pat RT) := [.rptr [(.int .i64), (.rs .impl_Backend), (.rs .impl_Vip)], .flat .q, .flat .q, .flat (.int .i64), .flat .q, .flat .q, .flat .q, .flat .q, .flat .q, .flat .q, .flat .q, .flat .q, .flat .q, .flat .q, .flat .q, .flat .q, .flat .q, .flat .q, .flat .q, .flat .q, .flat .q, .flat .q, .flat .q, .flat .q, .flat .q, .flat .q, .flat .q, .flat .q, .flat .q, .flat .q, .flat .q, .flat .q, .flat .q, .flat .q, .flat .q, .flat .q, .flat .q, .flat .q, .flat .q, .flat .q, .flat .q, .flat .q, .flat .q, .flat .q, .flat .q, .flat .q, .flat .q, .flat .q, .flat .q, .flat .q, .flat .q, .flat .q, .flat .q, .flat .q, .flat .q, .flat .q, .flat .q, .flat .q, .flat .q, .flat .q, .flat .q, .flat .q, .flat .q, .flat .q, .flat .q, .flat .q, .flat .q, .flat .q, .flat .q, .flat .q, .flat .q, .flat .q, .flat .q, .flat .q, .flat .q, .flat .q, .flat .q, .flat .q, .flat .q, .flat .q, .flat .q]
def os_a20_0 : List (OP RT) := []
def conv_a20_0 (r : Raw den ps_a20_0 os_a20_0) : (Int × (Sl S_impl_Backend) × (Sl S_impl_Vip)) × (Int) := ((r.1.1.1, r.1.1.2.1, r.1.1.2.2.1), r.1.2.2.2.1)
def back_a20_0 (c : Int × (Sl S_impl_Backend) × (Sl S_impl_Vip)) (w : Int) : St RT den := ⟨[(.rptr [(.int .i64 c.1), (.rs c.2.1.z .impl_Backend c.2.1.n c.2.1.f), (.rs c.2.2.z .impl_Vip c.2.2.n c.2.2.f)]), .q, .q, (.int .i64 w), .q, .q, .q, .q, .q, .q, .q, .q, .q, .q, .q, .q, .q, .q, .q, .q, .q, .q, .q, .q, .q, .q, .q, .q, .q, .q, .q, .q, .q, .q, .q, .q, .q, .q, .q, .q, .q, .q, .q, .q, .q, .q, .q, .q, .q, .q, .q, .q, .q, .q, .q, .q, .q, .q, .q, .q, .q, .q, .q, .q, .q, .q, .q, .q, .q, .q, .q, .q, .q, .q, .q, .q, .q, .q, .q, .q, .q], []⟩
def Bk_a20_0 {ρ : Type} (fu : Nat) (c : Int × (Sl S_impl_Backend) × (Sl S_impl_Vip)) (k : Ex → St RT den → Option ρ) (w : Int) (go : (Int) → Option ρ) : Option ρ := F_spec_l5Fault_B0 fu c.1 c.2.1 c.2.2 (k .ret ⟨[(.rptr [(.int .i64 c.1), (.rs c.2.1.z .impl_Backend c.2.1.n c.2.1.f), (.rs c.2.2.z .impl_Vip c.2.2.n c.2.2.f)]), .q, (.int .i64 3), .q, .q, .q, .q, .q, .q, .q, .q, .q, .q, .q, .q, .q, .q, .q, .q, .q, .q, .q, .q, .q, .q, .q, .q, .q, .q, .q, .q, .q, .q, .q, .q, .q, .q, .q, .q, .q, .q, .q, .q, .q, .q, .q, .q, .q, .q, .q, .q, .q, .q, .q, .q, .q, .q, .q, .q, .q, .q, .q, .q, .q, .q, .q, .q, .q, .q, .q, .q, .q, .q, .q, .q, .q, .q, .q, .q, .q, .q], []⟩) (k .ret ⟨[(.rptr [(.int .i64 c.1), (.rs c.2.1.z .impl_Backend c.2.1.n c.2.1.f), (.rs c.2.2.z .impl_Vip c.2.2.n c.2.2.f)]), .q, (.int .i64 1), .q, .q, .q, .q, .q, .q, .q, .q, .q, .q, .q, .q, .q, .q, .q, .q, .q, .q, .q, .q, .q, .q, .q, .q, .q, .q, .q, .q, .q, .q, .q, .q, .q, .q, .q, .q, .q, .q, .q, .q, .q, .q, .q, .q, .q, .q, .q, .q, .q, .q, .q, .q, .q, .q, .q, .q, .q, .q, .q, .q, .q, .q, .q, .q, .q, .q, .q, .q, .q, .q, .q, .q, .q, .q, .q, .q, .q, .q], []⟩) (k (.exit 0) ⟨[(.rptr [(.int .i64 c.1), (.rs c.2.1.z .impl_Backend c.2.1.n c.2.1.f), (.rs c.2.2.z .impl_Vip c.2.2.n c.2.2.f)]), .q, .q, .q, .q, .q, .q, .q, .q, .q, .q, .q, .q, .q, .q, .q, .q, .q, .q, .q, .q, .q, .q, .q, .q, .q, .q, .q, .q, .q, .q, .q, .q, .q, .q, .q, .q, .q, .q, .q, .q, .q, .q, .q, .q, .q, .q, .q, .q, .q, .q, .q, .q, .q, .q, .q, .q, .q, .q, .q, .q, .q, .q, .q, .q, .q, .q, .q, .q, .q, .q, .q, .q, .q, .q, .q, .q, .q, .q, .q, .q], []⟩) w go
def ps_a20_2 : List (Pat RT) := [.rptr [(.int .i64), (.rs .impl_Backend), (.rs .impl_Vip)], .flat .q, .flat .q, .flat .q, .flat (.int .i64), .flat .q, .flat .q, .flat .q, .flat .q, .flat .q, .flat .q, .flat .q, .flat .q, .flat .q, .flat .q, .flat .q, .flat .q, .flat .q, .flat .q, .flat .q, .flat .q, .flat .q, .flat .q, .flat .q, .flat .q, .flat .q, .flat .q, .flat .q, .flat .q, .flat .q, .flat .q, .flat .q, .flat .q, .flat .q, .flat .q, .flat .q, .flat .q, .flat .q, .flat .q, .flat .q, .flat .q, .flat .q, .flat .q, .flat .q, .flat .q, .flat .q, .flat .q, .flat .q, .flat .q, .flat .q, .flat .q, .flat .q, .flat .q, .flat .q, .flat .q, .flat .q, .flat .q, .flat .q, .flat .q, .flat .q, .flat .q, .flat .q, .flat .q, .flat .q, .flat .q, .flat .q, .flat .q, .flat .q, .flat .q, .flat .q, .flat .q, .flat .q, .flat .q, .flat .q, .flat .q, .flat .q, .flat .q, .flat .q, .flat .q, .flat .q, .flat .q]
def os_a20_2 : List (OP RT) := []
def conv_a20_2 (r : Raw den ps_a20_2 os_a20_2) : (Int × (Sl S_impl_Backend) × (Sl S_impl_Vip)) × (Int) := ((r.1.1.1, r.1.1.2.1, r.1.1.2.2.1), r.1.2.2.2.2.1)
def back_a20_2 (c : Int × (Sl S_impl_Backend) × (Sl S_impl_Vip)) (w : Int) : St RT den := ⟨[(.rptr [(.int .i64 c.1), (.rs c.2.1.z .impl_Backend c.2.1.n c.2.1.f), (.rs c.2.2.z .impl_Vip c.2.2.n c.2.2.f)]), .q, .q, .q, (.int .i64 w), .q, .q, .q, .q, .q, .q, .q, .q, .q, .q, .q, .q, .q, .q, .q, .q, .q, .q, .q, .q, .q, .q, .q, .q, .q, .q, .q, .q, .q, .q, .q, .q, .q, .q, .q, .q, .q, .q, .q, .q, .q, .q, .q, .q, .q, .q, .q, .q, .q, .q, .q, .q, .q, .q, .q, .q, .q, .q, .q, .q, .q, .q, .q, .q, .q, .q, .q, .q, .q, .q, .q, .q, .q, .q, .q, .q], []⟩
def Bk_a20_2 {ρ : Type} (fu : Nat) (c : Int × (Sl S_impl_Backend) × (Sl S_impl_Vip)) (k : Ex → St RT den → Option ρ) (w : Int) (go : (Int) → Option ρ) : Option ρ := F_spec_l5Fault_B2 fu c.1 c.2.1 c.2.2 (fun a0 => k .ret ⟨[.q, .q, (.int .i64 a0), .q, .q, .q, .q, .q, .q, .q, .q, .q, .q, .q, .q, .q, .q, .q, .q, .q, .q, .q, .q, .q, .q, .q, .q, .q, .q, .q, .q, .q, .q, .q, .q, .q, .q, .q, .q, .q, .q, .q, .q, .q, .q, .q, .q, .q, .q, .q, .q, .q, .q, .q, .q, .q, .q, .q, .q, .q, .q, .q, .q, .q, .q, .q, .q, .q, .q, .q, .q, .q, .q, .q, .q, .q, .q, .q, .q, .q, .q], []⟩) (k (.exit 2) ⟨[.q, .q, .q, .q, .q, .q, .q, .q, .q, .q, .q, .q, .q, .q, .q, .q, .q, .q, .q, .q, .q, .q, .q, .q, .q, .q, .q, .q, .q, .q, .q, .q, .q, .q, .q, .q, .q, .q, .q, .q, .q, .q, .q, .q, .q, .q, .q, .q, .q, .q, .q, .q, .q, .q, .q, .q, .q, .q, .q, .q, .q, .q, .q, .q, .q, .q, .q, .q, .q, .q, .q, .q, .q, .q, .q, .q, .q, .q, .q, .q, .q], []⟩) w go
def lp_a20 (fu : Nat) : Lp RT den (Int) := fun b s k => match b with | 0 => handle ps_a20_0 os_a20_0 conv_a20_0 (Bk_a20_0 fu) fu s k | 2 => handle ps_a20_2 os_a20_2 conv_a20_2 (Bk_a20_2 fu) fu s k | _ => none
theorem ev_a20 (fu : Nat) (c_0 : S_impl_Config) : evFun E (pc_a20 fu) msk_a20 (lp_a20 fu) out_i64 40 [(.rptr [(.int .i64 c_0.Version), (.rs c_0.Backends.z .impl_Backend c_0.Backends.n c_0.Backends.f), (.rs c_0.Vips.z .impl_Vip c_0.Vips.n c_0.Vips.f)])] = F_spec_l5Fault fu c_0 := by kernel_rfl
noncomputable def body_a20 : Code := Try.f40.body.getD .skip
noncomputable def lc_a20_0 : Code := ((loops 0 body_a20).getD 0 (0, .skip)).2
theorem round_a20_0 (fu : Nat) (it : St RT den → Option (Int)) (k : Ex → St RT den → Option (Int)) c w : evCode E (pc_a20 fu) msk_a20 (lp_a20 fu) 0 lc_a20_0 (back_a20_0 c w) (after (msk_a20 0) (msk_a20 100000) 0 it k) = Bk_a20_0 fu c k w (fun w => it (back_a20_0 c w)) := by kernel_rfl
theorem lpok_a20_0 (fu : Nat) : ∀ s k r, lp_a20 fu 0 s k = some r → ∃ fuel, iter (msk_a20 0) (msk_a20 100000) s.objs.length (evCode E (pc_a20 fu) msk_a20 (lp_a20 fu) 0 lc_a20_0) fuel s k = some r :=
  handle_ok (ps := ps_a20_0) (os := os_a20_0) (conv := conv_a20_0) (B := Bk_a20_0 fu) (fu := fu) back_a20_0 (fun raw => by kernel_rfl) 0 (fun c w => by kernel_rfl) (round_a20_0 fu)
noncomputable def lc_a20_2 : Code := ((loops 0 body_a20).getD 1 (0, .skip)).2
theorem round_a20_2 (fu : Nat) (it : St RT den → Option (Int)) (k : Ex → St RT den → Option (Int)) c w : evCode E (pc_a20 fu) msk_a20 (lp_a20 fu) 2 lc_a20_2 (back_a20_2 c w) (after (msk_a20 2) (msk_a20 100002) 0 it k) = Bk_a20_2 fu c k w (fun w => it (back_a20_2 c w)) := by kernel_rfl
theorem lpok_a20_2 (fu : Nat) : ∀ s k r, lp_a20 fu 2 s k = some r → ∃ fuel, iter (msk_a20 2) (msk_a20 100002) s.objs.length (evCode E (pc_a20 fu) msk_a20 (lp_a20 fu) 2 lc_a20_2) fuel s k = some r :=
  handle_ok (ps := ps_a20_2) (os := os_a20_2) (conv := conv_a20_2) (B := Bk_a20_2 fu) (fu := fu) back_a20_2 (fun raw => by kernel_rfl) 0 (fun c w => by kernel_rfl) (round_a20_2 fu)
theorem lpok_a20 (fu : Nat) : LpOk E (pc_a20 fu) msk_a20 (lp_a20 fu) (loops 0 body_a20) := loop_all 2 (by kernel_rfl) fun i hi => match i, hi with
  | 0, _ => by
    have h : (loops 0 body_a20).getD 0 (0, .skip) = (0, lc_a20_0) := by kernel_rfl
    rw [h]; exact lpok_a20_0 fu
  | 1, _ => by
    have h : (loops 0 body_a20).getD 1 (0, .skip) = (2, lc_a20_2) := by kernel_rfl
    rw [h]; exact lpok_a20_2 fu
  | i + 2, hi => absurd hi (by omega)
def S_a20 (fu : Nat) (xs : List (D RT den)) : Option (Out RT den) := match xs with | [.rptr (.int .i64 a0_1 :: .rs za0_2 .impl_Backend na0_2 fa0_2 :: .rs za0_3 .impl_Vip na0_3 fa0_3 :: ra0)] => some ⟨Int, F_spec_l5Fault fu (⟨a0_1, (⟨za0_2, na0_2, fa0_2⟩ : (Sl S_impl_Backend)), (⟨za0_3, na0_3, fa0_3⟩ : (Sl S_impl_Vip))⟩ : S_impl_Config), enc_i64, fun _ => true⟩ | _ => none
theorem hpc_a20 (fu : Nat) : ∀ f xs o, pcf_a20 fu f xs = some o → ∀ y, o.x = some y → Good E Try.prog f xs (o.g y) := by
  intro f xs o h
  unfold pcf_a20 at h
  split at h
  · exact good_a11 fu xs o h
  · exact good_a14 fu xs o h
  · exact good_a19 fu xs o h
  · cases h
theorem goodv_a20 (fu : Nat) (c_0 : S_impl_Config) (y : Int) (hy : F_spec_l5Fault fu c_0 = some y) : Good E Try.prog 40 [(.rptr [(.int .i64 c_0.Version), (.rs c_0.Backends.z .impl_Backend c_0.Backends.n c_0.Backends.f), (.rs c_0.Vips.z .impl_Vip c_0.Vips.n c_0.Vips.f)])] (enc_i64 y) :=
  fun_good E_ok (pc_good (pc := pc_a20 fu) (hpc_a20 fu) hpx0) (fn := Try.f40) (c := body_a20) (out := out_i64) (y := y) (by kernel_rfl) (by kernel_rfl) (by kernel_rfl) (lpok_a20 fu) (fun d hd => out_i64_enc d _ hd) ((ev_a20 fu c_0).trans hy)
theorem good_a20 (fu : Nat) : ∀ xs o, S_a20 fu xs = some o → ∀ y, o.x = some y → Good E Try.prog 40 xs (o.g y) := by
  intro xs o h y hy
  unfold S_a20 at h
  split at h
  · rename_i a0_1 za0_2 na0_2 fa0_2 za0_3 na0_3 fa0_3 ra0
    cases h
    exact (goodv_a20 fu (⟨a0_1, (⟨za0_2, na0_2, fa0_2⟩ : (Sl S_impl_Backend)), (⟨za0_3, na0_3, fa0_3⟩ : (Sl S_impl_Vip))⟩ : S_impl_Config) y hy).sub ⟨Sub.of_eq ra0 rfl, trivial⟩
  · cases h

/-! spec.l5Needs -/
def F_spec_l5Needs (fu : Nat) (kind_0 : Int) : Option (Bool × Bool × Bool × Bool) :=
  ((F_spec_l1In fu kind_0 5 8).bind fun y103 => (bif (kind_0 != 5) then (bif (kind_0 == 1) then (some ((kind_0 != 6), true, (kind_0 != 4), y103)) else (some ((kind_0 != 6), y103,
    (kind_0 != 4), y103))) else (bif (kind_0 == 1) then (some (false, true, (kind_0 != 4), y103)) else (some (false, y103, (kind_0 != 4), y103)))))
def pcf_a21 (fu : Nat) (f : Nat) (xs : List (D RT den)) : Option (Out RT den) := match f with | 64 => S_a10 fu xs | _ => none
def pc_a21 (fu : Nat) : Pc RT den := ⟨pcf_a21 fu, fun _ => false, fun _ => false, pcd0, pcx0⟩
def msk_a21 (b : Nat) : List Nat := []
def lp_a21 (fu : Nat) : Lp RT den (Bool × Bool × Bool × Bool) := fun b s k => none
theorem ev_a21 (fu : Nat) (kind_0 : Int) : evFun E (pc_a21 fu) msk_a21 (lp_a21 fu) out_bo_bo_bo_bo 100 [(.int .i64 kind_0)] = F_spec_l5Needs fu kind_0 := by kernel_rfl
noncomputable def body_a21 : Code := Try.f100.body.getD .skip
theorem lpok_a21 (fu : Nat) : LpOk E (pc_a21 fu) msk_a21 (lp_a21 fu) (loops 0 body_a21) := by
  have h : loops 0 body_a21 = [] := by kernel_rfl
  rw [h]; intro p hp; cases hp
def S_a21 (fu : Nat) (xs : List (D RT den)) : Option (Out RT den) := match xs with | [.int .i64 a0_0] => some ⟨Bool × Bool × Bool × Bool, F_spec_l5Needs fu a0_0, enc_bo_bo_bo_bo, fun _ => true⟩ | _ => none
theorem hpc_a21 (fu : Nat) : ∀ f xs o, pcf_a21 fu f xs = some o → ∀ y, o.x = some y → Good E Try.prog f xs (o.g y) := by
  intro f xs o h
  unfold pcf_a21 at h
  split at h
  · exact good_a10 fu xs o h
  · cases h
theorem goodv_a21 (fu : Nat) (kind_0 : Int) (y : Bool × Bool × Bool × Bool) (hy : F_spec_l5Needs fu kind_0 = some y) : Good E Try.prog 100 [(.int .i64 kind_0)] (enc_bo_bo_bo_bo y) :=
  fun_good E_ok (pc_good (pc := pc_a21 fu) (hpc_a21 fu) hpx0) (fn := Try.f100) (c := body_a21) (out := out_bo_bo_bo_bo) (y := y) (by kernel_rfl) (by kernel_rfl) (by kernel_rfl) (lpok_a21 fu) (fun d hd => out_bo_bo_bo_bo_enc d _ hd) ((ev_a21 fu kind_0).trans hy)
theorem good_a21 (fu : Nat) : ∀ xs o, S_a21 fu xs = some o → ∀ y, o.x = some y → Good E Try.prog 100 xs (o.g y) := by
  intro xs o h y hy
  unfold S_a21 at h
  split at h
  · rename_i a0_0
    cases h
    exact goodv_a21 fu a0_0 y hy
  · cases h

/-! spec.l5Number -/
def F_spec_l5Number (fu : Nat) (x_0 : S_impl_Cmd) : Option (Bool) :=
  (bif (x_0.Kind == 1) then ((F_spec_l1In fu x_0.Number 0 9).bind fun y104 => (some y104)) else (bif (x_0.Kind == 2) then ((F_spec_l1In fu x_0.Number 0 9).bind fun y105 => (some y105)) else
    (bif (x_0.Kind == 3) then ((F_spec_l1In fu x_0.Number 1 3).bind fun y106 => (some y106)) else (bif (x_0.Kind == 9) then ((F_spec_l1In fu x_0.Number 0 1).bind fun y107 => (some y107)) else
    ((F_spec_l2Port fu x_0.Number).bind fun y108 => (some y108))))))
def pcf_a22 (fu : Nat) (f : Nat) (xs : List (D RT den)) : Option (Out RT den) := match f with | 64 => S_a10 fu xs | 119 => S_a15 fu xs | _ => none
def pc_a22 (fu : Nat) : Pc RT den := ⟨pcf_a22 fu, fun _ => false, fun _ => false, pcd0, pcx0⟩
def msk_a22 (b : Nat) : List Nat := []
def lp_a22 (fu : Nat) : Lp RT den (Bool) := fun b s k => none
theorem ev_a22 (fu : Nat) (x_0 : S_impl_Cmd) : evFun E (pc_a22 fu) msk_a22 (lp_a22 fu) out_bo 107 [(.agg [(.int .i64 x_0.Kind), (.int .i64 x_0.Expect), (.int .i64 x_0.Name), (.int .i64 x_0.Addr), (.int .i64 x_0.Number), (.int .i64 x_0.Proto)])] = F_spec_l5Number fu x_0 := by kernel_rfl
noncomputable def body_a22 : Code := Try.f107.body.getD .skip
theorem lpok_a22 (fu : Nat) : LpOk E (pc_a22 fu) msk_a22 (lp_a22 fu) (loops 0 body_a22) := by
  have h : loops 0 body_a22 = [] := by kernel_rfl
  rw [h]; intro p hp; cases hp
def S_a22 (fu : Nat) (xs : List (D RT den)) : Option (Out RT den) := match xs with | [.agg [.int .i64 a0_1, .int .i64 a0_2, .int .i64 a0_3, .int .i64 a0_4, .int .i64 a0_5, .int .i64 a0_6]] => some ⟨Bool, F_spec_l5Number fu (⟨a0_1, a0_2, a0_3, a0_4, a0_5, a0_6⟩ : S_impl_Cmd), enc_bo, fun _ => true⟩ | _ => none
theorem hpc_a22 (fu : Nat) : ∀ f xs o, pcf_a22 fu f xs = some o → ∀ y, o.x = some y → Good E Try.prog f xs (o.g y) := by
  intro f xs o h
  unfold pcf_a22 at h
  split at h
  · exact good_a10 fu xs o h
  · exact good_a15 fu xs o h
  · cases h
theorem goodv_a22 (fu : Nat) (x_0 : S_impl_Cmd) (y : Bool) (hy : F_spec_l5Number fu x_0 = some y) : Good E Try.prog 107 [(.agg [(.int .i64 x_0.Kind), (.int .i64 x_0.Expect), (.int .i64 x_0.Name), (.int .i64 x_0.Addr), (.int .i64 x_0.Number), (.int .i64 x_0.Proto)])] (enc_bo y) :=
  fun_good E_ok (pc_good (pc := pc_a22 fu) (hpc_a22 fu) hpx0) (fn := Try.f107) (c := body_a22) (out := out_bo) (y := y) (by kernel_rfl) (by kernel_rfl) (by kernel_rfl) (lpok_a22 fu) (fun d hd => out_bo_enc d _ hd) ((ev_a22 fu x_0).trans hy)
theorem good_a22 (fu : Nat) : ∀ xs o, S_a22 fu xs = some o → ∀ y, o.x = some y → Good E Try.prog 107 xs (o.g y) := by
  intro xs o h y hy
  unfold S_a22 at h
  split at h
  · rename_i a0_1 a0_2 a0_3 a0_4 a0_5 a0_6
    cases h
    exact goodv_a22 fu (⟨a0_1, a0_2, a0_3, a0_4, a0_5, a0_6⟩ : S_impl_Cmd) y hy
  · cases h

/-! spec.CmdFault -/
def F_spec_CmdFault (fu : Nat) (x_0 : S_impl_Cmd) : Option (Int) :=
  ((F_spec_l1In fu x_0.Kind 1 9).bind fun y68 => (bif (!y68) then (some 1) else ((F_spec_l5Needs fu x_0.Kind).bind fun y69 => (((bif (x_0.Expect != (-1)) then ((F_spec_l5Version fu x_0.Expect).bind fun y70 =>
    (bif (!y70) then (some true) else (bif y69.1 then ((F_spec_l3Name fu x_0.Name).bind fun y71 => (bif (!y71) then (some true) else (bif y69.2.1 then ((F_spec_l2Address fu x_0.Addr).bind fun y72 =>
    (bif (!y72) then (some true) else (bif y69.2.2.1 then ((F_spec_l5Number fu x_0).bind fun y73 => (bif (!y73) then (some true) else (bif y69.2.2.2 then ((F_spec_l5Proto fu x_0.Proto).bind fun y74 =>
    (some (!y74))) else (some false)))) else (bif y69.2.2.2 then ((F_spec_l5Proto fu x_0.Proto).bind fun y75 => (some (!y75))) else (some false))))) else (bif y69.2.2.1 then
    ((F_spec_l5Number fu x_0).bind fun y76 => (bif (!y76) then (some true) else (bif y69.2.2.2 then ((F_spec_l5Proto fu x_0.Proto).bind fun y77 => (some (!y77))) else (some false)))) else
    (bif y69.2.2.2 then ((F_spec_l5Proto fu x_0.Proto).bind fun y78 => (some (!y78))) else (some false)))))) else (bif y69.2.1 then ((F_spec_l2Address fu x_0.Addr).bind fun y79 =>
    (bif (!y79) then (some true) else (bif y69.2.2.1 then ((F_spec_l5Number fu x_0).bind fun y80 => (bif (!y80) then (some true) else (bif y69.2.2.2 then ((F_spec_l5Proto fu x_0.Proto).bind fun y81 =>
    (some (!y81))) else (some false)))) else (bif y69.2.2.2 then ((F_spec_l5Proto fu x_0.Proto).bind fun y82 => (some (!y82))) else (some false))))) else (bif y69.2.2.1 then
    ((F_spec_l5Number fu x_0).bind fun y83 => (bif (!y83) then (some true) else (bif y69.2.2.2 then ((F_spec_l5Proto fu x_0.Proto).bind fun y84 => (some (!y84))) else (some false)))) else
    (bif y69.2.2.2 then ((F_spec_l5Proto fu x_0.Proto).bind fun y85 => (some (!y85))) else (some false))))))) else (bif y69.1 then ((F_spec_l3Name fu x_0.Name).bind fun y86 => (bif (!y86) then
    (some true) else (bif y69.2.1 then ((F_spec_l2Address fu x_0.Addr).bind fun y87 => (bif (!y87) then (some true) else (bif y69.2.2.1 then ((F_spec_l5Number fu x_0).bind fun y88 =>
    (bif (!y88) then (some true) else (bif y69.2.2.2 then ((F_spec_l5Proto fu x_0.Proto).bind fun y89 => (some (!y89))) else (some false)))) else (bif y69.2.2.2 then
    ((F_spec_l5Proto fu x_0.Proto).bind fun y90 => (some (!y90))) else (some false))))) else (bif y69.2.2.1 then ((F_spec_l5Number fu x_0).bind fun y91 => (bif (!y91) then (some true) else
    (bif y69.2.2.2 then ((F_spec_l5Proto fu x_0.Proto).bind fun y92 => (some (!y92))) else (some false)))) else (bif y69.2.2.2 then ((F_spec_l5Proto fu x_0.Proto).bind fun y93 =>
    (some (!y93))) else (some false)))))) else (bif y69.2.1 then ((F_spec_l2Address fu x_0.Addr).bind fun y94 => (bif (!y94) then (some true) else (bif y69.2.2.1 then
    ((F_spec_l5Number fu x_0).bind fun y95 => (bif (!y95) then (some true) else (bif y69.2.2.2 then ((F_spec_l5Proto fu x_0.Proto).bind fun y96 => (some (!y96))) else (some false)))) else
    (bif y69.2.2.2 then ((F_spec_l5Proto fu x_0.Proto).bind fun y97 => (some (!y97))) else (some false))))) else (bif y69.2.2.1 then ((F_spec_l5Number fu x_0).bind fun y98 => (bif (!y98) then
    (some true) else (bif y69.2.2.2 then ((F_spec_l5Proto fu x_0.Proto).bind fun y99 => (some (!y99))) else (some false)))) else (bif y69.2.2.2 then ((F_spec_l5Proto fu x_0.Proto).bind fun y100 =>
    (some (!y100))) else (some false)))))) : Option Bool).bind fun m101 => (bif m101 then (some 3) else (((bif (!y69.1) then (bif (x_0.Name != 0) then (some true) else (bif (!y69.2.1) then
    (bif (x_0.Addr != 0) then (some true) else (bif (!y69.2.2.1) then (bif (x_0.Number != 0) then (some true) else (bif (!y69.2.2.2) then (some (x_0.Proto != 0)) else (some false))) else
    (bif (!y69.2.2.2) then (some (x_0.Proto != 0)) else (some false)))) else (bif (!y69.2.2.1) then (bif (x_0.Number != 0) then (some true) else (bif (!y69.2.2.2) then (some (x_0.Proto != 0)) else
    (some false))) else (bif (!y69.2.2.2) then (some (x_0.Proto != 0)) else (some false))))) else (bif (!y69.2.1) then (bif (x_0.Addr != 0) then (some true) else (bif (!y69.2.2.1) then
    (bif (x_0.Number != 0) then (some true) else (bif (!y69.2.2.2) then (some (x_0.Proto != 0)) else (some false))) else (bif (!y69.2.2.2) then (some (x_0.Proto != 0)) else (some false)))) else
    (bif (!y69.2.2.1) then (bif (x_0.Number != 0) then (some true) else (bif (!y69.2.2.2) then (some (x_0.Proto != 0)) else (some false))) else (bif (!y69.2.2.2) then (some (x_0.Proto != 0)) else
    (some false))))) : Option Bool).bind fun m102 => (bif m102 then (some 1) else (some 0))))))))
def pcf_a23 (fu : Nat) (f : Nat) (xs : List (D RT den)) : Option (Out RT den) := match f with | 64 => S_a10 fu xs | 80 => S_a11 fu xs | 100 => S_a21 fu xs | 105 => S_a12 fu xs | 106 => S_a13 fu xs | 107 => S_a22 fu xs | 108 => S_a16 fu xs | _ => none
def pc_a23 (fu : Nat) : Pc RT den := ⟨pcf_a23 fu, fun _ => false, fun _ => false, pcd0, pcx0⟩
def msk_a23 (b : Nat) : List Nat := match b with | 200004 => [62] | 200006 => [96] | _ => []
def lp_a23 (fu : Nat) : Lp RT den (Int) := fun b s k => none
theorem ev_a23 (fu : Nat) (x_0 : S_impl_Cmd) : evFun E (pc_a23 fu) msk_a23 (lp_a23 fu) out_i64 58 [(.agg [(.int .i64 x_0.Kind), (.int .i64 x_0.Expect), (.int .i64 x_0.Name), (.int .i64 x_0.Addr), (.int .i64 x_0.Number), (.int .i64 x_0.Proto)])] = F_spec_CmdFault fu x_0 := by kernel_rfl
noncomputable def body_a23 : Code := Try.f58.body.getD .skip
theorem lpok_a23 (fu : Nat) : LpOk E (pc_a23 fu) msk_a23 (lp_a23 fu) (loops 0 body_a23) := by
  have h : loops 0 body_a23 = [] := by kernel_rfl
  rw [h]; intro p hp; cases hp
def S_a23 (fu : Nat) (xs : List (D RT den)) : Option (Out RT den) := match xs with | [.agg [.int .i64 a0_1, .int .i64 a0_2, .int .i64 a0_3, .int .i64 a0_4, .int .i64 a0_5, .int .i64 a0_6]] => some ⟨Int, F_spec_CmdFault fu (⟨a0_1, a0_2, a0_3, a0_4, a0_5, a0_6⟩ : S_impl_Cmd), enc_i64, fun _ => true⟩ | _ => none
theorem hpc_a23 (fu : Nat) : ∀ f xs o, pcf_a23 fu f xs = some o → ∀ y, o.x = some y → Good E Try.prog f xs (o.g y) := by
  intro f xs o h
  unfold pcf_a23 at h
  split at h
  · exact good_a10 fu xs o h
  · exact good_a11 fu xs o h
  · exact good_a21 fu xs o h
  · exact good_a12 fu xs o h
  · exact good_a13 fu xs o h
  · exact good_a22 fu xs o h
  · exact good_a16 fu xs o h
  · cases h
theorem goodv_a23 (fu : Nat) (x_0 : S_impl_Cmd) (y : Int) (hy : F_spec_CmdFault fu x_0 = some y) : Good E Try.prog 58 [(.agg [(.int .i64 x_0.Kind), (.int .i64 x_0.Expect), (.int .i64 x_0.Name), (.int .i64 x_0.Addr), (.int .i64 x_0.Number), (.int .i64 x_0.Proto)])] (enc_i64 y) :=
  fun_good E_ok (pc_good (pc := pc_a23 fu) (hpc_a23 fu) hpx0) (fn := Try.f58) (c := body_a23) (out := out_i64) (y := y) (by kernel_rfl) (by kernel_rfl) (by kernel_rfl) (lpok_a23 fu) (fun d hd => out_i64_enc d _ hd) ((ev_a23 fu x_0).trans hy)
theorem good_a23 (fu : Nat) : ∀ xs o, S_a23 fu xs = some o → ∀ y, o.x = some y → Good E Try.prog 58 xs (o.g y) := by
  intro xs o h y hy
  unfold S_a23 at h
  split at h
  · rename_i a0_1 a0_2 a0_3 a0_4 a0_5 a0_6
    cases h
    exact goodv_a23 fu (⟨a0_1, a0_2, a0_3, a0_4, a0_5, a0_6⟩ : S_impl_Cmd) y hy
  · cases h

/-! spec.l13Served -/
def F_spec_l13Served_B0 {ρ : Type} (fu : Nat) (all0_0 : (Sl S_impl_Config)) (cmds1_1 : (Sl S_impl_Cmd)) (k0 : Int → Option ρ) (k1 : Option ρ) (k2 : Option ρ) (i5_2 : Int) (go : Int → Option ρ) : Option ρ :=
  (bif (decide (i5_2 < ((all0_0.n : Nat) : Int))) then ((bif (decide (0 ≤ i5_2) && decide ((Int.toNat i5_2) < all0_0.n)) then some () else none : Option Unit).bind fun _ =>
    ((F_spec_l5Fault fu (all0_0.f (Int.toNat i5_2))).bind fun y39 => (bif (y39 != 0) then (k0 y39) else ((bif (decide (0 ≤ i5_2) && decide ((Int.toNat i5_2) < all0_0.n)) then some () else
    none : Option Unit).bind fun _ => ((bif (decide (0 ≤ (0 : Int)) && decide ((Int.toNat 0) < all0_0.n)) then some () else none : Option Unit).bind fun _ => (bif ((all0_0.f (Int.toNat i5_2)).Version != (IntKind.wrap .i64 ((all0_0.f (Int.toNat 0)).Version + i5_2))) then
    k1 else (go (IntKind.wrap .i64 (i5_2 + 1))))))))) else k2)
def F_spec_l13Served_B2 {ρ : Type} (fu : Nat) (cmds1_0 : (Sl S_impl_Cmd)) (k0 : Int → Option ρ) (k1 : Option ρ) (i7_1 : Int) (go : Int → Option ρ) : Option ρ :=
  (bif (decide (i7_1 < ((cmds1_0.n : Nat) : Int))) then ((bif (decide (0 ≤ i7_1) && decide ((Int.toNat i7_1) < cmds1_0.n)) then some () else none : Option Unit).bind fun _ =>
    ((F_spec_CmdFault fu (cmds1_0.f (Int.toNat i7_1))).bind fun y41 => (bif (y41 != 0) then (k0 y41) else (go (IntKind.wrap .i64 (i7_1 + 1)))))) else k1)
def F_spec_l13Served (fu : Nat) (all_0 : (Sl S_impl_Config)) (cmds_1 : (Sl S_impl_Cmd)) : Option (Int) :=
  (((bif (decide (((all_0.n : Nat) : Int) < 1)) then (some true) else (bif (decide (((all_0.n : Nat) : Int) > 60)) then (some true) else (some (((cmds_1.n : Nat) : Int) != (IntKind.wrap .i64 (((all_0.n : Nat) : Int) - 1)))))) : Option Bool).bind fun m38 =>
    (bif m38 then (some 2) else (L (fun w0 go0 => F_spec_l13Served_B0 fu all_0 cmds_1 (fun z40 => (some z40)) (some 1) (L (fun w2 go2 => F_spec_l13Served_B2 fu cmds_1 (fun z42 =>
    (some z42)) (some 0) w2 go2) fu (0 : Int)) w0 go0) fu (0 : Int))))
def pcf_a24 (fu : Nat) (f : Nat) (xs : List (D RT den)) : Option (Out RT den) := match f with | 40 => S_a20 fu xs | 58 => S_a23 fu xs | _ => none
def pc_a24 (fu : Nat) : Pc RT den := ⟨pcf_a24 fu, fun _ => false, fun _ => false, pcd0, pcx0⟩
def msk_a24 (b : Nat) : List Nat := match b with | 0 => [2, 3, 4, 6, 7, 8, 9, 10, 11, 12, 13, 14, 15, 16, 17, 18, 19, 20, 21, 22, 23, 24, 25, 26, 27, 28, 29, 30, 31, 32, 33, 34, 35, 36, 37, 38, 39, 40, 41, 42, 43, 44, 45, 46, 47, 48, 49, 50, 51, 52, 53, 54, 55, 56, 57, 58, 59, 60, 61, 62, 63] | 100000 => [0, 2, 3, 5, 6, 7, 8, 9, 10, 11, 12, 13, 14, 15, 16, 17, 18, 19, 20, 21, 22, 23, 24, 25, 26, 27, 28, 29, 30, 31, 32, 33, 34, 35, 36, 37, 38, 39, 40, 41, 42, 43, 44, 45, 46, 47, 48, 49, 50, 51, 52, 53, 54, 55, 56, 57, 58, 59, 60, 61, 62, 63] | 2 => [0, 2, 3, 4, 5, 6, 8, 9, 10, 11, 12, 13, 14, 15, 16, 17, 18, 19, 20, 21, 22, 23, 24, 25, 26, 27, 28, 29, 30, 31, 32, 33, 34, 35, 36, 37, 38, 39, 40, 41, 42, 43, 44, 45, 46, 47, 48, 49, 50, 51, 52, 53, 54, 55, 56, 57, 58, 59, 60, 61, 62, 63] | 100002 => [0, 1, 2, 3, 5, 6, 7, 8, 9, 10, 11, 12, 13, 14, 15, 16, 17, 18, 19, 20, 21, 22, 23, 24, 25, 26, 27, 28, 29, 30, 31, 32, 33, 34, 35, 36, 37, 38, 39, 40, 41, 42, 43, 44, 45, 46, 47, 48, 49, 50, 51, 52, 53, 54, 55, 56, 57, 58, 59, 60, 61, 62, 63] | 200001 => [24] | _ => []
def ps_a24_0 : List (Pat RT) := [.flat (.rs .impl_Config), .flat (.rs .impl_Cmd), .flat .q, .flat .q, .flat .q, .flat (.int .i64), .flat .q, .flat .q, .flat .q, .flat .q, .flat .q, .flat .q, .flat .q, .flat .q, .flat .q, .flat .q, .flat .q, .flat .q, .flat .q, .flat .q, .flat .q, .flat .q, .flat .q, .flat .q, .flat .q, .flat .q, .flat .q, .flat .q, .flat .q, .flat .q, .flat .q, .flat .q, .flat .q, .flat .q, .flat .q, .flat .q, .flat .q, .flat .q, .flat .q, .flat .q, .flat .q, .flat .q, .flat .q, .flat .q, .flat .q, .flat .q, .flat .q, .flat .q, .flat .q, .flat .q, .flat .q, .flat .q, .flat .q, .flat .q, .flat .q, .flat .q, .flat .q, .flat .q, .flat .q, .flat .q, .flat .q, .flat .q, .flat .q, .flat .q]
def os_a24_0 : List (OP RT) := []
def conv_a24_0 (r : Raw den ps_a24_0 os_a24_0) : ((Sl S_impl_Config) × (Sl S_impl_Cmd)) × (Int) := ((r.1.1, r.1.2.1), r.1.2.2.2.2.2.1)
def back_a24_0 (c : (Sl S_impl_Config) × (Sl S_impl_Cmd)) (w : Int) : St RT den := ⟨[(.rs c.1.z .impl_Config c.1.n c.1.f), (.rs c.2.z .impl_Cmd c.2.n c.2.f), .q, .q, .q, (.int .i64 w), .q, .q, .q, .q, .q, .q, .q, .q, .q, .q, .q, .q, .q, .q, .q, .q, .q, .q, .q, .q, .q, .q, .q, .q, .q, .q, .q, .q, .q, .q, .q, .q, .q, .q, .q, .q, .q, .q, .q, .q, .q, .q, .q, .q, .q, .q, .q, .q, .q, .q, .q, .q, .q, .q, .q, .q, .q, .q], []⟩
def Bk_a24_0 {ρ : Type} (fu : Nat) (c : (Sl S_impl_Config) × (Sl S_impl_Cmd)) (k : Ex → St RT den → Option ρ) (w : Int) (go : (Int) → Option ρ) : Option ρ := F_spec_l13Served_B0 fu c.1 c.2 (fun a0 => k .ret ⟨[.q, (.rs c.2.z .impl_Cmd c.2.n c.2.f), .q, .q, (.int .i64 a0), .q, .q, .q, .q, .q, .q, .q, .q, .q, .q, .q, .q, .q, .q, .q, .q, .q, .q, .q, .q, .q, .q, .q, .q, .q, .q, .q, .q, .q, .q, .q, .q, .q, .q, .q, .q, .q, .q, .q, .q, .q, .q, .q, .q, .q, .q, .q, .q, .q, .q, .q, .q, .q, .q, .q, .q, .q, .q, .q], []⟩) (k .ret ⟨[.q, (.rs c.2.z .impl_Cmd c.2.n c.2.f), .q, .q, (.int .i64 1), .q, .q, .q, .q, .q, .q, .q, .q, .q, .q, .q, .q, .q, .q, .q, .q, .q, .q, .q, .q, .q, .q, .q, .q, .q, .q, .q, .q, .q, .q, .q, .q, .q, .q, .q, .q, .q, .q, .q, .q, .q, .q, .q, .q, .q, .q, .q, .q, .q, .q, .q, .q, .q, .q, .q, .q, .q, .q, .q], []⟩) (k (.exit 0) ⟨[.q, (.rs c.2.z .impl_Cmd c.2.n c.2.f), .q, .q, .q, .q, .q, .q, .q, .q, .q, .q, .q, .q, .q, .q, .q, .q, .q, .q, .q, .q, .q, .q, .q, .q, .q, .q, .q, .q, .q, .q, .q, .q, .q, .q, .q, .q, .q, .q, .q, .q, .q, .q, .q, .q, .q, .q, .q, .q, .q, .q, .q, .q, .q, .q, .q, .q, .q, .q, .q, .q, .q, .q], []⟩) w go
def ps_a24_2 : List (Pat RT) := [.flat .q, .flat (.rs .impl_Cmd), .flat .q, .flat .q, .flat .q, .flat .q, .flat .q, .flat (.int .i64), .flat .q, .flat .q, .flat .q, .flat .q, .flat .q, .flat .q, .flat .q, .flat .q, .flat .q, .flat .q, .flat .q, .flat .q, .flat .q, .flat .q, .flat .q, .flat .q, .flat .q, .flat .q, .flat .q, .flat .q, .flat .q, .flat .q, .flat .q, .flat .q, .flat .q, .flat .q, .flat .q, .flat .q, .flat .q, .flat .q, .flat .q, .flat .q, .flat .q, .flat .q, .flat .q, .flat .q, .flat .q, .flat .q, .flat .q, .flat .q, .flat .q, .flat .q, .flat .q, .flat .q, .flat .q, .flat .q, .flat .q, .flat .q, .flat .q, .flat .q, .flat .q, .flat .q, .flat .q, .flat .q, .flat .q, .flat .q]
def os_a24_2 : List (OP RT) := []
def conv_a24_2 (r : Raw den ps_a24_2 os_a24_2) : ((Sl S_impl_Cmd)) × (Int) := (r.1.2.1, r.1.2.2.2.2.2.2.2.1)
def back_a24_2 (c : (Sl S_impl_Cmd)) (w : Int) : St RT den := ⟨[.q, (.rs c.z .impl_Cmd c.n c.f), .q, .q, .q, .q, .q, (.int .i64 w), .q, .q, .q, .q, .q, .q, .q, .q, .q, .q, .q, .q, .q, .q, .q, .q, .q, .q, .q, .q, .q, .q, .q, .q, .q, .q, .q, .q, .q, .q, .q, .q, .q, .q, .q, .q, .q, .q, .q, .q, .q, .q, .q, .q, .q, .q, .q, .q, .q, .q, .q, .q, .q, .q, .q, .q], []⟩
def Bk_a24_2 {ρ : Type} (fu : Nat) (c : (Sl S_impl_Cmd)) (k : Ex → St RT den → Option ρ) (w : Int) (go : (Int) → Option ρ) : Option ρ := F_spec_l13Served_B2 fu c (fun a0 => k .ret ⟨[.q, .q, .q, .q, (.int .i64 a0), .q, .q, .q, .q, .q, .q, .q, .q, .q, .q, .q, .q, .q, .q, .q, .q, .q, .q, .q, .q, .q, .q, .q, .q, .q, .q, .q, .q, .q, .q, .q, .q, .q, .q, .q, .q, .q, .q, .q, .q, .q, .q, .q, .q, .q, .q, .q, .q, .q, .q, .q, .q, .q, .q, .q, .q, .q, .q, .q], []⟩) (k (.exit 2) ⟨[.q, .q, .q, .q, .q, .q, .q, .q, .q, .q, .q, .q, .q, .q, .q, .q, .q, .q, .q, .q, .q, .q, .q, .q, .q, .q, .q, .q, .q, .q, .q, .q, .q, .q, .q, .q, .q, .q, .q, .q, .q, .q, .q, .q, .q, .q, .q, .q, .q, .q, .q, .q, .q, .q, .q, .q, .q, .q, .q, .q, .q, .q, .q, .q], []⟩) w go
def lp_a24 (fu : Nat) : Lp RT den (Int) := fun b s k => match b with | 0 => handle ps_a24_0 os_a24_0 conv_a24_0 (Bk_a24_0 fu) fu s k | 2 => handle ps_a24_2 os_a24_2 conv_a24_2 (Bk_a24_2 fu) fu s k | _ => none
theorem ev_a24 (fu : Nat) (all_0 : (Sl S_impl_Config)) (cmds_1 : (Sl S_impl_Cmd)) : evFun E (pc_a24 fu) msk_a24 (lp_a24 fu) out_i64 63 [(.rs all_0.z .impl_Config all_0.n all_0.f), (.rs cmds_1.z .impl_Cmd cmds_1.n cmds_1.f)] = F_spec_l13Served fu all_0 cmds_1 := by kernel_rfl
noncomputable def body_a24 : Code := Try.f63.body.getD .skip
noncomputable def lc_a24_0 : Code := ((loops 0 body_a24).getD 0 (0, .skip)).2
theorem round_a24_0 (fu : Nat) (it : St RT den → Option (Int)) (k : Ex → St RT den → Option (Int)) c w : evCode E (pc_a24 fu) msk_a24 (lp_a24 fu) 0 lc_a24_0 (back_a24_0 c w) (after (msk_a24 0) (msk_a24 100000) 0 it k) = Bk_a24_0 fu c k w (fun w => it (back_a24_0 c w)) := by kernel_rfl
theorem lpok_a24_0 (fu : Nat) : ∀ s k r, lp_a24 fu 0 s k = some r → ∃ fuel, iter (msk_a24 0) (msk_a24 100000) s.objs.length (evCode E (pc_a24 fu) msk_a24 (lp_a24 fu) 0 lc_a24_0) fuel s k = some r :=
  handle_ok (ps := ps_a24_0) (os := os_a24_0) (conv := conv_a24_0) (B := Bk_a24_0 fu) (fu := fu) back_a24_0 (fun raw => by kernel_rfl) 0 (fun c w => by kernel_rfl) (round_a24_0 fu)
noncomputable def lc_a24_2 : Code := ((loops 0 body_a24).getD 1 (0, .skip)).2
theorem round_a24_2 (fu : Nat) (it : St RT den → Option (Int)) (k : Ex → St RT den → Option (Int)) c w : evCode E (pc_a24 fu) msk_a24 (lp_a24 fu) 2 lc_a24_2 (back_a24_2 c w) (after (msk_a24 2) (msk_a24 100002) 0 it k) = Bk_a24_2 fu c k w (fun w => it (back_a24_2 c w)) := by kernel_rfl
theorem lpok_a24_2 (fu : Nat) : ∀ s k r, lp_a24 fu 2 s k = some r → ∃ fuel, iter (msk_a24 2) (msk_a24 100002) s.objs.length (evCode E (pc_a24 fu) msk_a24 (lp_a24 fu) 2 lc_a24_2) fuel s k = some r :=
  handle_ok (ps := ps_a24_2) (os := os_a24_2) (conv := conv_a24_2) (B := Bk_a24_2 fu) (fu := fu) back_a24_2 (fun raw => by kernel_rfl) 0 (fun c w => by kernel_rfl) (round_a24_2 fu)
theorem lpok_a24 (fu : Nat) : LpOk E (pc_a24 fu) msk_a24 (lp_a24 fu) (loops 0 body_a24) := loop_all 2 (by kernel_rfl) fun i hi => match i, hi with
  | 0, _ => by
    have h : (loops 0 body_a24).getD 0 (0, .skip) = (0, lc_a24_0) := by kernel_rfl
    rw [h]; exact lpok_a24_0 fu
  | 1, _ => by
    have h : (loops 0 body_a24).getD 1 (0, .skip) = (2, lc_a24_2) := by kernel_rfl
    rw [h]; exact lpok_a24_2 fu
  | i + 2, hi => absurd hi (by omega)
def S_a24 (fu : Nat) (xs : List (D RT den)) : Option (Out RT den) := match xs with | [.rs za0_0 .impl_Config na0_0 fa0_0, .rs za1_0 .impl_Cmd na1_0 fa1_0] => some ⟨Int, F_spec_l13Served fu (⟨za0_0, na0_0, fa0_0⟩ : (Sl S_impl_Config)) (⟨za1_0, na1_0, fa1_0⟩ : (Sl S_impl_Cmd)), enc_i64, fun _ => true⟩ | _ => none
theorem hpc_a24 (fu : Nat) : ∀ f xs o, pcf_a24 fu f xs = some o → ∀ y, o.x = some y → Good E Try.prog f xs (o.g y) := by
  intro f xs o h
  unfold pcf_a24 at h
  split at h
  · exact good_a20 fu xs o h
  · exact good_a23 fu xs o h
  · cases h
theorem goodv_a24 (fu : Nat) (all_0 : (Sl S_impl_Config)) (cmds_1 : (Sl S_impl_Cmd)) (y : Int) (hy : F_spec_l13Served fu all_0 cmds_1 = some y) : Good E Try.prog 63 [(.rs all_0.z .impl_Config all_0.n all_0.f), (.rs cmds_1.z .impl_Cmd cmds_1.n cmds_1.f)] (enc_i64 y) :=
  fun_good E_ok (pc_good (pc := pc_a24 fu) (hpc_a24 fu) hpx0) (fn := Try.f63) (c := body_a24) (out := out_i64) (y := y) (by kernel_rfl) (by kernel_rfl) (by kernel_rfl) (lpok_a24 fu) (fun d hd => out_i64_enc d _ hd) ((ev_a24 fu all_0 cmds_1).trans hy)
theorem good_a24 (fu : Nat) : ∀ xs o, S_a24 fu xs = some o → ∀ y, o.x = some y → Good E Try.prog 63 xs (o.g y) := by
  intro xs o h y hy
  unfold S_a24 at h
  split at h
  · rename_i za0_0 na0_0 fa0_0 za1_0 na1_0 fa1_0
    cases h
    exact goodv_a24 fu (⟨za0_0, na0_0, fa0_0⟩ : (Sl S_impl_Config)) (⟨za1_0, na1_0, fa1_0⟩ : (Sl S_impl_Cmd)) y hy
  · cases h

/-! spec.l1Max -/
def F_spec_l1Max (fu : Nat) (a_0 : Int) (b_1 : Int) : Option (Int) :=
  (bif (decide (a_0 > b_1)) then (some a_0) else (some b_1))
def pc_a25 (fu : Nat) : Pc RT den := ⟨pcf0, fun _ => false, fun _ => false, pcd0, pcx0⟩
def msk_a25 (b : Nat) : List Nat := []
def lp_a25 (fu : Nat) : Lp RT den (Int) := fun b s k => none
theorem ev_a25 (fu : Nat) (a_0 : Int) (b_1 : Int) : evFun E (pc_a25 fu) msk_a25 (lp_a25 fu) out_i64 65 [(.int .i64 a_0), (.int .i64 b_1)] = F_spec_l1Max fu a_0 b_1 := by kernel_rfl
noncomputable def body_a25 : Code := Try.f65.body.getD .skip
theorem lpok_a25 (fu : Nat) : LpOk E (pc_a25 fu) msk_a25 (lp_a25 fu) (loops 0 body_a25) := by
  have h : loops 0 body_a25 = [] := by kernel_rfl
  rw [h]; intro p hp; cases hp
def S_a25 (fu : Nat) (xs : List (D RT den)) : Option (Out RT den) := match xs with | [.int .i64 a0_0, .int .i64 a1_0] => some ⟨Int, F_spec_l1Max fu a0_0 a1_0, enc_i64, fun _ => true⟩ | _ => none
theorem goodv_a25 (fu : Nat) (a_0 : Int) (b_1 : Int) (y : Int) (hy : F_spec_l1Max fu a_0 b_1 = some y) : Good E Try.prog 65 [(.int .i64 a_0), (.int .i64 b_1)] (enc_i64 y) :=
  fun_good E_ok (pc_good (pc := pc_a25 fu) hpc0 hpx0) (fn := Try.f65) (c := body_a25) (out := out_i64) (y := y) (by kernel_rfl) (by kernel_rfl) (by kernel_rfl) (lpok_a25 fu) (fun d hd => out_i64_enc d _ hd) ((ev_a25 fu a_0 b_1).trans hy)
theorem good_a25 (fu : Nat) : ∀ xs o, S_a25 fu xs = some o → ∀ y, o.x = some y → Good E Try.prog 65 xs (o.g y) := by
  intro xs o h y hy
  unfold S_a25 at h
  split at h
  · rename_i a0_0 a1_0
    cases h
    exact goodv_a25 fu a0_0 a1_0 y hy
  · cases h

/-! spec.ServeFrom -/
def F_spec_ServeFrom_U (fu : Nat) (all_0 : (Sl S_impl_Config)) (cmds_1 : (Sl S_impl_Cmd)) (from_2 : Int) : Option (Int × Int × Int × Bool × Int × Nat × Nat × Nat × Nat × (Nat → S_impl_Backend) × Nat × (Nat → S_impl_Vip) × Nat × (Nat → S_impl_Cmd)) :=
  ((F_spec_l13Served fu all_0 cmds_1).bind fun y30 => (bif (y30 != 0) then (bif (decide ((0 : Nat) = 0) && true) then (some (y30, 0, 0, false, 0, 0, 0, 0, 0, (fun _ => dflt .impl_Backend),
    0, (fun _ => dflt .impl_Vip), 0, (fun _ => dflt .impl_Cmd))) else none) else (bif (decide (from_2 < 0)) then (bif (decide ((0 : Nat) = 0) && true) then (some (3, 0, 0, false, 0,
    0, 0, 0, 0, (fun _ => dflt .impl_Backend), 0, (fun _ => dflt .impl_Vip), 0, (fun _ => dflt .impl_Cmd))) else none) else ((bif (decide (0 ≤ (IntKind.wrap .i64 (((all_0.n : Nat) : Int) - 1))) &&
    decide ((Int.toNat (IntKind.wrap .i64 (((all_0.n : Nat) : Int) - 1))) < all_0.n)) then some () else none : Option Unit).bind fun _ => ((bif (decide (0 ≤ (0 : Int)) && decide ((Int.toNat 0) < all_0.n)) then
    some () else none : Option Unit).bind fun _ => ((F_spec_l1Max fu (all_0.f (Int.toNat 0)).Version (IntKind.wrap .i64 ((all_0.f (Int.toNat (IntKind.wrap .i64 (((all_0.n : Nat) : Int) - 1)))).Version - 4))).bind fun y31 =>
    ((F_spec_l1In fu from_2 y31 (IntKind.wrap .i64 ((all_0.f (Int.toNat (IntKind.wrap .i64 (((all_0.n : Nat) : Int) - 1)))).Version - 1))).bind fun y32 => (bif y32 then ((bif (decide (0 ≤ (0 : Int)) &&
    decide ((Int.toNat 0) < all_0.n)) then some () else none : Option Unit).bind fun _ => ((bif (decide (0 ≤ (IntKind.wrap .i64 (from_2 - (all_0.f (Int.toNat 0)).Version))) &&
    (decide ((IntKind.wrap .i64 (from_2 - (all_0.f (Int.toNat 0)).Version)) ≤ ((cmds_1.n : Nat) : Int)) && decide (cmds_1.n ≤ cmds_1.n))) then some () else none : Option Unit).bind fun _ =>
    (bif (decide ((cmds_1.n - (Int.toNat (IntKind.wrap .i64 (from_2 - (all_0.f (Int.toNat 0)).Version)))) ≤ 9223372036854775807) && decide ((cmds_1.n - (Int.toNat (IntKind.wrap .i64 (from_2 - (all_0.f (Int.toNat 0)).Version)))) * 48 ≤ 140737488355328)) then
    (bif (decide ((0 : Nat) = 0) && true) then (some (0, from_2, (all_0.f (Int.toNat (IntKind.wrap .i64 (((all_0.n : Nat) : Int) - 1)))).Version, false, 0, 0, 0, (cmds_1.n - (Int.toNat (IntKind.wrap .i64 (from_2 - (all_0.f (Int.toNat 0)).Version)))),
    0, (fun _ => dflt .impl_Backend), 0, (fun _ => dflt .impl_Vip), (cmds_1.n - (Int.toNat (IntKind.wrap .i64 (from_2 - (all_0.f (Int.toNat 0)).Version)))), (fun i => cmds_1.f ((Int.toNat (IntKind.wrap .i64 (from_2 - (all_0.f (Int.toNat 0)).Version))) + i)))) else
    none) else none))) else ((F_spec_l5Copy_U fu (all_0.f (Int.toNat (IntKind.wrap .i64 (((all_0.n : Nat) : Int) - 1))))).bind fun y37 => (bif (decide (y37.2.2.1 ≤ y37.2.2.2.2.2.1) &&
    true) then (bif (decide (y37.2.2.1 = y37.2.2.1) && true) then (some (0, 0, (all_0.f (Int.toNat (IntKind.wrap .i64 (((all_0.n : Nat) : Int) - 1)))).Version, true, y37.1, y37.2.1,
    y37.2.2.1, 0, y37.2.1, y37.2.2.2.2.1, y37.2.2.1, y37.2.2.2.2.2.2, 0, (fun _ => dflt .impl_Cmd))) else none) else none))))))))))
def pcf_a26 (fu : Nat) (f : Nat) (xs : List (D RT den)) : Option (Out RT den) := match f with | 63 => S_a24 fu xs | 64 => S_a10 fu xs | 65 => S_a25 fu xs | _ => none
def pcx_a26 (fu : Nat) (f : Nat) (xs : List (D RT den)) (ins : List (Ob RT den)) : Option (OutX RT den) := match f with | 66 => S_a9 fu xs ins | _ => none
def pcd_a26 : Nat → Bool := fun f => match f with | 66 => true | _ => false
def pc_a26 (fu : Nat) : Pc RT den := ⟨pcf_a26 fu, fun f => match f with | 66 => true | _ => false, fun _ => false, pcd_a26, pcx_a26 fu⟩
def msk_a26 (b : Nat) : List Nat := match b with | 500009 => [1] | _ => []
def lp_a26 (fu : Nat) : Lp RT den (Int × Int × Int × Bool × Int × Nat × Nat × Nat × Nat × (Nat → S_impl_Backend) × Nat × (Nat → S_impl_Vip) × Nat × (Nat → S_impl_Cmd)) := fun b s k => none
def pso_a26 : List (Pat RT) := [.agg [(.int .i64), (.int .i64), (.int .i64), .bool, (.int .i64), (.os 0), (.os 1), (.os 2)]]
def oso_a26 : List (OP RT) := [.row false .impl_Backend, .deep false .impl_Vip, .row false .impl_Cmd]
def conv_a26 (r : Raw den pso_a26 oso_a26) : Int × Int × Int × Bool × Int × Nat × Nat × Nat × Nat × (Nat → S_impl_Backend) × Nat × (Nat → S_impl_Vip) × Nat × (Nat → S_impl_Cmd) := (r.1.1.1, r.1.1.2.1, r.1.1.2.2.1, r.1.1.2.2.2.1, r.1.1.2.2.2.2.1, r.1.1.2.2.2.2.2.1, r.1.1.2.2.2.2.2.2.1, r.1.1.2.2.2.2.2.2.2.1, r.2.1.1, r.2.1.2, r.2.2.1.1, r.2.2.1.2.2, r.2.2.2.1.1, r.2.2.2.1.2)
def enc_a26 (y : Int × Int × Int × Bool × Int × Nat × Nat × Nat × Nat × (Nat → S_impl_Backend) × Nat × (Nat → S_impl_Vip) × Nat × (Nat → S_impl_Cmd)) : D RT den × List (Ob RT den) := ((.agg [(.int .i64 y.1), (.int .i64 y.2.1), (.int .i64 y.2.2.1), (.bool y.2.2.2.1), (.int .i64 y.2.2.2.2.1), (.os 0 y.2.2.2.2.2.1), (.os 1 y.2.2.2.2.2.2.1), (.os 2 y.2.2.2.2.2.2.2.1)]), [(.row false .impl_Backend y.2.2.2.2.2.2.2.2.1 y.2.2.2.2.2.2.2.2.2.1), (.deep false .impl_Vip y.2.2.2.2.2.2.2.2.2.2.1 y.2.2.2.2.2.2.2.2.2.2.1 y.2.2.2.2.2.2.2.2.2.2.2.1), (.row false .impl_Cmd y.2.2.2.2.2.2.2.2.2.2.2.2.1 y.2.2.2.2.2.2.2.2.2.2.2.2.2)])
def chk_a26 (r : Raw den pso_a26 oso_a26) : Bool := (decide (r.2.2.1.2.1 = r.2.2.1.1) && true)
def raw_a26 (r : Raw den pso_a26 oso_a26) : St RT den := ⟨[(.agg [(.int .i64 r.1.1.1), (.int .i64 r.1.1.2.1), (.int .i64 r.1.1.2.2.1), (.bool r.1.1.2.2.2.1), (.int .i64 r.1.1.2.2.2.2.1), (.os 0 r.1.1.2.2.2.2.2.1), (.os 1 r.1.1.2.2.2.2.2.2.1), (.os 2 r.1.1.2.2.2.2.2.2.2.1)])], [(.row false .impl_Backend r.2.1.1 r.2.1.2), (.deep false .impl_Vip r.2.2.1.1 r.2.2.1.2.1 r.2.2.1.2.2), (.row false .impl_Cmd r.2.2.2.1.1 r.2.2.2.1.2)]⟩
theorem chkd_a26 (r : Raw den pso_a26 oso_a26) (h : chk_a26 r = true) : raw_a26 r = ⟨[(enc_a26 (conv_a26 r)).1], (enc_a26 (conv_a26 r)).2⟩ := by
  simp only [chk_a26, Bool.and_eq_true, decide_eq_true_eq, and_true] at h
  simp only [raw_a26, enc_a26, conv_a26, h]
def out_a26 (d : D RT den) (os : List (Ob RT den)) : Option (Int × Int × Int × Bool × Int × Nat × Nat × Nat × Nat × (Nat → S_impl_Backend) × Nat × (Nat → S_impl_Vip) × Nat × (Nat → S_impl_Cmd)) := (unSt pso_a26 oso_a26 ⟨[d], os⟩).bind fun v => bif chk_a26 v.1 then some (conv_a26 v.1) else none
theorem out_a26_enc (d : D RT den) (os : List (Ob RT den)) (y : Int × Int × Int × Bool × Int × Nat × Nat × Nat × Nat × (Nat → S_impl_Backend) × Nat × (Nat → S_impl_Vip) × Nat × (Nat → S_impl_Cmd)) (h : out_a26 d os = some y) : d = (enc_a26 y).1 ∧ os = (enc_a26 y).2 :=
  outU (conv := conv_a26) (enc := enc_a26) (chk := chk_a26) (fun raw h => Eq.trans (by kernel_rfl) (chkd_a26 raw h)) h
theorem ev_a26 (fu : Nat) (all_0 : (Sl S_impl_Config)) (cmds_1 : (Sl S_impl_Cmd)) (from_2 : Int) : evFunU E (pc_a26 fu) msk_a26 (lp_a26 fu) out_a26 28 [(.rs all_0.z .impl_Config all_0.n all_0.f), (.rs cmds_1.z .impl_Cmd cmds_1.n cmds_1.f), (.int .i64 from_2)] [] = F_spec_ServeFrom_U fu all_0 cmds_1 from_2 := by kernel_rfl
noncomputable def body_a26 : Code := Try.f28.body.getD .skip
theorem lpok_a26 (fu : Nat) : LpOk E (pc_a26 fu) msk_a26 (lp_a26 fu) (loops 0 body_a26) := by
  have h : loops 0 body_a26 = [] := by kernel_rfl
  rw [h]; intro p hp; cases hp
def S_a26 (fu : Nat) (xs : List (D RT den)) (ins : List (Ob RT den)) : Option (OutX RT den) := match xs, ins with | [.rs za0_0 .impl_Config na0_0 fa0_0, .rs za1_0 .impl_Cmd na1_0 fa1_0, .int .i64 a2_0], [] => some ⟨Int × Int × Int × Bool × Int × Nat × Nat × Nat × Nat × (Nat → S_impl_Backend) × Nat × (Nat → S_impl_Vip) × Nat × (Nat → S_impl_Cmd), F_spec_ServeFrom_U fu (⟨za0_0, na0_0, fa0_0⟩ : (Sl S_impl_Config)) (⟨za1_0, na1_0, fa1_0⟩ : (Sl S_impl_Cmd)) a2_0, enc_a26⟩ | _, _ => none
theorem hpc_a26 (fu : Nat) : ∀ f xs o, pcf_a26 fu f xs = some o → ∀ y, o.x = some y → Good E Try.prog f xs (o.g y) := by
  intro f xs o h
  unfold pcf_a26 at h
  split at h
  · exact good_a24 fu xs o h
  · exact good_a10 fu xs o h
  · exact good_a25 fu xs o h
  · cases h
theorem hpx_a26 (fu : Nat) : ∀ f xs ins o, pcx_a26 fu f xs ins = some o → ∀ y, o.x = some y → GoodXD E Try.prog (pcd_a26 f) f xs ins (o.g y).1 (o.g y).2 := by
  intro f xs ins o h
  unfold pcx_a26 at h
  split at h
  · exact good_a9 fu xs ins o h
  · cases h
theorem goodv_a26 (fu : Nat) (all_0 : (Sl S_impl_Config)) (cmds_1 : (Sl S_impl_Cmd)) (from_2 : Int) (y : Int × Int × Int × Bool × Int × Nat × Nat × Nat × Nat × (Nat → S_impl_Backend) × Nat × (Nat → S_impl_Vip) × Nat × (Nat → S_impl_Cmd)) (hy : F_spec_ServeFrom_U fu all_0 cmds_1 from_2 = some y) : GoodD E Try.prog 28 [(.rs all_0.z .impl_Config all_0.n all_0.f), (.rs cmds_1.z .impl_Cmd cmds_1.n cmds_1.f), (.int .i64 from_2)] [] (enc_a26 y).1 (enc_a26 y).2 :=
  funU_good E_ok (pc_good (pc := pc_a26 fu) (hpc_a26 fu) (hpx_a26 fu)) (fn := Try.f28) (c := body_a26) (out := out_a26) (y := y) (by kernel_rfl) (by kernel_rfl) (by kernel_rfl) (lpok_a26 fu) (by kernel_rfl) (Nat.le_of_ble_eq_true (by kernel_rfl)) (Fulls.get 0 (And.intro (Nat.le_refl _) trivial)) (fun d os hd => out_a26_enc d os _ hd) ((ev_a26 fu all_0 cmds_1 from_2).trans hy)
theorem good_a26 (fu : Nat) : ∀ xs ins o, S_a26 fu xs ins = some o → ∀ y, o.x = some y → GoodD E Try.prog 28 xs ins (o.g y).1 (o.g y).2 := by
  intro xs ins o h y hy
  unfold S_a26 at h
  split at h
  · rename_i za0_0 na0_0 fa0_0 za1_0 na1_0 fa1_0 a2_0
    cases h
    exact goodv_a26 fu (⟨za0_0, na0_0, fa0_0⟩ : (Sl S_impl_Config)) (⟨za1_0, na1_0, fa1_0⟩ : (Sl S_impl_Cmd)) a2_0 y hy
  · cases h

/-! slices.Clone[[]impl.Cmd,impl.Cmd] -/
def F_slices_Clone_impl_Cmd_impl_Cmd_H_raw (fu : Nat) (s_0 : (Sl S_impl_Cmd)) : Option ((Sl S_impl_Cmd)) :=
  ((s_0.z).bind fun b129 => (bif b129 then (some (⟨(some true), 0, (fun _ => dflt .impl_Cmd)⟩ : (Sl S_impl_Cmd))) else (bif (decide (s_0.n ≤ 9223372036854775807) && decide (s_0.n * 48 ≤ 140737488355328)) then
    (some (⟨none, s_0.n, s_0.f⟩ : (Sl S_impl_Cmd))) else none)))
def pc_a27r (fu : Nat) : Pc RT den := ⟨pcf0, fun _ => false, fun _ => false, pcd0, pcx0⟩
def msk_a27r (b : Nat) : List Nat := []
def lp_a27r (fu : Nat) : Lp RT den ((Sl S_impl_Cmd)) := fun b s k => none
theorem ev_a27r (fu : Nat) (s_0 : (Sl S_impl_Cmd)) : evFunX E false (pc_a27r fu) msk_a27r (lp_a27r fu) out_sl_impl_Cmd_H 72 [(.rs s_0.z .impl_Cmd s_0.n s_0.f)] [] = F_slices_Clone_impl_Cmd_impl_Cmd_H_raw fu s_0 := by kernel_rfl
noncomputable def body_a27r : Code := Try.f72.body.getD .skip
theorem lpok_a27r (fu : Nat) : LpOk E (pc_a27r fu) msk_a27r (lp_a27r fu) (loops 0 body_a27r) := by
  have h : loops 0 body_a27r = [] := by kernel_rfl
  rw [h]; intro p hp; cases hp
def S_a27r (fu : Nat) (xs : List (D RT den)) (ins : List (Ob RT den)) : Option (OutX RT den) := match xs, ins with | [.rs za0_0 .impl_Cmd na0_0 fa0_0], [] => some ⟨(Sl S_impl_Cmd), F_slices_Clone_impl_Cmd_impl_Cmd_H_raw fu (⟨za0_0, na0_0, fa0_0⟩ : (Sl S_impl_Cmd)), enc_sl_impl_Cmd_H⟩ | _, _ => none
theorem goodv_a27r (fu : Nat) (s_0 : (Sl S_impl_Cmd)) (y : (Sl S_impl_Cmd)) (hy : F_slices_Clone_impl_Cmd_impl_Cmd_H_raw fu s_0 = some y) : GoodX E Try.prog 72 [(.rs s_0.z .impl_Cmd s_0.n s_0.f)] [] (enc_sl_impl_Cmd_H y).1 (enc_sl_impl_Cmd_H y).2 :=
  funX_good (ke := false) E_ok (pc_good (pc := pc_a27r fu) hpc0 hpx0) (fn := Try.f72) (c := body_a27r) (out := out_sl_impl_Cmd_H) (y := y) (by kernel_rfl) (by kernel_rfl) (by kernel_rfl) (lpok_a27r fu) (by kernel_rfl) (Nat.zero_le _) (fun d os hd => out_sl_impl_Cmd_H_enc d os _ hd) ((ev_a27r fu s_0).trans hy)
def F_slices_Clone_impl_Cmd_impl_Cmd_H (fu : Nat) (s_0 : (Sl S_impl_Cmd)) : Option ((Sl S_impl_Cmd)) := bif decide (s_0.n ≤ 9223372036854775807) && decide (s_0.n * 48 ≤ 140737488355328) then some ⟨none, s_0.n, s_0.f⟩ else none
def S_a27 (fu : Nat) (xs : List (D RT den)) (ins : List (Ob RT den)) : Option (OutX RT den) := match xs, ins with | [.rs za0_0 .impl_Cmd na0_0 fa0_0], [] => some ⟨(Sl S_impl_Cmd), F_slices_Clone_impl_Cmd_impl_Cmd_H fu (⟨za0_0, na0_0, fa0_0⟩ : (Sl S_impl_Cmd)), enc_sl_impl_Cmd_H⟩ | _, _ => none
theorem good_a27 (fu : Nat) : ∀ xs ins o, S_a27 fu xs ins = some o → ∀ y, o.x = some y → GoodX E Try.prog 72 xs ins (o.g y).1 (o.g y).2 := by
  intro xs ins o h y hy
  unfold S_a27 at h
  split at h
  · rename_i za0_0 na0_0 fa0_0
    cases h
    have hy : F_slices_Clone_impl_Cmd_impl_Cmd_H fu ⟨za0_0, na0_0, fa0_0⟩ = some y := hy
    unfold F_slices_Clone_impl_Cmd_impl_Cmd_H at hy
    dsimp only at hy
    cases hc : (decide (na0_0 ≤ 9223372036854775807) && decide (na0_0 * 48 ≤ 140737488355328)) with
    | false => rw [hc] at hy; cases hy
    | true =>
      rw [hc] at hy
      have hy := Option.some.inj hy; subst hy
      refine GoodX.clone (d0 := fun _ => dflt .impl_Cmd) (goodv_a27r fu ⟨some true, na0_0, fa0_0⟩ ⟨some true, 0, fun _ => dflt .impl_Cmd⟩ rfl) (goodv_a27r fu ⟨some false, na0_0, fa0_0⟩ ⟨none, na0_0, fa0_0⟩ ?_) _
      unfold F_slices_Clone_impl_Cmd_impl_Cmd_H_raw
      simp only [Option.bind_some, cond_false, hc, cond_true]
  · cases h

/-! slices.Clone[[]impl.Backend,impl.Backend] -/
def F_slices_Clone_impl_Backend_impl_Backend_H_raw (fu : Nat) (s_0 : (Sl S_impl_Backend)) : Option ((Sl S_impl_Backend)) :=
  ((s_0.z).bind fun b132 => (bif b132 then (some (⟨(some true), 0, (fun _ => dflt .impl_Backend)⟩ : (Sl S_impl_Backend))) else (bif (decide (s_0.n ≤ 9223372036854775807) && decide (s_0.n * 40 ≤ 140737488355328)) then
    (some (⟨none, s_0.n, s_0.f⟩ : (Sl S_impl_Backend))) else none)))
def pc_a28r (fu : Nat) : Pc RT den := ⟨pcf0, fun _ => false, fun _ => false, pcd0, pcx0⟩
def msk_a28r (b : Nat) : List Nat := []
def lp_a28r (fu : Nat) : Lp RT den ((Sl S_impl_Backend)) := fun b s k => none
theorem ev_a28r (fu : Nat) (s_0 : (Sl S_impl_Backend)) : evFunX E false (pc_a28r fu) msk_a28r (lp_a28r fu) out_sl_impl_Backend_H 136 [(.rs s_0.z .impl_Backend s_0.n s_0.f)] [] = F_slices_Clone_impl_Backend_impl_Backend_H_raw fu s_0 := by kernel_rfl
noncomputable def body_a28r : Code := Try.f136.body.getD .skip
theorem lpok_a28r (fu : Nat) : LpOk E (pc_a28r fu) msk_a28r (lp_a28r fu) (loops 0 body_a28r) := by
  have h : loops 0 body_a28r = [] := by kernel_rfl
  rw [h]; intro p hp; cases hp
def S_a28r (fu : Nat) (xs : List (D RT den)) (ins : List (Ob RT den)) : Option (OutX RT den) := match xs, ins with | [.rs za0_0 .impl_Backend na0_0 fa0_0], [] => some ⟨(Sl S_impl_Backend), F_slices_Clone_impl_Backend_impl_Backend_H_raw fu (⟨za0_0, na0_0, fa0_0⟩ : (Sl S_impl_Backend)), enc_sl_impl_Backend_H⟩ | _, _ => none
theorem goodv_a28r (fu : Nat) (s_0 : (Sl S_impl_Backend)) (y : (Sl S_impl_Backend)) (hy : F_slices_Clone_impl_Backend_impl_Backend_H_raw fu s_0 = some y) : GoodX E Try.prog 136 [(.rs s_0.z .impl_Backend s_0.n s_0.f)] [] (enc_sl_impl_Backend_H y).1 (enc_sl_impl_Backend_H y).2 :=
  funX_good (ke := false) E_ok (pc_good (pc := pc_a28r fu) hpc0 hpx0) (fn := Try.f136) (c := body_a28r) (out := out_sl_impl_Backend_H) (y := y) (by kernel_rfl) (by kernel_rfl) (by kernel_rfl) (lpok_a28r fu) (by kernel_rfl) (Nat.zero_le _) (fun d os hd => out_sl_impl_Backend_H_enc d os _ hd) ((ev_a28r fu s_0).trans hy)
def F_slices_Clone_impl_Backend_impl_Backend_H (fu : Nat) (s_0 : (Sl S_impl_Backend)) : Option ((Sl S_impl_Backend)) := bif decide (s_0.n ≤ 9223372036854775807) && decide (s_0.n * 40 ≤ 140737488355328) then some ⟨none, s_0.n, s_0.f⟩ else none
def S_a28 (fu : Nat) (xs : List (D RT den)) (ins : List (Ob RT den)) : Option (OutX RT den) := match xs, ins with | [.rs za0_0 .impl_Backend na0_0 fa0_0], [] => some ⟨(Sl S_impl_Backend), F_slices_Clone_impl_Backend_impl_Backend_H fu (⟨za0_0, na0_0, fa0_0⟩ : (Sl S_impl_Backend)), enc_sl_impl_Backend_H⟩ | _, _ => none
theorem good_a28 (fu : Nat) : ∀ xs ins o, S_a28 fu xs ins = some o → ∀ y, o.x = some y → GoodX E Try.prog 136 xs ins (o.g y).1 (o.g y).2 := by
  intro xs ins o h y hy
  unfold S_a28 at h
  split at h
  · rename_i za0_0 na0_0 fa0_0
    cases h
    have hy : F_slices_Clone_impl_Backend_impl_Backend_H fu ⟨za0_0, na0_0, fa0_0⟩ = some y := hy
    unfold F_slices_Clone_impl_Backend_impl_Backend_H at hy
    dsimp only at hy
    cases hc : (decide (na0_0 ≤ 9223372036854775807) && decide (na0_0 * 40 ≤ 140737488355328)) with
    | false => rw [hc] at hy; cases hy
    | true =>
      rw [hc] at hy
      have hy := Option.some.inj hy; subst hy
      refine GoodX.clone (d0 := fun _ => dflt .impl_Backend) (goodv_a28r fu ⟨some true, na0_0, fa0_0⟩ ⟨some true, 0, fun _ => dflt .impl_Backend⟩ rfl) (goodv_a28r fu ⟨some false, na0_0, fa0_0⟩ ⟨none, na0_0, fa0_0⟩ ?_) _
      unfold F_slices_Clone_impl_Backend_impl_Backend_H_raw
      simp only [Option.bind_some, cond_false, hc, cond_true]
  · cases h

/-! slices.Clone[[]impl.Vip,impl.Vip] -/
def F_slices_Clone_impl_Vip_impl_Vip_M_raw (fu : Nat) (s_0 : (Sl S_impl_Vip)) : Option (Nat × Nat × (Nat → S_impl_Vip)) :=
  ((s_0.z).bind fun b134 => (bif b134 then (some (0, 0, (fun _ => dflt .impl_Vip))) else (bif (decide (s_0.n ≤ 9223372036854775807) && decide (s_0.n * 48 ≤ 140737488355328)) then
    (some (s_0.n, s_0.n, s_0.f)) else none)))
def pc_a29r (fu : Nat) : Pc RT den := ⟨pcf0, fun _ => false, fun _ => false, pcd0, pcx0⟩
def msk_a29r (b : Nat) : List Nat := []
def lp_a29r (fu : Nat) : Lp RT den (Nat × Nat × (Nat → S_impl_Vip)) := fun b s k => none
def pso_a29r : List (Pat RT) := [.flat (.os 0)]
def oso_a29r : List (OP RT) := [.row false .impl_Vip]
def conv_a29r (r : Raw den pso_a29r oso_a29r) : Nat × Nat × (Nat → S_impl_Vip) := (r.1.1, r.2.1.1, r.2.1.2)
def enc_a29r (y : Nat × Nat × (Nat → S_impl_Vip)) : D RT den × List (Ob RT den) := ((.os 0 y.1), [(.row false .impl_Vip y.2.1 y.2.2)])
def out_a29r (d : D RT den) (os : List (Ob RT den)) : Option (Nat × Nat × (Nat → S_impl_Vip)) := (unSt pso_a29r oso_a29r ⟨[d], os⟩).bind fun v => some (conv_a29r v.1)
theorem out_a29r_enc (d : D RT den) (os : List (Ob RT den)) (y : Nat × Nat × (Nat → S_impl_Vip)) (h : out_a29r d os = some y) : d = (enc_a29r y).1 ∧ os = (enc_a29r y).2 :=
  outM (conv := conv_a29r) (enc := enc_a29r) (fun raw => by kernel_rfl) h
theorem ev_a29r (fu : Nat) (s_0 : (Sl S_impl_Vip)) : evFunM E false (pc_a29r fu) msk_a29r (lp_a29r fu) out_a29r 137 [(.rs s_0.z .impl_Vip s_0.n s_0.f)] [] = F_slices_Clone_impl_Vip_impl_Vip_M_raw fu s_0 := by kernel_rfl
noncomputable def body_a29r : Code := Try.f137.body.getD .skip
theorem lpok_a29r (fu : Nat) : LpOk E (pc_a29r fu) msk_a29r (lp_a29r fu) (loops 0 body_a29r) := by
  have h : loops 0 body_a29r = [] := by kernel_rfl
  rw [h]; intro p hp; cases hp
def S_a29r (fu : Nat) (xs : List (D RT den)) (ins : List (Ob RT den)) : Option (OutX RT den) := match xs, ins with | [.rs za0_0 .impl_Vip na0_0 fa0_0], [] => some ⟨Nat × Nat × (Nat → S_impl_Vip), F_slices_Clone_impl_Vip_impl_Vip_M_raw fu (⟨za0_0, na0_0, fa0_0⟩ : (Sl S_impl_Vip)), enc_a29r⟩ | _, _ => none
theorem goodv_a29r (fu : Nat) (s_0 : (Sl S_impl_Vip)) (y : Nat × Nat × (Nat → S_impl_Vip)) (hy : F_slices_Clone_impl_Vip_impl_Vip_M_raw fu s_0 = some y) : GoodX E Try.prog 137 [(.rs s_0.z .impl_Vip s_0.n s_0.f)] [] (enc_a29r y).1 (enc_a29r y).2 :=
  funM_good (ke := false) E_ok (pc_good (pc := pc_a29r fu) hpc0 hpx0) (fn := Try.f137) (c := body_a29r) (out := out_a29r) (y := y) (by kernel_rfl) (by kernel_rfl) (by kernel_rfl) (lpok_a29r fu) (by kernel_rfl) (Nat.le_of_ble_eq_true (by kernel_rfl)) (fun d os hd => out_a29r_enc d os _ hd) ((ev_a29r fu s_0).trans hy)
def F_slices_Clone_impl_Vip_impl_Vip_M (fu : Nat) (s_0 : (Sl S_impl_Vip)) : Option (Nat × Nat × (Nat → S_impl_Vip)) := bif decide (s_0.n ≤ 9223372036854775807) && decide (s_0.n * 48 ≤ 140737488355328) then some (s_0.n, s_0.n, s_0.f) else none
def S_a29 (fu : Nat) (xs : List (D RT den)) (ins : List (Ob RT den)) : Option (OutX RT den) := match xs, ins with | [.rs za0_0 .impl_Vip na0_0 fa0_0], [] => some ⟨Nat × Nat × (Nat → S_impl_Vip), F_slices_Clone_impl_Vip_impl_Vip_M fu (⟨za0_0, na0_0, fa0_0⟩ : (Sl S_impl_Vip)), enc_a29r⟩ | _, _ => none
theorem good_a29 (fu : Nat) : ∀ xs ins o, S_a29 fu xs ins = some o → ∀ y, o.x = some y → GoodX E Try.prog 137 xs ins (o.g y).1 (o.g y).2 := by
  intro xs ins o h y hy
  unfold S_a29 at h
  split at h
  · rename_i za0_0 na0_0 fa0_0
    cases h
    have hy : F_slices_Clone_impl_Vip_impl_Vip_M fu ⟨za0_0, na0_0, fa0_0⟩ = some y := hy
    unfold F_slices_Clone_impl_Vip_impl_Vip_M at hy
    dsimp only at hy
    cases hc : (decide (na0_0 ≤ 9223372036854775807) && decide (na0_0 * 48 ≤ 140737488355328)) with
    | false => rw [hc] at hy; cases hy
    | true =>
      rw [hc] at hy
      have hy := Option.some.inj hy; subst hy
      refine GoodX.clone (d0 := fun _ => dflt .impl_Vip) (goodv_a29r fu ⟨some true, na0_0, fa0_0⟩ ⟨0, 0, fun _ => dflt .impl_Vip⟩ rfl) (goodv_a29r fu ⟨some false, na0_0, fa0_0⟩ ⟨na0_0, na0_0, fa0_0⟩ ?_) _
      unfold F_slices_Clone_impl_Vip_impl_Vip_M_raw
      simp only [Option.bind_some, cond_false, hc, cond_true]
  · cases h

/-! slices.Clone[[]int64,int64] -/
def F_slices_Clone_int64_int64_H_raw (fu : Nat) (s_0 : (Sl Int)) : Option ((Sl Int)) :=
  ((s_0.z).bind fun b137 => (bif b137 then (some (⟨(some true), 0, (fun _ => dflt .i64)⟩ : (Sl Int))) else (bif (decide (s_0.n ≤ 9223372036854775807) && decide (s_0.n * 8 ≤ 140737488355328)) then
    (some (⟨none, s_0.n, s_0.f⟩ : (Sl Int))) else none)))
def pc_a30r (fu : Nat) : Pc RT den := ⟨pcf0, fun _ => false, fun _ => false, pcd0, pcx0⟩
def msk_a30r (b : Nat) : List Nat := []
def lp_a30r (fu : Nat) : Lp RT den ((Sl Int)) := fun b s k => none
theorem ev_a30r (fu : Nat) (s_0 : (Sl Int)) : evFunX E false (pc_a30r fu) msk_a30r (lp_a30r fu) out_sl_i64_H 138 [(.rs s_0.z .i64 s_0.n s_0.f)] [] = F_slices_Clone_int64_int64_H_raw fu s_0 := by kernel_rfl
noncomputable def body_a30r : Code := Try.f138.body.getD .skip
theorem lpok_a30r (fu : Nat) : LpOk E (pc_a30r fu) msk_a30r (lp_a30r fu) (loops 0 body_a30r) := by
  have h : loops 0 body_a30r = [] := by kernel_rfl
  rw [h]; intro p hp; cases hp
def S_a30r (fu : Nat) (xs : List (D RT den)) (ins : List (Ob RT den)) : Option (OutX RT den) := match xs, ins with | [.rs za0_0 .i64 na0_0 fa0_0], [] => some ⟨(Sl Int), F_slices_Clone_int64_int64_H_raw fu (⟨za0_0, na0_0, fa0_0⟩ : (Sl Int)), enc_sl_i64_H⟩ | _, _ => none
theorem goodv_a30r (fu : Nat) (s_0 : (Sl Int)) (y : (Sl Int)) (hy : F_slices_Clone_int64_int64_H_raw fu s_0 = some y) : GoodX E Try.prog 138 [(.rs s_0.z .i64 s_0.n s_0.f)] [] (enc_sl_i64_H y).1 (enc_sl_i64_H y).2 :=
  funX_good (ke := false) E_ok (pc_good (pc := pc_a30r fu) hpc0 hpx0) (fn := Try.f138) (c := body_a30r) (out := out_sl_i64_H) (y := y) (by kernel_rfl) (by kernel_rfl) (by kernel_rfl) (lpok_a30r fu) (by kernel_rfl) (Nat.zero_le _) (fun d os hd => out_sl_i64_H_enc d os _ hd) ((ev_a30r fu s_0).trans hy)
def F_slices_Clone_int64_int64_H (fu : Nat) (s_0 : (Sl Int)) : Option ((Sl Int)) := bif decide (s_0.n ≤ 9223372036854775807) && decide (s_0.n * 8 ≤ 140737488355328) then some ⟨none, s_0.n, s_0.f⟩ else none
def S_a30 (fu : Nat) (xs : List (D RT den)) (ins : List (Ob RT den)) : Option (OutX RT den) := match xs, ins with | [.rs za0_0 .i64 na0_0 fa0_0], [] => some ⟨(Sl Int), F_slices_Clone_int64_int64_H fu (⟨za0_0, na0_0, fa0_0⟩ : (Sl Int)), enc_sl_i64_H⟩ | _, _ => none
theorem good_a30 (fu : Nat) : ∀ xs ins o, S_a30 fu xs ins = some o → ∀ y, o.x = some y → GoodX E Try.prog 138 xs ins (o.g y).1 (o.g y).2 := by
  intro xs ins o h y hy
  unfold S_a30 at h
  split at h
  · rename_i za0_0 na0_0 fa0_0
    cases h
    have hy : F_slices_Clone_int64_int64_H fu ⟨za0_0, na0_0, fa0_0⟩ = some y := hy
    unfold F_slices_Clone_int64_int64_H at hy
    dsimp only at hy
    cases hc : (decide (na0_0 ≤ 9223372036854775807) && decide (na0_0 * 8 ≤ 140737488355328)) with
    | false => rw [hc] at hy; cases hy
    | true =>
      rw [hc] at hy
      have hy := Option.some.inj hy; subst hy
      refine GoodX.clone (d0 := fun _ => dflt .i64) (goodv_a30r fu ⟨some true, na0_0, fa0_0⟩ ⟨some true, 0, fun _ => dflt .i64⟩ rfl) (goodv_a30r fu ⟨some false, na0_0, fa0_0⟩ ⟨none, na0_0, fa0_0⟩ ?_) _
      unfold F_slices_Clone_int64_int64_H_raw
      simp only [Option.bind_some, cond_false, hc, cond_true]
  · cases h

/-! (impl.Config).copied -/
def F_impl_Config_copied_U_B0 {ρ : Type} (fu : Nat) (t14_0 : Nat) (t15_1 : Int) (o0_3 : Int) (o1_4 : Int) (o1_5 : Nat) (o1_6 : Nat) (on2_7 : Nat) (of2_8 : (Nat → S_impl_Backend)) (on3_9 : Nat) (k0 : Nat → (Nat → S_impl_Vip) → Option ρ) (t16_2 : Int) (op3_10 : Nat) (of3_11 : (Nat → S_impl_Vip)) (go : Int → Nat → (Nat → S_impl_Vip) → Option ρ) : Option ρ :=
  (bif (decide (t16_2 < t15_1)) then ((bif (decide (0 ≤ t16_2) && decide ((Int.toNat t16_2) < t14_0)) then some () else none : Option Unit).bind fun _ => ((bif (decide (op3_10 ≤ (Int.toNat t16_2))) then
    some () else none : Option Unit).bind fun _ => ((F_slices_Clone_int64_int64_H fu (of3_11 (Int.toNat t16_2)).Names).bind fun y141 => ((bif (decide (0 ≤ t16_2) && decide ((Int.toNat t16_2) < o1_6)) then
    some () else none : Option Unit).bind fun _ => (bif (decide ((Int.toNat t16_2) = op3_10)) then (go (IntKind.wrap .i64 (t16_2 + 1)) (op3_10 + 1) (upd_impl_Vip_3_1 of3_11 (Int.toNat t16_2) (⟨none,
    y141.n, y141.f⟩ : (Sl Int)))) else none))))) else (k0 op3_10 of3_11))
def F_impl_Config_copied_U (fu : Nat) (c_0 : S_impl_Config) : Option (Int × Nat × Nat × Nat × (Nat → S_impl_Backend) × Nat × (Nat → S_impl_Vip)) :=
  ((F_slices_Clone_impl_Backend_impl_Backend_H fu c_0.Backends).bind fun y139 => ((F_slices_Clone_impl_Vip_impl_Vip_M fu c_0.Vips).bind fun y140 => (L (fun w0 go0 =>
    F_impl_Config_copied_U_B0 fu y140.1 ((y140.1 : Nat) : Int) 0 c_0.Version y139.n y140.1 y139.n y139.f y140.2.1 (fun z142 z143 => (bif (decide (y140.1 ≤ z142) && true) then (bif (decide (y140.1 = y140.1) &&
    true) then (some (c_0.Version, y139.n, y140.1, y139.n, y139.f, y140.1, z143)) else none) else none)) w0.1 w0.2.1 w0.2.2 (fun q0 q1 q2 => go0 (q0, q1, q2))) fu ((0, 0, y140.2.2) : Int × Nat × (Nat → S_impl_Vip)))))
def pcx_a31 (fu : Nat) (f : Nat) (xs : List (D RT den)) (ins : List (Ob RT den)) : Option (OutX RT den) := match f with | 136 => S_a28 fu xs ins | 137 => S_a29 fu xs ins | 138 => S_a30 fu xs ins | _ => none
def pcd_a31 : Nat → Bool := fun _ => false
def pc_a31 (fu : Nat) : Pc RT den := ⟨pcf0, fun f => match f with | 136 => true | 137 => true | 138 => true | _ => false, fun f => match f with | 137 => true | _ => false, pcd_a31, pcx_a31 fu⟩
def msk_a31 (b : Nat) : List Nat := match b with | 0 => [0, 3, 4, 5, 6, 7, 8, 9, 10, 11, 12, 13, 17, 18, 19, 20, 21, 22, 23, 24, 25, 26, 27, 28, 29, 30] | 100000 => [0, 3, 4, 5, 6, 7, 8, 9, 10, 11, 12, 13, 14, 15, 16, 17, 18, 19, 20, 21, 22, 23, 24, 25, 26, 27, 28, 29, 30] | 300000 => [5000003] | _ => []
def ps_a31_0 : List (Pat RT) := [.flat .q, .flat (.ref 1 0), .flat (.ref 0 0), .flat .q, .flat .q, .flat .q, .flat .q, .flat .q, .flat .q, .flat .q, .flat .q, .flat .q, .flat .q, .flat .q, .flat (.os 3), .flat (.int .i64), .flat (.int .i64), .flat .q, .flat .q, .flat .q, .flat .q, .flat .q, .flat .q, .flat .q, .flat .q, .flat .q, .flat .q, .flat .q, .flat .q, .flat .q, .flat .q]
def os_a31_0 : List (OP RT) := [.box false [(.int .i64), (.emp true .impl_Backend), (.emp true .impl_Vip)], .box false [(.int .i64), (.os 2), (.os 3)], .row false .impl_Backend, .deep false .impl_Vip]
def conv_a31_0 (r : Raw den ps_a31_0 os_a31_0) : (Nat × Int × Int × Int × Nat × Nat × Nat × (Nat → S_impl_Backend) × Nat) × (Int × Nat × (Nat → S_impl_Vip)) := ((r.1.2.2.2.2.2.2.2.2.2.2.2.2.2.2.1, r.1.2.2.2.2.2.2.2.2.2.2.2.2.2.2.2.1, r.2.1.1, r.2.2.1.1, r.2.2.1.2.1, r.2.2.1.2.2.1, r.2.2.2.1.1, r.2.2.2.1.2, r.2.2.2.2.1.1), (r.1.2.2.2.2.2.2.2.2.2.2.2.2.2.2.2.2.1, r.2.2.2.2.1.2.1, r.2.2.2.2.1.2.2))
def back_a31_0 (c : Nat × Int × Int × Int × Nat × Nat × Nat × (Nat → S_impl_Backend) × Nat) (w : Int × Nat × (Nat → S_impl_Vip)) : St RT den := ⟨[.q, (.ref 1 0), (.ref 0 0), .q, .q, .q, .q, .q, .q, .q, .q, .q, .q, .q, (.os 3 c.1), (.int .i64 c.2.1), (.int .i64 w.1), .q, .q, .q, .q, .q, .q, .q, .q, .q, .q, .q, .q, .q, .q], [(.box false [(.int .i64 c.2.2.1), (.emp true .impl_Backend), (.emp true .impl_Vip)]), (.box false [(.int .i64 c.2.2.2.1), (.os 2 c.2.2.2.2.1), (.os 3 c.2.2.2.2.2.1)]), (.row false .impl_Backend c.2.2.2.2.2.2.1 c.2.2.2.2.2.2.2.1), (.deep false .impl_Vip c.2.2.2.2.2.2.2.2 w.2.1 w.2.2)]⟩
def Bk_a31_0 {ρ : Type} (fu : Nat) (c : Nat × Int × Int × Int × Nat × Nat × Nat × (Nat → S_impl_Backend) × Nat) (k : Ex → St RT den → Option ρ) (w : Int × Nat × (Nat → S_impl_Vip)) (go : (Int × Nat × (Nat → S_impl_Vip)) → Option ρ) : Option ρ := F_impl_Config_copied_U_B0 fu c.1 c.2.1 c.2.2.1 c.2.2.2.1 c.2.2.2.2.1 c.2.2.2.2.2.1 c.2.2.2.2.2.2.1 c.2.2.2.2.2.2.2.1 c.2.2.2.2.2.2.2.2 (fun a0 a1 => k (.exit 0) ⟨[.q, (.ref 1 0), (.ref 0 0), .q, .q, .q, .q, .q, .q, .q, .q, .q, .q, .q, .q, .q, .q, .q, .q, .q, .q, .q, .q, .q, .q, .q, .q, .q, .q, .q, .q], [(.box false [(.int .i64 c.2.2.1), (.emp true .impl_Backend), (.emp true .impl_Vip)]), (.box false [(.int .i64 c.2.2.2.1), (.os 2 c.2.2.2.2.1), (.os 3 c.2.2.2.2.2.1)]), (.row false .impl_Backend c.2.2.2.2.2.2.1 c.2.2.2.2.2.2.2.1), (.deep false .impl_Vip c.2.2.2.2.2.2.2.2 a0 a1)]⟩) w.1 w.2.1 w.2.2 (fun q0 q1 q2 => go (q0, q1, q2))
def lp_a31 (fu : Nat) : Lp RT den (Int × Nat × Nat × Nat × (Nat → S_impl_Backend) × Nat × (Nat → S_impl_Vip)) := fun b s k => match b with | 0 => handle ps_a31_0 os_a31_0 conv_a31_0 (Bk_a31_0 fu) fu s k | _ => none
def pso_a31 : List (Pat RT) := [.agg [(.int .i64), (.os 0), (.os 1)]]
def oso_a31 : List (OP RT) := [.row false .impl_Backend, .deep false .impl_Vip]
def conv_a31 (r : Raw den pso_a31 oso_a31) : Int × Nat × Nat × Nat × (Nat → S_impl_Backend) × Nat × (Nat → S_impl_Vip) := (r.1.1.1, r.1.1.2.1, r.1.1.2.2.1, r.2.1.1, r.2.1.2, r.2.2.1.1, r.2.2.1.2.2)
def enc_a31 (y : Int × Nat × Nat × Nat × (Nat → S_impl_Backend) × Nat × (Nat → S_impl_Vip)) : D RT den × List (Ob RT den) := ((.agg [(.int .i64 y.1), (.os 0 y.2.1), (.os 1 y.2.2.1)]), [(.row false .impl_Backend y.2.2.2.1 y.2.2.2.2.1), (.deep false .impl_Vip y.2.2.2.2.2.1 y.2.2.2.2.2.1 y.2.2.2.2.2.2)])
def chk_a31 (r : Raw den pso_a31 oso_a31) : Bool := (decide (r.2.2.1.2.1 = r.2.2.1.1) && true)
def raw_a31 (r : Raw den pso_a31 oso_a31) : St RT den := ⟨[(.agg [(.int .i64 r.1.1.1), (.os 0 r.1.1.2.1), (.os 1 r.1.1.2.2.1)])], [(.row false .impl_Backend r.2.1.1 r.2.1.2), (.deep false .impl_Vip r.2.2.1.1 r.2.2.1.2.1 r.2.2.1.2.2)]⟩
theorem chkd_a31 (r : Raw den pso_a31 oso_a31) (h : chk_a31 r = true) : raw_a31 r = ⟨[(enc_a31 (conv_a31 r)).1], (enc_a31 (conv_a31 r)).2⟩ := by
  simp only [chk_a31, Bool.and_eq_true, decide_eq_true_eq, and_true] at h
  simp only [raw_a31, enc_a31, conv_a31, h]
def out_a31 (d : D RT den) (os : List (Ob RT den)) : Option (Int × Nat × Nat × Nat × (Nat → S_impl_Backend) × Nat × (Nat → S_impl_Vip)) := (unSt pso_a31 oso_a31 ⟨[d], os⟩).bind fun v => bif chk_a31 v.1 then some (conv_a31 v.1) else none
theorem out_a31_enc (d : D RT den) (os : List (Ob RT den)) (y : Int × Nat × Nat × Nat × (Nat → S_impl_Backend) × Nat × (Nat → S_impl_Vip)) (h : out_a31 d os = some y) : d = (enc_a31 y).1 ∧ os = (enc_a31 y).2 :=
  outU (conv := conv_a31) (enc := enc_a31) (chk := chk_a31) (fun raw h => Eq.trans (by kernel_rfl) (chkd_a31 raw h)) h
theorem ev_a31 (fu : Nat) (c_0 : S_impl_Config) : evFunU E (pc_a31 fu) msk_a31 (lp_a31 fu) out_a31 116 [(.agg [(.int .i64 c_0.Version), (.rs c_0.Backends.z .impl_Backend c_0.Backends.n c_0.Backends.f), (.rs c_0.Vips.z .impl_Vip c_0.Vips.n c_0.Vips.f)])] [] = F_impl_Config_copied_U fu c_0 := by kernel_rfl
noncomputable def body_a31 : Code := Try.f116.body.getD .skip
noncomputable def lc_a31_0 : Code := ((loops 0 body_a31).getD 0 (0, .skip)).2
theorem round_a31_0 (fu : Nat) (it : St RT den → Option (Int × Nat × Nat × Nat × (Nat → S_impl_Backend) × Nat × (Nat → S_impl_Vip))) (k : Ex → St RT den → Option (Int × Nat × Nat × Nat × (Nat → S_impl_Backend) × Nat × (Nat → S_impl_Vip))) c w : evCode E (pc_a31 fu) msk_a31 (lp_a31 fu) 0 lc_a31_0 (back_a31_0 c w) (after (msk_a31 0) (msk_a31 100000) 4 it k) = Bk_a31_0 fu c k w (fun w => it (back_a31_0 c w)) := by kernel_rfl
theorem lpok_a31_0 (fu : Nat) : ∀ s k r, lp_a31 fu 0 s k = some r → ∃ fuel, iter (msk_a31 0) (msk_a31 100000) s.objs.length (evCode E (pc_a31 fu) msk_a31 (lp_a31 fu) 0 lc_a31_0) fuel s k = some r :=
  handle_ok (ps := ps_a31_0) (os := os_a31_0) (conv := conv_a31_0) (B := Bk_a31_0 fu) (fu := fu) back_a31_0 (fun raw => by kernel_rfl) 4 (fun c w => by kernel_rfl) (round_a31_0 fu)
theorem lpok_a31 (fu : Nat) : LpOk E (pc_a31 fu) msk_a31 (lp_a31 fu) (loops 0 body_a31) := loop_all 1 (by kernel_rfl) fun i hi => match i, hi with
  | 0, _ => by
    have h : (loops 0 body_a31).getD 0 (0, .skip) = (0, lc_a31_0) := by kernel_rfl
    rw [h]; exact lpok_a31_0 fu
  | i + 1, hi => absurd hi (by omega)
def S_a31 (fu : Nat) (xs : List (D RT den)) (ins : List (Ob RT den)) : Option (OutX RT den) := match xs, ins with | [.agg [.int .i64 a0_1, .rs za0_2 .impl_Backend na0_2 fa0_2, .rs za0_3 .impl_Vip na0_3 fa0_3]], [] => some ⟨Int × Nat × Nat × Nat × (Nat → S_impl_Backend) × Nat × (Nat → S_impl_Vip), F_impl_Config_copied_U fu (⟨a0_1, (⟨za0_2, na0_2, fa0_2⟩ : (Sl S_impl_Backend)), (⟨za0_3, na0_3, fa0_3⟩ : (Sl S_impl_Vip))⟩ : S_impl_Config), enc_a31⟩ | _, _ => none
theorem hpx_a31 (fu : Nat) : ∀ f xs ins o, pcx_a31 fu f xs ins = some o → ∀ y, o.x = some y → GoodXD E Try.prog (pcd_a31 f) f xs ins (o.g y).1 (o.g y).2 := by
  intro f xs ins o h
  unfold pcx_a31 at h
  split at h
  · exact good_a28 fu xs ins o h
  · exact good_a29 fu xs ins o h
  · exact good_a30 fu xs ins o h
  · cases h
theorem goodv_a31 (fu : Nat) (c_0 : S_impl_Config) (y : Int × Nat × Nat × Nat × (Nat → S_impl_Backend) × Nat × (Nat → S_impl_Vip)) (hy : F_impl_Config_copied_U fu c_0 = some y) : GoodD E Try.prog 116 [(.agg [(.int .i64 c_0.Version), (.rs c_0.Backends.z .impl_Backend c_0.Backends.n c_0.Backends.f), (.rs c_0.Vips.z .impl_Vip c_0.Vips.n c_0.Vips.f)])] [] (enc_a31 y).1 (enc_a31 y).2 :=
  funU_good E_ok (pc_good (pc := pc_a31 fu) hpc0 (hpx_a31 fu)) (fn := Try.f116) (c := body_a31) (out := out_a31) (y := y) (by kernel_rfl) (by kernel_rfl) (by kernel_rfl) (lpok_a31 fu) (by kernel_rfl) (Nat.le_of_ble_eq_true (by kernel_rfl)) (Fulls.get 0 (And.intro (Nat.le_refl _) trivial)) (fun d os hd => out_a31_enc d os _ hd) ((ev_a31 fu c_0).trans hy)
theorem good_a31 (fu : Nat) : ∀ xs ins o, S_a31 fu xs ins = some o → ∀ y, o.x = some y → GoodD E Try.prog 116 xs ins (o.g y).1 (o.g y).2 := by
  intro xs ins o h y hy
  unfold S_a31 at h
  split at h
  · rename_i a0_1 za0_2 na0_2 fa0_2 za0_3 na0_3 fa0_3
    cases h
    exact goodv_a31 fu (⟨a0_1, (⟨za0_2, na0_2, fa0_2⟩ : (Sl S_impl_Backend)), (⟨za0_3, na0_3, fa0_3⟩ : (Sl S_impl_Vip))⟩ : S_impl_Config) y hy
  · cases h
end Go.Proofs.Ytknnfcbagbafaaa.Pc
