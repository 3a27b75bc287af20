/- The functions' evaluated forms, each a proved summary. Conditions: none. -/
import Derived.Test.YtcmfekgdlaffkaaPcF0
namespace Go.Proofs.Ytcmfekgdlaffkaa.Pc
open Go Go.RowKit Go.Proofs Vm
set_option linter.unusedVariables false
set_option linter.unusedSimpArgs false
set_option maxRecDepth 100000
abbrev Yb0 : Type := Int × (Sl Int) × Int × Bool × Nat × Nat × (Nat → Int)
abbrev Yb1 : Type := (Sl Int) × Int × Int × Int × Nat × Nat × (Nat → S_impl_Backend)
abbrev Yb2 : Type := Int × (Sl Int) × Int × Bool × Nat × Nat × (Nat → S_impl_Backend)
abbrev Yb3 : Type := Int × (Sl Int) × Int × Bool × Nat × Nat × Nat × (Nat → S_impl_Vip)
abbrev Yb4 : Type := Int × Int × Nat × Nat × Nat × (Nat → S_impl_Backend) × Nat × (Nat → S_impl_Vip)
abbrev Yb5 : Type := Int × (Sl S_impl_Backend) × (Sl S_impl_Vip) × Int × Int × Int × Int × (Sl Int) × Nat × (Nat → Int) × Nat × (Nat → Int)
abbrev Yb6 : Type := (Sl Int) × Int × Int × Int × Int × Nat × Nat × Nat × (Nat → S_impl_Backend) × Nat × Nat × (Nat → S_impl_Vip) × Int × Int × Int
def F_spec_l6Config_H_B0 {ρ : Type} (fu : Nat) (c0_0 : Int) (c0_1 : (Sl S_impl_Backend)) (c0_2 : (Sl S_impl_Vip)) (k0 : Nat → Nat → (Nat → Int) → Option ρ) (out3_3 : Nat) (i4_4 : Int) (on0_5 : Nat) (of0_6 : (Nat → Int)) (go : Nat → Int → Nat → (Nat → Int) → Option ρ) : Option ρ :=
 (bif (decide (i4_4 < ((c0_1.n : Nat) : Int))) then ((bif (decide (0 ≤ i4_4) && decide ((Int.toNat i4_4) < c0_1.n)) then some () else none : Option Unit).bind fun _ => (bif (c0_1.f (Int.toNat i4_4)).Up then
  ((F_spec_l1Bytes_H fu (c0_1.f (Int.toNat i4_4)).Name 2).bind fun y189 => (bif (decide ((out3_3 + y189.n) ≤ 9223372036854775807) && decide ((out3_3 + y189.n) * 1 ≤ 140737488355328)) then
  ((F_spec_l1Bytes_H fu (c0_1.f (Int.toNat i4_4)).Address 4).bind fun y190 => (bif (decide (((out3_3 + y189.n) + y190.n) ≤ 9223372036854775807) && decide (((out3_3 + y189.n) + y190.n) * 1 ≤ 140737488355328)) then
  (bif (decide ((((out3_3 + y189.n) + y190.n) + 1) ≤ 9223372036854775807) && decide ((((out3_3 + y189.n) + y190.n) + 1) * 1 ≤ 140737488355328)) then (go (((out3_3 + y189.n) + y190.n) + 1) (IntKind.wrap .i64 (i4_4 + 1)) (((out3_3 + y189.n) + y190.n) + 1) (fun i =>
  if i < ((out3_3 + y189.n) + y190.n) then ((fun i => if i < (out3_3 + y189.n) then ((fun i => if i < out3_3 then (of0_6 i) else (y189.f (i - out3_3))) i) else (y190.f (i - (out3_3 + y189.n)))) i) else
  ((fun i => ([(IntKind.wrap .u8 (IntKind.wrap .i64 ((IntKind.wrap .i64 ((IntKind.wrap .i64 (8 * (c0_1.f (Int.toNat i4_4)).Weight)) + (IntKind.wrap .i64 (2 * (c0_1.f (Int.toNat i4_4)).Stage)))) + 1)))] : List (Int)).getD i (dflt .u8)) (i - ((out3_3 + y189.n) + y190.n))))) else
  none) else none)) else none)) else ((F_spec_l1Bytes_H fu (c0_1.f (Int.toNat i4_4)).Name 2).bind fun y191 => (bif (decide ((out3_3 + y191.n) ≤ 9223372036854775807) && decide ((out3_3 + y191.n) * 1 ≤ 140737488355328)) then
  ((F_spec_l1Bytes_H fu (c0_1.f (Int.toNat i4_4)).Address 4).bind fun y192 => (bif (decide (((out3_3 + y191.n) + y192.n) ≤ 9223372036854775807) && decide (((out3_3 + y191.n) + y192.n) * 1 ≤ 140737488355328)) then
  (bif (decide ((((out3_3 + y191.n) + y192.n) + 1) ≤ 9223372036854775807) && decide ((((out3_3 + y191.n) + y192.n) + 1) * 1 ≤ 140737488355328)) then (go (((out3_3 + y191.n) + y192.n) + 1) (IntKind.wrap .i64 (i4_4 + 1)) (((out3_3 + y191.n) + y192.n) + 1) (fun i =>
  if i < ((out3_3 + y191.n) + y192.n) then ((fun i => if i < (out3_3 + y191.n) then ((fun i => if i < out3_3 then (of0_6 i) else (y191.f (i - out3_3))) i) else (y192.f (i - (out3_3 + y191.n)))) i) else
  ((fun i => ([(IntKind.wrap .u8 (IntKind.wrap .i64 ((IntKind.wrap .i64 (8 * (c0_1.f (Int.toNat i4_4)).Weight)) + (IntKind.wrap .i64 (2 * (c0_1.f (Int.toNat i4_4)).Stage)))))] : List (Int)).getD i (dflt .u8)) (i - ((out3_3 + y191.n) + y192.n))))) else
  none) else none)) else none)))) else (k0 out3_3 on0_5 of0_6))
def F_spec_l6Config_H_B4 {ρ : Type} (fu : Nat) (c0_0 : Int) (c0_1 : (Sl S_impl_Backend)) (c0_2 : (Sl S_impl_Vip)) (i7_4 o1_8 o1_9 o1_10 : Int) (o1_11 : (Sl Int)) (on2_12 : Nat) (of2_13 : (Nat → Int)) (on3_14 : Nat) (of3_15 : (Nat → Int)) (k0 : Nat → Nat → (Nat → Int) → Option ρ) (out3_3 : Nat) (k9_5 : Int) (on0_6 : Nat) (of0_7 : (Nat → Int)) (go : Nat → Int → Nat → (Nat → Int) → Option ρ) : Option ρ :=
 (bif (decide (k9_5 < ((o1_11.n : Nat) : Int))) then ((bif (decide (0 ≤ k9_5) && decide ((Int.toNat k9_5) < o1_11.n)) then some () else none : Option Unit).bind fun _ =>
  ((F_spec_l1Bytes_H fu (o1_11.f (Int.toNat k9_5)) 2).bind fun y198 => (bif (decide ((out3_3 + y198.n) ≤ 9223372036854775807) && decide ((out3_3 + y198.n) * 1 ≤ 140737488355328)) then
  (go (out3_3 + y198.n) (IntKind.wrap .i64 (k9_5 + 1)) (out3_3 + y198.n) (fun i => if i < out3_3 then (of0_7 i) else (y198.f (i - out3_3)))) else none))) else (k0 out3_3 on0_6 of0_7))
def F_spec_l6Config_H_B2 {ρ : Type} (fu : Nat) (c0_0 : Int) (c0_1 : (Sl S_impl_Backend)) (c0_2 : (Sl S_impl_Vip)) (k0 : Nat → Nat → (Nat → Int) → Option ρ) (out3_3 : Nat) (i7_4 : Int) (on0_5 : Nat) (of0_6 : (Nat → Int)) (go : Nat → Int → Nat → (Nat → Int) → Option ρ) : Option ρ :=
 (bif (decide (i7_4 < ((c0_2.n : Nat) : Int))) then ((bif (decide (0 ≤ i7_4) && decide ((Int.toNat i7_4) < c0_2.n)) then some () else none : Option Unit).bind fun _ =>
  ((F_spec_l1Bytes_H fu (c0_2.f (Int.toNat i7_4)).Address 4).bind fun y196 => (bif (decide ((out3_3 + y196.n) ≤ 9223372036854775807) && decide ((out3_3 + y196.n) * 1 ≤ 140737488355328)) then
  ((F_spec_l1Bytes_H fu (c0_2.f (Int.toNat i7_4)).Port 2).bind fun y197 => (bif (decide (((out3_3 + y196.n) + y197.n) ≤ 9223372036854775807) && decide (((out3_3 + y196.n) + y197.n) * 1 ≤ 140737488355328)) then
  (bif (decide ((((out3_3 + y196.n) + y197.n) + 2) ≤ 9223372036854775807) && decide ((((out3_3 + y196.n) + y197.n) + 2) * 1 ≤ 140737488355328)) then (L (fun w4 go4 =>
  F_spec_l6Config_H_B4 fu c0_0 c0_1 c0_2 i7_4 ((c0_2.f (Int.toNat i7_4)).Address) ((c0_2.f (Int.toNat i7_4)).Port) ((c0_2.f (Int.toNat i7_4)).Proto) ((c0_2.f (Int.toNat i7_4)).Names) y196.n y196.f y197.n y197.f (fun z199 z200 z201 =>
  (go z199 (IntKind.wrap .i64 (i7_4 + 1)) z200 z201)) w4.1 w4.2.1 w4.2.2.1 w4.2.2.2 (fun q0 q1 q2 q3 => go4 (q0, q1, q2, q3))) fu (((((out3_3 + y196.n) + y197.n) + 2), 0,
  (((out3_3 + y196.n) + y197.n) + 2), (fun i => if i < ((out3_3 + y196.n) + y197.n) then ((fun i => if i < (out3_3 + y196.n) then ((fun i => if i < out3_3 then (of0_6 i) else
  (y196.f (i - out3_3))) i) else (y197.f (i - (out3_3 + y196.n)))) i) else ((fun i => ([(IntKind.wrap .u8 (c0_2.f (Int.toNat i7_4)).Proto), (IntKind.wrap .u8 (((c0_2.f (Int.toNat i7_4)).Names.n : Nat) : Int))] : List (Int)).getD i (dflt .u8)) (i - ((out3_3 + y196.n) + y197.n))))) : Nat × Int × Nat × (Nat → Int))) else
  none) else none)) else none))) else (k0 out3_3 on0_5 of0_6))
def F_spec_l6Config_H (fu : Nat) (c_0 : S_impl_Config) : Option ((Sl Int)) :=
 ((F_spec_l1Bytes_H fu c_0.Version 4).bind fun y188 => (bif (decide ((y188.n + 1) ≤ 9223372036854775807) && decide ((y188.n + 1) * 1 ≤ 140737488355328)) then (L (fun w0 go0 =>
  F_spec_l6Config_H_B0 fu c_0.Version c_0.Backends c_0.Vips (fun z193 z194 z195 => (bif (decide ((z193 + 1) ≤ 9223372036854775807) && decide ((z193 + 1) * 1 ≤ 140737488355328)) then
  (L (fun w2 go2 => F_spec_l6Config_H_B2 fu c_0.Version c_0.Backends c_0.Vips (fun z202 z203 z204 => (some (⟨none, z202, z204⟩ : (Sl Int)))) w2.1 w2.2.1 w2.2.2.1 w2.2.2.2 (fun q0 q1 q2 q3 =>
  go2 (q0, q1, q2, q3))) fu (((z193 + 1), 0, (z193 + 1), (fun i => if i < z193 then (z195 i) else ((fun i => ([(IntKind.wrap .u8 ((c_0.Vips.n : Nat) : Int))] : List (Int)).getD i (dflt .u8)) (i - z193)))) : Nat × Int × Nat × (Nat → Int))) else
  none)) w0.1 w0.2.1 w0.2.2.1 w0.2.2.2 (fun q0 q1 q2 q3 => go0 (q0, q1, q2, q3))) fu (((y188.n + 1), 0, (y188.n + 1), (fun i => if i < y188.n then (y188.f i) else ((fun i =>
  ([(IntKind.wrap .u8 ((c_0.Backends.n : Nat) : Int))] : List (Int)).getD i (dflt .u8)) (i - y188.n)))) : Nat × Int × Nat × (Nat → Int))) else none))
def pcx_a15 (fu f : Nat) (xs : List (D RT den)) (ins : List (Ob RT den)) : Option (OutX RT den) := match f with | 76 => S_a14 fu xs ins | _ => none
def pcd_a15 : Nat → Bool := fun _ => false
def pc_a15 (fu : Nat) : Pc RT den := ⟨pcf0, fun f => match f with | 76 => true | _ => false, fun _ => false, pcd_a15, pcd0, pcd0, pcx_a15 fu⟩
def msk_a15 (b : Nat) : List Nat := match b with | 0 => (1 :: 2 :: (rg 5 117 [])) | 100000 => (1 :: (rg 4 118 [])) | 2 => (1 :: 2 :: 4 :: 5 :: 6 :: (rg 8 114 [])) | 100002 => (0 :: 1 :: (rg 4 118 [])) | 4 => (1 :: 2 :: 4 :: 5 :: 6 :: (rg 10 112 [])) | 100004 => (1 :: 4 :: 5 :: 6 :: (rg 8 114 [])) | 300000 => [3] | 300002 => [3] | 300004 => [3] | _ => []
def ps_a15_0 : List (Pat RT) := (.rptr [(.int .i64), (.rs .impl_Backend), (.rs .impl_Vip)] :: .flat .q :: .flat .q :: .flat (.os 0) :: .flat (.int .i64) :: (fq 117 []))
def os_a15_0 : List (OP RT) := [.row false .u8]
def conv_a15_0 (r : Raw den ps_a15_0 os_a15_0) : (Int × (Sl S_impl_Backend) × (Sl S_impl_Vip)) × (Nat × Int × Nat × (Nat → Int)) := ((r.1.1.1, r.1.1.2.1, r.1.1.2.2.1), (r.1.2.2.2.1, r.1.2.2.2.2.1, r.2.1.1, r.2.1.2))
def back_a15_0 (c : Int × (Sl S_impl_Backend) × (Sl S_impl_Vip)) (w : Nat × Int × Nat × (Nat → Int)) : St RT den := ⟨((.rptr [(ii c.1), (.rs c.2.1.z .impl_Backend c.2.1.n c.2.1.f), (.rs c.2.2.z .impl_Vip c.2.2.n c.2.2.f)]) :: .q :: .q :: (.os 0 w.1) :: (ii w.2.1) :: (qs 117 [])), [(.row false .u8 w.2.2.1 w.2.2.2)]⟩
def Bk_a15_0 {ρ : Type} (fu : Nat) (c : Int × (Sl S_impl_Backend) × (Sl S_impl_Vip)) (k : Ex → St RT den → Option ρ) (w : Nat × Int × Nat × (Nat → Int)) (go : (Nat × Int × Nat × (Nat → Int)) → Option ρ) : Option ρ := F_spec_l6Config_H_B0 fu c.1 c.2.1 c.2.2 (fun a0 a1 a2 => k (.exit 0) ⟨((.rptr [(ii c.1), (.rs c.2.1.z .impl_Backend c.2.1.n c.2.1.f), (.rs c.2.2.z .impl_Vip c.2.2.n c.2.2.f)]) :: .q :: .q :: (.os 0 a0) :: (qs 118 [])), [(.row false .u8 a1 a2)]⟩) w.1 w.2.1 w.2.2.1 w.2.2.2 (fun q0 q1 q2 q3 => go (q0, q1, q2, q3))
def ps_a15_4 : List (Pat RT) := (.rptr [(.int .i64), (.rs .impl_Backend), (.rs .impl_Vip)] :: .flat .q :: .flat .q :: .flat (.os 0) :: .flat .q :: .flat .q :: .flat .q :: .flat (.int .i64) :: .flat (.ref 1 0) :: .flat (.int .i64) :: (fq 112 []))
def os_a15_4 : List (OP RT) := [.row false .u8, .box false [(.int .i64), (.int .i64), (.int .i64), (.rs .i64)], .row false .u8, .row false .u8]
def conv_a15_4 (r : Raw den ps_a15_4 os_a15_4) : (Yb5) × (Nat × Int × Nat × (Nat → Int)) := ((r.1.1.1, r.1.1.2.1, r.1.1.2.2.1, (e5 r.1).2.2.1, r.2.2.1.1, r.2.2.1.2.1, r.2.2.1.2.2.1, r.2.2.1.2.2.2.1, r.2.2.2.1.1, r.2.2.2.1.2, r.2.2.2.2.1.1, r.2.2.2.2.1.2), (r.1.2.2.2.1, (e5 r.1).2.2.2.2.1, r.2.1.1, r.2.1.2))
def back_a15_4 (c : Yb5) (w : Nat × Int × Nat × (Nat → Int)) : St RT den := ⟨((.rptr [(ii c.1), (.rs c.2.1.z .impl_Backend c.2.1.n c.2.1.f), (.rs c.2.2.1.z .impl_Vip c.2.2.1.n c.2.2.1.f)]) :: .q :: .q :: (.os 0 w.1) :: .q :: .q :: .q :: (ii c.2.2.2.1) :: (.ref 1 0) :: (ii w.2.1) :: (qs 112 [])), [(.row false .u8 w.2.2.1 w.2.2.2), (.box false [(ii c.2.2.2.2.1), (ii (e5 c).1), (ii (e5 c).2.1), (.rs (e5 c).2.2.1.z .i64 (e5 c).2.2.1.n (e5 c).2.2.1.f)]), (.row false .u8 (e5 c).2.2.2.1 (e5 c).2.2.2.2.1), (.row false .u8 (e10 c).1 (e10 c).2)]⟩
def Bk_a15_4 {ρ : Type} (fu : Nat) (c : Yb5) (k : Ex → St RT den → Option ρ) (w : Nat × Int × Nat × (Nat → Int)) (go : (Nat × Int × Nat × (Nat → Int)) → Option ρ) : Option ρ := F_spec_l6Config_H_B4 fu c.1 c.2.1 c.2.2.1 c.2.2.2.1 c.2.2.2.2.1 (e5 c).1 (e5 c).2.1 (e5 c).2.2.1 (e5 c).2.2.2.1 (e5 c).2.2.2.2.1 (e10 c).1 (e10 c).2 (fun a0 a1 a2 => k (.exit 4) ⟨((.rptr [(ii c.1), (.rs c.2.1.z .impl_Backend c.2.1.n c.2.1.f), (.rs c.2.2.1.z .impl_Vip c.2.2.1.n c.2.2.1.f)]) :: .q :: .q :: (.os 0 a0) :: .q :: .q :: .q :: (ii c.2.2.2.1) :: (qs 114 [])), [(.row false .u8 a1 a2), (.box false [(ii c.2.2.2.2.1), (ii (e5 c).1), (ii (e5 c).2.1), (.rs (e5 c).2.2.1.z .i64 (e5 c).2.2.1.n (e5 c).2.2.1.f)]), (.row false .u8 (e5 c).2.2.2.1 (e5 c).2.2.2.2.1), (.row false .u8 (e10 c).1 (e10 c).2)]⟩) w.1 w.2.1 w.2.2.1 w.2.2.2 (fun q0 q1 q2 q3 => go (q0, q1, q2, q3))
def ps_a15_2 : List (Pat RT) := (.rptr [(.int .i64), (.rs .impl_Backend), (.rs .impl_Vip)] :: .flat .q :: .flat .q :: .flat (.os 0) :: .flat .q :: .flat .q :: .flat .q :: .flat (.int .i64) :: (fq 114 []))
def os_a15_2 : List (OP RT) := [.row false .u8]
def conv_a15_2 (r : Raw den ps_a15_2 os_a15_2) : (Int × (Sl S_impl_Backend) × (Sl S_impl_Vip)) × (Nat × Int × Nat × (Nat → Int)) := ((r.1.1.1, r.1.1.2.1, r.1.1.2.2.1), (r.1.2.2.2.1, (e5 r.1).2.2.1, r.2.1.1, r.2.1.2))
def back_a15_2 (c : Int × (Sl S_impl_Backend) × (Sl S_impl_Vip)) (w : Nat × Int × Nat × (Nat → Int)) : St RT den := ⟨((.rptr [(ii c.1), (.rs c.2.1.z .impl_Backend c.2.1.n c.2.1.f), (.rs c.2.2.z .impl_Vip c.2.2.n c.2.2.f)]) :: .q :: .q :: (.os 0 w.1) :: .q :: .q :: .q :: (ii w.2.1) :: (qs 114 [])), [(.row false .u8 w.2.2.1 w.2.2.2)]⟩
def Bk_a15_2 {ρ : Type} (fu : Nat) (c : Int × (Sl S_impl_Backend) × (Sl S_impl_Vip)) (k : Ex → St RT den → Option ρ) (w : Nat × Int × Nat × (Nat → Int)) (go : (Nat × Int × Nat × (Nat → Int)) → Option ρ) : Option ρ := F_spec_l6Config_H_B2 fu c.1 c.2.1 c.2.2 (fun a0 a1 a2 => k (.exit 2) ⟨(.q :: .q :: .q :: (.os 0 a0) :: (qs 118 [])), [(.row false .u8 a1 a2)]⟩) w.1 w.2.1 w.2.2.1 w.2.2.2 (fun q0 q1 q2 q3 => go (q0, q1, q2, q3))
def lp_a15 (fu : Nat) : Lp RT den ((Sl Int)) := ⟨fun b s k => match b with | 0 => handle ps_a15_0 os_a15_0 conv_a15_0 (Bk_a15_0 fu) fu s k | 2 => handle ps_a15_2 os_a15_2 conv_a15_2 (Bk_a15_2 fu) fu s k | 4 => handle ps_a15_4 os_a15_4 conv_a15_4 (Bk_a15_4 fu) fu s k | _ => none, inl0⟩
theorem ev_a15 (fu : Nat) (c_0 : S_impl_Config) : evFunX E false (pc_a15 fu) msk_a15 (lp_a15 fu) out_sl_u8_H 33 [(.rptr [(ii c_0.Version), (.rs c_0.Backends.z .impl_Backend c_0.Backends.n c_0.Backends.f), (.rs c_0.Vips.z .impl_Vip c_0.Vips.n c_0.Vips.f)])] [] = F_spec_l6Config_H fu c_0 := by kernel_rfl
noncomputable def body_a15 : Code := Try.f33.body.getD .skip
noncomputable def lc_a15_0 : Code := ((loops 0 body_a15).getD 0 (0, .skip)).2
theorem round_a15_0 (fu : Nat) : RoundOk E (pc_a15 fu) msk_a15 (lp_a15 fu) 0 lc_a15_0 back_a15_0 0 100000 1 (Bk_a15_0 fu) := fun it k c w => by kernel_rfl
theorem lpok_a15_0 (fu : Nat) : LpAt E (pc_a15 fu) msk_a15 (lp_a15 fu) 0 0 100000 0 lc_a15_0 :=
 handle_ok (ps := ps_a15_0) (os := os_a15_0) (conv := conv_a15_0) (B := Bk_a15_0 fu) (fu := fu) back_a15_0 (fun raw => by kernel_rfl) 1 (fun c w => by kernel_rfl) (round_a15_0 fu)
noncomputable def lc_a15_2 : Code := ((loops 0 body_a15).getD 1 (0, .skip)).2
theorem round_a15_2 (fu : Nat) : RoundOk E (pc_a15 fu) msk_a15 (lp_a15 fu) 2 lc_a15_2 back_a15_2 2 100002 1 (Bk_a15_2 fu) := fun it k c w => by kernel_rfl
theorem lpok_a15_2 (fu : Nat) : LpAt E (pc_a15 fu) msk_a15 (lp_a15 fu) 2 2 100002 2 lc_a15_2 :=
 handle_ok (ps := ps_a15_2) (os := os_a15_2) (conv := conv_a15_2) (B := Bk_a15_2 fu) (fu := fu) back_a15_2 (fun raw => by kernel_rfl) 1 (fun c w => by kernel_rfl) (round_a15_2 fu)
noncomputable def lc_a15_4 : Code := ((loops 0 body_a15).getD 2 (0, .skip)).2
theorem round_a15_4 (fu : Nat) : RoundOk E (pc_a15 fu) msk_a15 (lp_a15 fu) 4 lc_a15_4 back_a15_4 4 100004 4 (Bk_a15_4 fu) := fun it k c w => by kernel_rfl
theorem lpok_a15_4 (fu : Nat) : LpAt E (pc_a15 fu) msk_a15 (lp_a15 fu) 4 4 100004 4 lc_a15_4 :=
 handle_ok (ps := ps_a15_4) (os := os_a15_4) (conv := conv_a15_4) (B := Bk_a15_4 fu) (fu := fu) back_a15_4 (fun raw => by kernel_rfl) 4 (fun c w => by kernel_rfl) (round_a15_4 fu)
theorem lpok_a15 (fu : Nat) : LpOk E (pc_a15 fu) 0 msk_a15 (lp_a15 fu) (loops 0 body_a15) := lp_nil (loop_all 3 (by kernel_rfl) fun i hi => match i, hi with
 | 0, _ => by
  have h : (loops 0 body_a15).getD 0 (0, .skip) = (0, lc_a15_0) := by kernel_rfl
  rw [h]; exact lpok_a15_0 fu
 | 1, _ => by
  have h : (loops 0 body_a15).getD 1 (0, .skip) = (2, lc_a15_2) := by kernel_rfl
  rw [h]; exact lpok_a15_2 fu
 | 2, _ => by
  have h : (loops 0 body_a15).getD 2 (0, .skip) = (4, lc_a15_4) := by kernel_rfl
  rw [h]; exact lpok_a15_4 fu
 | i + 3, hi => absurd hi (by omega)) (by kernel_rfl)
def S_a15 (fu : Nat) (xs : List (D RT den)) (ins : List (Ob RT den)) : Option (OutX RT den) := match xs, ins with | [.rptr [.int .i64 a0_1, .rs za0_2 .impl_Backend na0_2 fa0_2, .rs za0_3 .impl_Vip na0_3 fa0_3]], [] => some ⟨(Sl Int), F_spec_l6Config_H fu (⟨a0_1, (⟨za0_2, na0_2, fa0_2⟩ : (Sl S_impl_Backend)), (⟨za0_3, na0_3, fa0_3⟩ : (Sl S_impl_Vip))⟩ : S_impl_Config), enc_sl_u8_H⟩ | _, _ => none
theorem hpx_a15 (fu : Nat) : HpxOk E Try.prog pcd_a15 pcd0 (pcx_a15 fu) := by
 intro f xs ins o h
 unfold pcx_a15 at h
 split at h
 ·exact good_a14 fu xs ins o h
 ·cases h
theorem goodv_a15 (fu : Nat) (c_0 : S_impl_Config) (y : (Sl Int)) (hy : F_spec_l6Config_H fu c_0 = some y) : GoodX E Try.prog 33 [(.rptr [(ii c_0.Version), (.rs c_0.Backends.z .impl_Backend c_0.Backends.n c_0.Backends.f), (.rs c_0.Vips.z .impl_Vip c_0.Vips.n c_0.Vips.f)])] [] (enc_sl_u8_H y).1 (enc_sl_u8_H y).2 :=
 funX_good (ke := false) E_ok (pc_good (pc := pc_a15 fu) hpc0 (hpx_a15 fu)) (fn := Try.f33) (by kernel_rfl) (by kernel_rfl) (by kernel_rfl) (lpok_a15 fu) (by kernel_rfl) (Nat.zero_le _) (fun d os hd => out_sl_u8_H_enc d os _ hd) ((ev_a15 fu c_0).trans hy)
theorem good_a15 (fu : Nat) : GoodSX E Try.prog 33 (S_a15 fu) := by
 intro xs ins o h y hy
 unfold S_a15 at h
 split at h
 ·rename_i a0_1 za0_2 na0_2 fa0_2 za0_3 na0_3 fa0_3
  cases h
  exact goodv_a15 fu (⟨a0_1, (⟨za0_2, na0_2, fa0_2⟩ : (Sl S_impl_Backend)), (⟨za0_3, na0_3, fa0_3⟩ : (Sl S_impl_Vip))⟩ : S_impl_Config) y hy
 ·cases h
def F_spec_UnpackConfig_U_B0 {ρ : Type} (fu : Nat) (data0_0 : (Sl Int)) (o0_2 o0_3 o2_7 : Int) (k0 : (Sl Int) → Int → Bool → Nat → Nat → (Nat → S_impl_Backend) → Option ρ) (n5_1 : Int) (o1_4 : (Sl Int)) (o1_5 : Int) (o1_6 : Bool) (o2_8 on3_9 : Nat) (of3_10 : (Nat → S_impl_Backend)) (go : Int → (Sl Int) → Int → Bool → Nat → Nat → (Nat → S_impl_Backend) → Option ρ) : Option ρ :=
 (((bif (decide (n5_1 > 0)) then (some (!o1_6)) else (some false)) : Option Bool).bind fun m108 => (bif m108 then ((F_spec_l6Next_M fu 2 o1_4 o1_5 o1_6).bind fun y109 =>
  ((F_spec_l6Next_M fu 4 y109.2.1 y109.2.2.1 y109.2.2.2).bind fun y110 => ((F_spec_l6Next_M fu 1 y110.2.1 y110.2.2.1 y110.2.2.2).bind fun y111 => (bif (decide ((o2_8 + 1) ≤ 9223372036854775807) &&
  decide ((o2_8 + 1) * 40 ≤ 140737488355328)) then (go (IntKind.wrap .i64 (n5_1 - 1)) y111.2.1 y111.2.2.1 y111.2.2.2 (o2_8 + 1) (o2_8 + 1) (fun i => if i < o2_8 then (of3_10 i) else
  ((fun i => ([(⟨y109.1, y110.1, (IntKind.wrap .i64 (Int.tdiv y111.1 8)), (IntKind.wrap .i64 (Int.tdiv (Int.tmod y111.1 8) 2)), ((Int.tmod y111.1 2) == 1)⟩ : S_impl_Backend)] : List (S_impl_Backend)).getD i (dflt .impl_Backend)) (i - o2_8)))) else
  none)))) else (k0 o1_4 o1_5 o1_6 o2_8 on3_9 of3_10)))
def F_spec_UnpackConfig_U_B4 {ρ : Type} (fu : Nat) (data0_0 : (Sl Int)) (n8_1 o0_3 o0_4 o2_8 : Int) (o2_9 o2_10 on3_11 : Nat) (of3_12 : (Nat → S_impl_Backend)) (on4_13 op4_14 : Nat) (of4_15 : (Nat → S_impl_Vip)) (o5_16 o5_17 o5_18 : Int) (k0 : (Sl Int) → Int → Bool → Nat → Nat → (Nat → Int) → Option ρ) (k10_2 : Int) (o1_5 : (Sl Int)) (o1_6 : Int) (o1_7 : Bool) (o5_19 on6_20 : Nat) (of6_21 : (Nat → Int)) (go : Int → (Sl Int) → Int → Bool → Nat → Nat → (Nat → Int) → Option ρ) : Option ρ :=
 (((bif (decide (k10_2 > 0)) then (some (!o1_7)) else (some false)) : Option Bool).bind fun m124 => (bif m124 then ((F_spec_l6Next_M fu 2 o1_5 o1_6 o1_7).bind fun y125 => (bif (decide ((o5_19 + 1) ≤ 9223372036854775807) &&
  decide ((o5_19 + 1) * 8 ≤ 140737488355328)) then (go (IntKind.wrap .i64 (k10_2 - 1)) y125.2.1 y125.2.2.1 y125.2.2.2 (o5_19 + 1) (o5_19 + 1) (fun i => if i < o5_19 then (of6_21 i) else
  ((fun i => ([y125.1] : List (Int)).getD i (dflt .i64)) (i - o5_19)))) else none)) else (k0 o1_5 o1_6 o1_7 o5_19 on6_20 of6_21)))
def F_spec_UnpackConfig_U_B2 {ρ : Type} (fu : Nat) (data0_0 : (Sl Int)) (o0_2 o0_3 o2_7 : Int) (o2_8 on3_10 : Nat) (of3_11 : (Nat → S_impl_Backend)) (k0 : (Sl Int) → Int → Bool → Nat → Nat → Nat → (Nat → S_impl_Vip) → Option ρ) (n8_1 : Int) (o1_4 : (Sl Int)) (o1_5 : Int) (o1_6 : Bool) (o2_9 on4_12 op4_13 : Nat) (of4_14 : (Nat → S_impl_Vip)) (go : Int → (Sl Int) → Int → Bool → Nat → Nat → Nat → (Nat → S_impl_Vip) → Option ρ) : Option ρ :=
 (((bif (decide (n8_1 > 0)) then (some (!o1_6)) else (some false)) : Option Bool).bind fun m119 => (bif m119 then ((F_spec_l6Next_M fu 4 o1_4 o1_5 o1_6).bind fun y120 =>
  ((F_spec_l6Next_M fu 2 y120.2.1 y120.2.2.1 y120.2.2.2).bind fun y121 => ((F_spec_l6Next_M fu 1 y121.2.1 y121.2.2.1 y121.2.2.2).bind fun y122 => ((F_spec_l6Next_M fu 1 y122.2.1 y122.2.2.1 y122.2.2.2).bind fun y123 =>
  (L (fun w4 go4 => F_spec_UnpackConfig_U_B4 fu data0_0 n8_1 o0_2 o0_3 o2_7 o2_8 o2_9 on3_10 of3_11 on4_12 op4_13 of4_14 y120.1 y121.1 y122.1 (fun z126 z127 z128 z129 z130 z131 =>
  (bif (decide (o2_9 ≤ op4_13) && (decide ((o2_9 + 1) ≤ 9223372036854775807) && decide ((o2_9 + 1) * 48 ≤ 140737488355328))) then (go (IntKind.wrap .i64 (n8_1 - 1)) z126 z127 z128 (o2_9 + 1) (o2_9 + 1) (o2_9 + 1) (fun i =>
  if i < o2_9 then (of4_14 i) else (⟨y120.1, y121.1, y122.1, (⟨none, z129, z131⟩ : (Sl Int))⟩ : S_impl_Vip))) else none)) w4.1 w4.2.1 w4.2.2.1 w4.2.2.2.1 w4.2.2.2.2.1 w4.2.2.2.2.2.1 w4.2.2.2.2.2.2 (fun q0 q1 q2 q3 q4 q5 q6 =>
  go4 (q0, q1, q2, q3, q4, q5, q6))) fu ((y123.1, y123.2.1, y123.2.2.1, y123.2.2.2, 0, 0, (fun _ => dflt .i64)) : Yb0)))))) else
  (k0 o1_4 o1_5 o1_6 o2_9 on4_12 op4_13 of4_14)))
def F_spec_UnpackConfig_U (fu : Nat) (data_0 : (Sl Int)) : Option (Yb4) :=
 ((F_spec_l6Next_M fu 4 data_0 0 false).bind fun y106 => ((F_spec_l6Next_M fu 1 y106.2.1 y106.2.2.1 y106.2.2.2).bind fun y107 => (L (fun w0 go0 => F_spec_UnpackConfig_U_B0 fu data_0 0 0 y106.1 (fun z112 z113 z114 z115 z116 z117 =>
  ((F_spec_l6Next_M fu 1 z112 z113 z114).bind fun y118 => (L (fun w2 go2 => F_spec_UnpackConfig_U_B2 fu data_0 0 0 y106.1 z115 z116 z117 (fun z132 z133 z134 z135 z136 z137 z138 =>
  (bif z134 then (bif (decide ((0 : Nat) = 0) && true) then (some (5, 0, 0, 0, 0, (fun _ => dflt .impl_Backend), 0, (fun _ => dflt .impl_Vip))) else none) else (bif (z133 != ((data_0.n : Nat) : Int)) then
  (bif (decide ((0 : Nat) = 0) && true) then (some (5, 0, 0, 0, 0, (fun _ => dflt .impl_Backend), 0, (fun _ => dflt .impl_Vip))) else none) else ((F_spec_l5Fault fu (⟨y106.1,
  (⟨none, z115, z117⟩ : (Sl S_impl_Backend)), (⟨none, z135, z138⟩ : (Sl S_impl_Vip))⟩ : S_impl_Config)).bind fun y164 => (bif (y164 != 0) then (bif (decide ((0 : Nat) = 0) &&
  true) then (some (5, 0, 0, 0, 0, (fun _ => dflt .impl_Backend), 0, (fun _ => dflt .impl_Vip))) else none) else ((F_spec_l6Config_H fu (⟨y106.1, (⟨none, z115, z117⟩ : (Sl S_impl_Backend)),
  (⟨none, z135, z138⟩ : (Sl S_impl_Vip))⟩ : S_impl_Config)).bind fun y205 => (bif (!(ByteArray.toList (bytesOf y205.n (fun i => (y205.f i))) == ByteArray.toList (bytesOf data_0.n (fun i =>
  (data_0.f i))))) then (bif (decide ((0 : Nat) = 0) && true) then (some (5, 0, 0, 0, 0, (fun _ => dflt .impl_Backend), 0, (fun _ => dflt .impl_Vip))) else none) else (bif (decide (z135 ≤ z137) &&
  true) then (bif (decide (z135 = z135) && true) then (some (0, y106.1, z115, z135, z115, z117, z135, z138)) else none) else none)))))))) w2.1 w2.2.1 w2.2.2.1 w2.2.2.2.1 w2.2.2.2.2.1 w2.2.2.2.2.2.1 w2.2.2.2.2.2.2.1 w2.2.2.2.2.2.2.2 (fun q0 q1 q2 q3 q4 q5 q6 q7 =>
  go2 (q0, q1, q2, q3, q4, q5, q6, q7))) fu ((y118.1, y118.2.1, y118.2.2.1, y118.2.2.2, 0, 0, 0, (fun _ => dflt .impl_Vip)) : Yb3)))) w0.1 w0.2.1 w0.2.2.1 w0.2.2.2.1 w0.2.2.2.2.1 w0.2.2.2.2.2.1 w0.2.2.2.2.2.2 (fun q0 q1 q2 q3 q4 q5 q6 =>
  go0 (q0, q1, q2, q3, q4, q5, q6))) fu ((y107.1, y107.2.1, y107.2.2.1, y107.2.2.2, 0, 0, (fun _ => dflt .impl_Backend)) : Yb2))))
def pcf_a16 (fu f : Nat) (xs : List (D RT den)) : Option (Out RT den) := match f with | 32 => S_a13 fu xs | _ => none
def pcx_a16 (fu f : Nat) (xs : List (D RT den)) (ins : List (Ob RT den)) : Option (OutX RT den) := match f with | 31 => S_a2 fu xs ins | 33 => S_a15 fu xs ins | _ => none
def pcd_a16 : Nat → Bool := fun _ => false
def pc_a16 (fu : Nat) : Pc RT den := ⟨pcf_a16 fu, fun f => match f with | 31 => true | 33 => true | _ => false, fun f => match f with | 31 => true | _ => false, pcd_a16, fun f => match f with | 31 => true | _ => false, pcd0, pcx_a16 fu⟩
def msk_a16 (b : Nat) : List Nat := match b with | 0 => (1 :: (rg 6 102 [])) | 100000 => (1 :: (rg 5 103 [])) | 2 => (1 :: 5 :: 6 :: 7 :: (rg 9 99 [])) | 100002 => (1 :: (rg 5 103 [])) | 4 => (1 :: 5 :: 6 :: 7 :: (rg 11 97 [])) | 100004 => (1 :: 5 :: 6 :: 7 :: (rg 10 98 [])) | 200004 => [22] | 200014 => [54] | 200020 => [70] | 300000 => [1002001] | 300002 => [1002002, 5000004] | 300004 => [1004003, 1005003] | _ => []
def ps_a16_0 : List (Pat RT) := (.flat (.rs .u8) :: .flat .q :: .flat (.ref 0 0) :: .flat (.ref 1 0) :: .flat (.ref 2 0) :: .flat (.int .i64) :: (fq 102 []))
def os_a16_0 : List (OP RT) := [.box false [(.int .i64), (.int .i64), (.emp true .impl_Backend), (.emp true .impl_Vip)], .box false [(.rs .u8), (.int .i64), .bool], .box false [(.int .i64), (.os 3), (.emp true .impl_Vip)], .row false .impl_Backend]
def conv_a16_0 (r : Raw den ps_a16_0 os_a16_0) : ((Sl Int) × Int × Int × Int) × (Yb2) := ((r.1.1, r.2.1.1, r.2.1.2.1, r.2.2.2.1.1), ((e5 r.1).1, r.2.2.1.1, r.2.2.1.2.1, r.2.2.1.2.2.1, r.2.2.2.1.2.1, r.2.2.2.2.1.1, r.2.2.2.2.1.2))
def back_a16_0 (c : (Sl Int) × Int × Int × Int) (w : Yb2) : St RT den := ⟨((.rs c.1.z .u8 c.1.n c.1.f) :: .q :: (.ref 0 0) :: (.ref 1 0) :: (.ref 2 0) :: (ii w.1) :: (qs 102 [])), [(.box false [(ii c.2.1), (ii c.2.2.1), (.emp true .impl_Backend), (.emp true .impl_Vip)]), (.box false [(.rs w.2.1.z .u8 w.2.1.n w.2.1.f), (ii w.2.2.1), (.bool w.2.2.2.1)]), (.box false [(ii c.2.2.2), (.os 3 w.2.2.2.2.1), (.emp true .impl_Vip)]), (.row false .impl_Backend (e5 w).1 (e5 w).2)]⟩
def Bk_a16_0 {ρ : Type} (fu : Nat) (c : (Sl Int) × Int × Int × Int) (k : Ex → St RT den → Option ρ) (w : Yb2) (go : (Yb2) → Option ρ) : Option ρ := F_spec_UnpackConfig_U_B0 fu c.1 c.2.1 c.2.2.1 c.2.2.2 (fun a0 a1 a2 a3 a4 a5 => k (.exit 0) ⟨((.rs c.1.z .u8 c.1.n c.1.f) :: .q :: (.ref 0 0) :: (.ref 1 0) :: (.ref 2 0) :: (qs 103 [])), [(.box false [(ii c.2.1), (ii c.2.2.1), (.emp true .impl_Backend), (.emp true .impl_Vip)]), (.box false [(.rs a0.z .u8 a0.n a0.f), (ii a1), (.bool a2)]), (.box false [(ii c.2.2.2), (.os 3 a3), (.emp true .impl_Vip)]), (.row false .impl_Backend a4 a5)]⟩) w.1 w.2.1 w.2.2.1 w.2.2.2.1 w.2.2.2.2.1 (e5 w).1 (e5 w).2 (fun q0 q1 q2 q3 q4 q5 q6 => go (q0, q1, q2, q3, q4, q5, q6))
def ps_a16_4 : List (Pat RT) := (.flat (.rs .u8) :: .flat .q :: .flat (.ref 0 0) :: .flat (.ref 1 0) :: .flat (.ref 2 0) :: .flat .q :: .flat .q :: .flat .q :: .flat (.int .i64) :: .flat (.ref 5 0) :: .flat (.int .i64) :: (fq 97 []))
def os_a16_4 : List (OP RT) := [.box false [(.int .i64), (.int .i64), (.emp true .impl_Backend), (.emp true .impl_Vip)], .box false [(.rs .u8), (.int .i64), .bool], .box false [(.int .i64), (.os 3), (.os 4)], .row false .impl_Backend, .deep false .impl_Vip, .box false [(.int .i64), (.int .i64), (.int .i64), (.os 6)], .row false .i64]
def conv_a16_4 (r : Raw den ps_a16_4 os_a16_4) : (Yb6) × (Yb0) := ((r.1.1, (e5 r.1).2.2.2.1, r.2.1.1, r.2.1.2.1, r.2.2.2.1.1, r.2.2.2.1.2.1, r.2.2.2.1.2.2.1, r.2.2.2.2.1.1, r.2.2.2.2.1.2, (e5 r).1.1, (e5 r).1.2.1, (e5 r).1.2.2, (e5 r).2.1.1, (e5 r).2.1.2.1, (e5 r).2.1.2.2.1), ((e10 r.1).1, r.2.2.1.1, r.2.2.1.2.1, r.2.2.1.2.2.1, (e5 r).2.1.2.2.2.1, (e5 r).2.2.1.1, (e5 r).2.2.1.2))
def back_a16_4 (c : Yb6) (w : Yb0) : St RT den := ⟨((.rs c.1.z .u8 c.1.n c.1.f) :: .q :: (.ref 0 0) :: (.ref 1 0) :: (.ref 2 0) :: .q :: .q :: .q :: (ii c.2.1) :: (.ref 5 0) :: (ii w.1) :: (qs 97 [])), [(.box false [(ii c.2.2.1), (ii c.2.2.2.1), (.emp true .impl_Backend), (.emp true .impl_Vip)]), (.box false [(.rs w.2.1.z .u8 w.2.1.n w.2.1.f), (ii w.2.2.1), (.bool w.2.2.2.1)]), (.box false [(ii c.2.2.2.2.1), (.os 3 (e5 c).1), (.os 4 (e5 c).2.1)]), (.row false .impl_Backend (e5 c).2.2.1 (e5 c).2.2.2.1), (.deep false .impl_Vip (e5 c).2.2.2.2.1 (e10 c).1 (e10 c).2.1), (.box false [(ii (e10 c).2.2.1), (ii (e10 c).2.2.2.1), (ii (e10 c).2.2.2.2), (.os 6 w.2.2.2.2.1)]), (.row false .i64 (e5 w).1 (e5 w).2)]⟩
def Bk_a16_4 {ρ : Type} (fu : Nat) (c : Yb6) (k : Ex → St RT den → Option ρ) (w : Yb0) (go : (Yb0) → Option ρ) : Option ρ := F_spec_UnpackConfig_U_B4 fu c.1 c.2.1 c.2.2.1 c.2.2.2.1 c.2.2.2.2.1 (e5 c).1 (e5 c).2.1 (e5 c).2.2.1 (e5 c).2.2.2.1 (e5 c).2.2.2.2.1 (e10 c).1 (e10 c).2.1 (e10 c).2.2.1 (e10 c).2.2.2.1 (e10 c).2.2.2.2 (fun a0 a1 a2 a3 a4 a5 => k (.exit 4) ⟨((.rs c.1.z .u8 c.1.n c.1.f) :: .q :: (.ref 0 0) :: (.ref 1 0) :: (.ref 2 0) :: .q :: .q :: .q :: (ii c.2.1) :: (.ref 5 0) :: (qs 98 [])), [(.box false [(ii c.2.2.1), (ii c.2.2.2.1), (.emp true .impl_Backend), (.emp true .impl_Vip)]), (.box false [(.rs a0.z .u8 a0.n a0.f), (ii a1), (.bool a2)]), (.box false [(ii c.2.2.2.2.1), (.os 3 (e5 c).1), (.os 4 (e5 c).2.1)]), (.row false .impl_Backend (e5 c).2.2.1 (e5 c).2.2.2.1), (.deep false .impl_Vip (e5 c).2.2.2.2.1 (e10 c).1 (e10 c).2.1), (.box false [(ii (e10 c).2.2.1), (ii (e10 c).2.2.2.1), (ii (e10 c).2.2.2.2), (.os 6 a3)]), (.row false .i64 a4 a5)]⟩) w.1 w.2.1 w.2.2.1 w.2.2.2.1 w.2.2.2.2.1 (e5 w).1 (e5 w).2 (fun q0 q1 q2 q3 q4 q5 q6 => go (q0, q1, q2, q3, q4, q5, q6))
def ps_a16_2 : List (Pat RT) := (.flat (.rs .u8) :: .flat .q :: .flat (.ref 0 0) :: .flat (.ref 1 0) :: .flat (.ref 2 0) :: .flat .q :: .flat .q :: .flat .q :: .flat (.int .i64) :: (fq 99 []))
def os_a16_2 : List (OP RT) := [.box false [(.int .i64), (.int .i64), (.emp true .impl_Backend), (.emp true .impl_Vip)], .box false [(.rs .u8), (.int .i64), .bool], .box false [(.int .i64), (.os 3), (.os 4)], .row false .impl_Backend, .deep false .impl_Vip]
def conv_a16_2 (r : Raw den ps_a16_2 os_a16_2) : (Yb1) × (Yb3) := ((r.1.1, r.2.1.1, r.2.1.2.1, r.2.2.2.1.1, r.2.2.2.1.2.1, r.2.2.2.2.1.1, r.2.2.2.2.1.2), ((e5 r.1).2.2.2.1, r.2.2.1.1, r.2.2.1.2.1, r.2.2.1.2.2.1, r.2.2.2.1.2.2.1, (e5 r).1.1, (e5 r).1.2.1, (e5 r).1.2.2))
def back_a16_2 (c : Yb1) (w : Yb3) : St RT den := ⟨((.rs c.1.z .u8 c.1.n c.1.f) :: .q :: (.ref 0 0) :: (.ref 1 0) :: (.ref 2 0) :: .q :: .q :: .q :: (ii w.1) :: (qs 99 [])), [(.box false [(ii c.2.1), (ii c.2.2.1), (.emp true .impl_Backend), (.emp true .impl_Vip)]), (.box false [(.rs w.2.1.z .u8 w.2.1.n w.2.1.f), (ii w.2.2.1), (.bool w.2.2.2.1)]), (.box false [(ii c.2.2.2.1), (.os 3 c.2.2.2.2.1), (.os 4 w.2.2.2.2.1)]), (.row false .impl_Backend (e5 c).1 (e5 c).2), (.deep false .impl_Vip (e5 w).1 (e5 w).2.1 (e5 w).2.2)]⟩
def Bk_a16_2 {ρ : Type} (fu : Nat) (c : Yb1) (k : Ex → St RT den → Option ρ) (w : Yb3) (go : (Yb3) → Option ρ) : Option ρ := F_spec_UnpackConfig_U_B2 fu c.1 c.2.1 c.2.2.1 c.2.2.2.1 c.2.2.2.2.1 (e5 c).1 (e5 c).2 (fun a0 a1 a2 a3 a4 a5 a6 => k (.exit 2) ⟨((.rs c.1.z .u8 c.1.n c.1.f) :: .q :: (.ref 0 0) :: (.ref 1 0) :: (.ref 2 0) :: (qs 103 [])), [(.box false [(ii c.2.1), (ii c.2.2.1), (.emp true .impl_Backend), (.emp true .impl_Vip)]), (.box false [(.rs a0.z .u8 a0.n a0.f), (ii a1), (.bool a2)]), (.box false [(ii c.2.2.2.1), (.os 3 c.2.2.2.2.1), (.os 4 a3)]), (.row false .impl_Backend (e5 c).1 (e5 c).2), (.deep false .impl_Vip a4 a5 a6)]⟩) w.1 w.2.1 w.2.2.1 w.2.2.2.1 w.2.2.2.2.1 (e5 w).1 (e5 w).2.1 (e5 w).2.2 (fun q0 q1 q2 q3 q4 q5 q6 q7 => go (q0, q1, q2, q3, q4, q5, q6, q7))
def lp_a16 (fu : Nat) : Lp RT den (Yb4) := ⟨fun b s k => match b with | 0 => handle ps_a16_0 os_a16_0 conv_a16_0 (Bk_a16_0 fu) fu s k | 2 => handle ps_a16_2 os_a16_2 conv_a16_2 (Bk_a16_2 fu) fu s k | 4 => handle ps_a16_4 os_a16_4 conv_a16_4 (Bk_a16_4 fu) fu s k | _ => none, inl0⟩
def pso_a16 : List (Pat RT) := [.agg [(.int .i64), (.int .i64), (.os 0), (.os 1)]]
def oso_a16 : List (OP RT) := [.row false .impl_Backend, .deep false .impl_Vip]
def conv_a16 (r : Raw den pso_a16 oso_a16) : Yb4 := (r.1.1.1, r.1.1.2.1, r.1.1.2.2.1, r.1.1.2.2.2.1, r.2.1.1, r.2.1.2, r.2.2.1.1, r.2.2.1.2.2)
def enc_a16 (y : Yb4) : D RT den × List (Ob RT den) := ((.agg [(.int .i64 y.1), (.int .i64 y.2.1), (.os 0 y.2.2.1), (.os 1 y.2.2.2.1)]), [(.row false .impl_Backend y.2.2.2.2.1 y.2.2.2.2.2.1), (.deep false .impl_Vip y.2.2.2.2.2.2.1 y.2.2.2.2.2.2.1 y.2.2.2.2.2.2.2)])
def chk_a16 (r : Raw den pso_a16 oso_a16) : Bool := (decide (r.2.2.1.2.1 = r.2.2.1.1) && true)
def raw_a16 (r : Raw den pso_a16 oso_a16) : St RT den := ⟨[(.agg [(.int .i64 r.1.1.1), (.int .i64 r.1.1.2.1), (.os 0 r.1.1.2.2.1), (.os 1 r.1.1.2.2.2.1)])], [(.row false .impl_Backend r.2.1.1 r.2.1.2), (.deep false .impl_Vip r.2.2.1.1 r.2.2.1.2.1 r.2.2.1.2.2)]⟩
theorem chkd_a16 (r : Raw den pso_a16 oso_a16) (h : chk_a16 r = true) : raw_a16 r = ⟨[(enc_a16 (conv_a16 r)).1], (enc_a16 (conv_a16 r)).2⟩ := by
 simp only [chk_a16, Bool.and_eq_true, decide_eq_true_eq, and_true] at h
 simp only [raw_a16, enc_a16, conv_a16, h, e5, e10, e20, e40]
def out_a16 (d : D RT den) (os : List (Ob RT den)) : Option (Yb4) := (unSt pso_a16 oso_a16 ⟨[d], os⟩).bind fun v => bif chk_a16 v.1 then some (conv_a16 v.1) else none
theorem out_a16_enc (d : D RT den) (os : List (Ob RT den)) (y : Yb4) (h : out_a16 d os = some y) : d = (enc_a16 y).1 ∧ os = (enc_a16 y).2 :=
 outU (conv := conv_a16) (enc := enc_a16) (chk := chk_a16) (fun raw h => Eq.trans (by kernel_rfl) (chkd_a16 raw h)) h
theorem ev_a16 (fu : Nat) (data_0 : (Sl Int)) : evFunU E (pc_a16 fu) msk_a16 (lp_a16 fu) out_a16 6 [(.rs data_0.z .u8 data_0.n data_0.f)] [] = F_spec_UnpackConfig_U fu data_0 := by kernel_rfl
noncomputable def body_a16 : Code := Try.f6.body.getD .skip
noncomputable def lc_a16_0 : Code := ((loops 0 body_a16).getD 0 (0, .skip)).2
theorem round_a16_0 (fu : Nat) : RoundOk E (pc_a16 fu) msk_a16 (lp_a16 fu) 0 lc_a16_0 back_a16_0 0 100000 4 (Bk_a16_0 fu) := fun it k c w => by kernel_rfl
theorem lpok_a16_0 (fu : Nat) : LpAt E (pc_a16 fu) msk_a16 (lp_a16 fu) 0 0 100000 0 lc_a16_0 :=
 handle_ok (ps := ps_a16_0) (os := os_a16_0) (conv := conv_a16_0) (B := Bk_a16_0 fu) (fu := fu) back_a16_0 (fun raw => by kernel_rfl) 4 (fun c w => by kernel_rfl) (round_a16_0 fu)
noncomputable def lc_a16_2 : Code := ((loops 0 body_a16).getD 1 (0, .skip)).2
theorem round_a16_2 (fu : Nat) : RoundOk E (pc_a16 fu) msk_a16 (lp_a16 fu) 2 lc_a16_2 back_a16_2 2 100002 5 (Bk_a16_2 fu) := fun it k c w => by kernel_rfl
theorem lpok_a16_2 (fu : Nat) : LpAt E (pc_a16 fu) msk_a16 (lp_a16 fu) 2 2 100002 2 lc_a16_2 :=
 handle_ok (ps := ps_a16_2) (os := os_a16_2) (conv := conv_a16_2) (B := Bk_a16_2 fu) (fu := fu) back_a16_2 (fun raw => by kernel_rfl) 5 (fun c w => by kernel_rfl) (round_a16_2 fu)
noncomputable def lc_a16_4 : Code := ((loops 0 body_a16).getD 2 (0, .skip)).2
theorem round_a16_4 (fu : Nat) : RoundOk E (pc_a16 fu) msk_a16 (lp_a16 fu) 4 lc_a16_4 back_a16_4 4 100004 7 (Bk_a16_4 fu) := fun it k c w => by kernel_rfl
theorem lpok_a16_4 (fu : Nat) : LpAt E (pc_a16 fu) msk_a16 (lp_a16 fu) 4 4 100004 4 lc_a16_4 :=
 handle_ok (ps := ps_a16_4) (os := os_a16_4) (conv := conv_a16_4) (B := Bk_a16_4 fu) (fu := fu) back_a16_4 (fun raw => by kernel_rfl) 7 (fun c w => by kernel_rfl) (round_a16_4 fu)
theorem lpok_a16 (fu : Nat) : LpOk E (pc_a16 fu) 0 msk_a16 (lp_a16 fu) (loops 0 body_a16) := lp_nil (loop_all 3 (by kernel_rfl) fun i hi => match i, hi with
 | 0, _ => by
  have h : (loops 0 body_a16).getD 0 (0, .skip) = (0, lc_a16_0) := by kernel_rfl
  rw [h]; exact lpok_a16_0 fu
 | 1, _ => by
  have h : (loops 0 body_a16).getD 1 (0, .skip) = (2, lc_a16_2) := by kernel_rfl
  rw [h]; exact lpok_a16_2 fu
 | 2, _ => by
  have h : (loops 0 body_a16).getD 2 (0, .skip) = (4, lc_a16_4) := by kernel_rfl
  rw [h]; exact lpok_a16_4 fu
 | i + 3, hi => absurd hi (by omega)) (by kernel_rfl)
def S_a16 (fu : Nat) (xs : List (D RT den)) (ins : List (Ob RT den)) : Option (OutX RT den) := match xs, ins with | [.rs za0_0 .u8 na0_0 fa0_0], [] => some ⟨Yb4, F_spec_UnpackConfig_U fu (⟨za0_0, na0_0, fa0_0⟩ : (Sl Int)), enc_a16⟩ | _, _ => none
theorem hpc_a16 (fu : Nat) : HpcOk E Try.prog (pcf_a16 fu) := by
 intro f xs o h
 unfold pcf_a16 at h
 split at h
 ·exact good_a13 fu xs o h
 ·cases h
theorem hpx_a16 (fu : Nat) : HpxOk E Try.prog pcd_a16 pcd0 (pcx_a16 fu) := by
 intro f xs ins o h
 unfold pcx_a16 at h
 split at h
 ·exact good_a2 fu xs ins o h
 ·exact good_a15 fu xs ins o h
 ·cases h
theorem goodv_a16 (fu : Nat) (data_0 : (Sl Int)) (y : Yb4) (hy : F_spec_UnpackConfig_U fu data_0 = some y) : GoodD E Try.prog 6 [(.rs data_0.z .u8 data_0.n data_0.f)] [] (enc_a16 y).1 (enc_a16 y).2 :=
 funU_good E_ok (pc_good (pc := pc_a16 fu) (hpc_a16 fu) (hpx_a16 fu)) (fn := Try.f6) (by kernel_rfl) (by kernel_rfl) (by kernel_rfl) (lpok_a16 fu) (by kernel_rfl) (Nat.le_of_ble_eq_true (by kernel_rfl)) (Fulls.get 0 (And.intro (Nat.le_refl _) trivial)) (fun d os hd => out_a16_enc d os _ hd) ((ev_a16 fu data_0).trans hy)
theorem good_a16 (fu : Nat) : GoodSD E Try.prog 6 (S_a16 fu) := by
 intro xs ins o h y hy
 unfold S_a16 at h
 split at h
 ·rename_i za0_0 na0_0 fa0_0
  cases h
  exact goodv_a16 fu (⟨za0_0, na0_0, fa0_0⟩ : (Sl Int)) y hy
 ·cases h
def F_impl_number_B0 {ρ : Type} (fu : Nat) (t6_1 : (Sl Int)) (t7_2 : Int) (k0 : Int → Option ρ) (n3_0 t8_3 : Int) (go : Int → Int → Option ρ) : Option ρ :=
 (bif (decide (t8_3 < t7_2)) then ((bif (decide (0 ≤ t8_3) && decide ((Int.toNat t8_3) < t6_1.n)) then some () else none : Option Unit).bind fun _ => (go (bitsOr .i64 (shlInt .i64 n3_0 8) (IntKind.wrap .i64 (t6_1.f (Int.toNat t8_3)))) (IntKind.wrap .i64 (t8_3 + 1)))) else
  (k0 n3_0))
def F_impl_number (fu : Nat) (data_0 : (Sl Int)) : Option (Int) :=
 (L (fun w0 go0 => F_impl_number_B0 fu data_0 ((data_0.n : Nat) : Int) (fun z211 => (some z211)) w0.1 w0.2 (fun q0 q1 => go0 (q0, q1))) fu ((0, 0) : Int × Int))
def pc_a17 (fu : Nat) : Pc RT den := ⟨pcf0, fun _ => false, fun _ => false, pcd0, pcd0, pcd0, pcx0⟩
def msk_a17 (b : Nat) : List Nat := match b with | 0 => (0 :: 1 :: 2 :: 4 :: 5 :: (rg 9 10 [])) | 100000 => (0 :: 1 :: (rg 4 15 [])) | _ => []
def ps_a17_0 : List (Pat RT) := (.flat .q :: .flat .q :: .flat .q :: .flat (.int .i64) :: .flat .q :: .flat .q :: .flat (.rs .u8) :: .flat (.int .i64) :: .flat (.int .i64) :: (fq 10 []))
def os_a17_0 : List (OP RT) := []
def conv_a17_0 (r : Raw den ps_a17_0 os_a17_0) : ((Sl Int) × Int) × (Int × Int) := (((e5 r.1).2.1, (e5 r.1).2.2.1), (r.1.2.2.2.1, (e5 r.1).2.2.2.1))
def back_a17_0 (c : (Sl Int) × Int) (w : Int × Int) : St RT den := ⟨(.q :: .q :: .q :: (ii w.1) :: .q :: .q :: (.rs c.1.z .u8 c.1.n c.1.f) :: (ii c.2) :: (ii w.2) :: (qs 10 [])), []⟩
def Bk_a17_0 {ρ : Type} (fu : Nat) (c : (Sl Int) × Int) (k : Ex → St RT den → Option ρ) (w : Int × Int) (go : (Int × Int) → Option ρ) : Option ρ := F_impl_number_B0 fu c.1 c.2 (fun a0 => k (.exit 0) ⟨(.q :: .q :: .q :: (ii a0) :: (qs 15 [])), []⟩) w.1 w.2 (fun q0 q1 => go (q0, q1))
def lp_a17 (fu : Nat) : Lp RT den (Int) := ⟨fun b s k => match b with | 0 => handle ps_a17_0 os_a17_0 conv_a17_0 (Bk_a17_0 fu) fu s k | _ => none, inl0⟩
theorem ev_a17 (fu : Nat) (data_0 : (Sl Int)) : evFun E (pc_a17 fu) msk_a17 (lp_a17 fu) out_i64 44 [(.rs data_0.z .u8 data_0.n data_0.f)] = F_impl_number fu data_0 := by kernel_rfl
noncomputable def body_a17 : Code := Try.f44.body.getD .skip
noncomputable def lc_a17_0 : Code := ((loops 0 body_a17).getD 0 (0, .skip)).2
theorem round_a17_0 (fu : Nat) : RoundOk E (pc_a17 fu) msk_a17 (lp_a17 fu) 0 lc_a17_0 back_a17_0 0 100000 0 (Bk_a17_0 fu) := fun it k c w => by kernel_rfl
theorem lpok_a17_0 (fu : Nat) : LpAt E (pc_a17 fu) msk_a17 (lp_a17 fu) 0 0 100000 0 lc_a17_0 :=
 handle_ok (ps := ps_a17_0) (os := os_a17_0) (conv := conv_a17_0) (B := Bk_a17_0 fu) (fu := fu) back_a17_0 (fun raw => by kernel_rfl) 0 (fun c w => by kernel_rfl) (round_a17_0 fu)
theorem lpok_a17 (fu : Nat) : LpOk E (pc_a17 fu) 0 msk_a17 (lp_a17 fu) (loops 0 body_a17) := lp_nil (loop_all 1 (by kernel_rfl) fun i hi => match i, hi with
 | 0, _ => by
  have h : (loops 0 body_a17).getD 0 (0, .skip) = (0, lc_a17_0) := by kernel_rfl
  rw [h]; exact lpok_a17_0 fu
 | i + 1, hi => absurd hi (by omega)) (by kernel_rfl)
def S_a17 (fu : Nat) (xs : List (D RT den)) : Option (Out RT den) := match xs with | [.rs za0_0 .u8 na0_0 fa0_0] => some ⟨Int, F_impl_number fu (⟨za0_0, na0_0, fa0_0⟩ : (Sl Int)), enc_i64, fun _ => true⟩ | _ => none
theorem goodv_a17 (fu : Nat) (data_0 : (Sl Int)) (y : Int) (hy : F_impl_number fu data_0 = some y) : Good E Try.prog 44 [(.rs data_0.z .u8 data_0.n data_0.f)] (enc_i64 y) :=
 fun_good E_ok (pc_good (pc := pc_a17 fu) hpc0 hpx0) (fn := Try.f44) (by kernel_rfl) (by kernel_rfl) (by kernel_rfl) (lpok_a17 fu) (fun d hd => out_i64_enc d _ hd) ((ev_a17 fu data_0).trans hy)
theorem good_a17 (fu : Nat) : GoodS E Try.prog 44 (S_a17 fu) := by
 intro xs o h y hy
 unfold S_a17 at h
 split at h
 ·rename_i za0_0 na0_0 fa0_0
  cases h
  exact goodv_a17 fu (⟨za0_0, na0_0, fa0_0⟩ : (Sl Int)) y hy
 ·cases h
def F_impl_reader_take_M (fu : Nat) (many_1 : Int) (b0_1 : (Sl Int)) (b0_2 : Bool) : Option (Int × (Sl Int) × Bool) :=
 (((bif b0_2 then (some true) else (some (decide (((b0_1.n : Nat) : Int) < many_1)))) : Option Bool).bind fun m209 => (bif m209 then (some (0, b0_1, true)) else ((bif (decide ((0 : Int) ≤ many_1) &&
  decide ((Int.toNat many_1) ≤ b0_1.n)) then some () else none : Option Unit).bind fun _ => ((F_impl_number fu (⟨b0_1.z, ((Int.toNat many_1) - 0), (fun i => b0_1.f (0 + i))⟩ : (Sl Int))).bind fun y210 =>
  ((bif (decide (0 ≤ many_1) && (decide (many_1 ≤ ((b0_1.n : Nat) : Int)) && decide (b0_1.n ≤ b0_1.n))) then some () else none : Option Unit).bind fun _ => (some (y210, (⟨b0_1.z,
  (b0_1.n - (Int.toNat many_1)), (fun i => b0_1.f ((Int.toNat many_1) + i))⟩ : (Sl Int)), b0_2)))))))
def pcf_a18 (fu f : Nat) (xs : List (D RT den)) : Option (Out RT den) := match f with | 44 => S_a17 fu xs | _ => none
def pc_a18 (fu : Nat) : Pc RT den := ⟨pcf_a18 fu, fun _ => false, fun _ => false, pcd0, pcd0, pcd0, pcx0⟩
def msk_a18 (b : Nat) : List Nat := match b with | 200001 => [18] | _ => []
def lp_a18 (fu : Nat) : Lp RT den (Int × (Sl Int) × Bool) := ⟨fun b s k => none, inl0⟩
def pso_a18 : List (Pat RT) := [.flat (.int .i64)]
def oso_a18 : List (OP RT) := [.box true [(.rs .u8), .bool]]
def conv_a18 (r : Raw den pso_a18 oso_a18) : Int × (Sl Int) × Bool := (r.1.1, r.2.1.1, r.2.1.2.1)
def enc_a18 (y : Int × (Sl Int) × Bool) : D RT den × List (Ob RT den) := ((.int .i64 y.1), [(.box true [(.rs y.2.1.z .u8 y.2.1.n y.2.1.f), (.bool y.2.2)])])
def out_a18 (d : D RT den) (os : List (Ob RT den)) : Option (Int × (Sl Int) × Bool) := (unSt pso_a18 oso_a18 ⟨[d], os⟩).bind fun v => some (conv_a18 v.1)
theorem out_a18_enc (d : D RT den) (os : List (Ob RT den)) (y : Int × (Sl Int) × Bool) (h : out_a18 d os = some y) : d = (enc_a18 y).1 ∧ os = (enc_a18 y).2 :=
 outM (conv := conv_a18) (enc := enc_a18) (fun raw => by kernel_rfl) h
theorem ev_a18 (fu : Nat) (many_1 : Int) (b0_1 : (Sl Int)) (b0_2 : Bool) : evFunM E false (pc_a18 fu) msk_a18 (lp_a18 fu) out_a18 34 [(.ref 0 0), (ii many_1)] [(.box true [(.rs b0_1.z .u8 b0_1.n b0_1.f), (.bool b0_2)])] = F_impl_reader_take_M fu many_1 b0_1 b0_2 := by kernel_rfl
noncomputable def body_a18 : Code := Try.f34.body.getD .skip
theorem lpok_a18 (fu : Nat) : LpOk E (pc_a18 fu) 0 msk_a18 (lp_a18 fu) (loops 0 body_a18) := lp_nil (loop_nil (by kernel_rfl)) (by kernel_rfl)
def S_a18 (fu : Nat) (xs : List (D RT den)) (ins : List (Ob RT den)) : Option (OutX RT den) := match xs, ins with | [.ref 0 0, .int .i64 a1_0], [.box true [.rs za1000_0 .u8 na1000_0 fa1000_0, .bool a1001_0]] => some ⟨Int × (Sl Int) × Bool, F_impl_reader_take_M fu a1_0 (⟨za1000_0, na1000_0, fa1000_0⟩ : (Sl Int)) a1001_0, enc_a18⟩ | _, _ => none
theorem hpc_a18 (fu : Nat) : HpcOk E Try.prog (pcf_a18 fu) := by
 intro f xs o h
 unfold pcf_a18 at h
 split at h
 ·exact good_a17 fu xs o h
 ·cases h
theorem goodv_a18 (fu : Nat) (many_1 : Int) (b0_1 : (Sl Int)) (b0_2 : Bool) (y : Int × (Sl Int) × Bool) (hy : F_impl_reader_take_M fu many_1 b0_1 b0_2 = some y) : GoodX E Try.prog 34 [(.ref 0 0), (ii many_1)] [(.box true [(.rs b0_1.z .u8 b0_1.n b0_1.f), (.bool b0_2)])] (enc_a18 y).1 (enc_a18 y).2 :=
 funM_good (ke := false) E_ok (pc_good (pc := pc_a18 fu) (hpc_a18 fu) hpx0) (fn := Try.f34) (by kernel_rfl) (by kernel_rfl) (by kernel_rfl) (lpok_a18 fu) (by kernel_rfl) (Nat.le_of_ble_eq_true (by kernel_rfl)) (fun d os hd => out_a18_enc d os _ hd) ((ev_a18 fu many_1 b0_1 b0_2).trans hy)
theorem good_a18 (fu : Nat) : GoodSX E Try.prog 34 (S_a18 fu) := by
 intro xs ins o h y hy
 unfold S_a18 at h
 split at h
 ·rename_i a1_0 za1000_0 na1000_0 fa1000_0 a1001_0
  cases h
  exact goodv_a18 fu a1_0 (⟨za1000_0, na1000_0, fa1000_0⟩ : (Sl Int)) a1001_0 y hy
 ·cases h
def F_impl_put_G_B0 {ρ : Type} (fu : Nat) (n1_1 : Int) (k0 : Nat → Nat → (Nat → Int) → Option ρ) (out0_0 : Nat) (k7_2 : Int) (on0_3 : Nat) (of0_4 : (Nat → Int)) (go : Nat → Int → Nat → (Nat → Int) → Option ρ) : Option ρ :=
 (bif (decide (k7_2 ≥ 0)) then ((bif (decide (0 ≤ (IntKind.wrap .i64 (8 * k7_2)))) then some () else none : Option Unit).bind fun _ => (bif (decide ((out0_0 + 1) ≤ 9223372036854775807) &&
  decide ((out0_0 + 1) * 1 ≤ 140737488355328)) then (go (out0_0 + 1) (IntKind.wrap .i64 (k7_2 - 1)) (out0_0 + 1) (fun i => if i < out0_0 then (of0_4 i) else ((fun i =>
  ([(IntKind.wrap .u8 (shrInt .i64 n1_1 (IntKind.wrap .i64 (8 * k7_2))))] : List (Int)).getD i (dflt .u8)) (i - out0_0)))) else none)) else (k0 out0_0 on0_3 of0_4))
def F_impl_put_G (fu out_0_0 : Nat) (n_1 many_2 : Int) (rn0 : Nat) (rf0 : (Nat → Int)) : Option (Nat × Nat × (Nat → Int)) :=
 (L (fun w0 go0 => F_impl_put_G_B0 fu n_1 (fun z335 z336 z337 => (some (z335, z336, z337))) w0.1 w0.2.1 w0.2.2.1 w0.2.2.2 (fun q0 q1 q2 q3 => go0 (q0, q1, q2, q3))) fu ((out_0_0,
  (IntKind.wrap .i64 (many_2 - 1)), rn0, rf0) : Nat × Int × Nat × (Nat → Int)))
def pc_a19 (fu : Nat) : Pc RT den := ⟨pcf0, fun _ => false, fun _ => false, pcd0, pcd0, pcd0, pcx0⟩
def msk_a19 (b : Nat) : List Nat := match b with | 0 => (rg 2 5 (rg 8 15 [])) | 100000 => (rg 1 5 (rg 7 16 [])) | 300000 => [0] | _ => []
def ps_a19_0 : List (Pat RT) := (.flat (.os 0) :: .flat (.int .i64) :: (fq 5 (.flat (.int .i64) :: (fq 15 []))))
def os_a19_0 : List (OP RT) := [.row false .u8]
def conv_a19_0 (r : Raw den ps_a19_0 os_a19_0) : (Int) × (Nat × Int × Nat × (Nat → Int)) := (r.1.2.1, (r.1.1, (e5 r.1).2.2.1, r.2.1.1, r.2.1.2))
def back_a19_0 (c : Int) (w : Nat × Int × Nat × (Nat → Int)) : St RT den := ⟨((.os 0 w.1) :: (ii c) :: (qs 5 ((ii w.2.1) :: (qs 15 [])))), [(.row false .u8 w.2.2.1 w.2.2.2)]⟩
def Bk_a19_0 {ρ : Type} (fu : Nat) (c : Int) (k : Ex → St RT den → Option ρ) (w : Nat × Int × Nat × (Nat → Int)) (go : (Nat × Int × Nat × (Nat → Int)) → Option ρ) : Option ρ := F_impl_put_G_B0 fu c (fun a0 a1 a2 => k (.exit 0) ⟨((.os 0 a0) :: (qs 22 [])), [(.row false .u8 a1 a2)]⟩) w.1 w.2.1 w.2.2.1 w.2.2.2 (fun q0 q1 q2 q3 => go (q0, q1, q2, q3))
def lp_a19 (fu : Nat) : Lp RT den (Nat × Nat × (Nat → Int)) := ⟨fun b s k => match b with | 0 => handle ps_a19_0 os_a19_0 conv_a19_0 (Bk_a19_0 fu) fu s k | _ => none, inl0⟩
def enc_a19 (y : Nat × Nat × (Nat → Int)) : D RT den × List (Ob RT den) := (.os 0 y.1, [.row false .u8 y.2.1 y.2.2])
noncomputable def out_a19 : D RT den → List (Ob RT den) → Option (Nat × Nat × (Nat → Int)) := outG E .u8
theorem ev_a19 (fu out_0_0 : Nat) (n_1 many_2 : Int) (rn0 : Nat) (rf0 : (Nat → Int)) : evFunG E (pc_a19 fu) msk_a19 (lp_a19 fu) out_a19 83 [(.os 0 out_0_0), (ii n_1), (ii many_2)] [(.row false .u8 rn0 rf0)] = F_impl_put_G fu out_0_0 n_1 many_2 rn0 rf0 := by kernel_rfl
noncomputable def body_a19 : Code := Try.f83.body.getD .skip
noncomputable def lc_a19_0 : Code := ((loops 0 body_a19).getD 0 (0, .skip)).2
theorem round_a19_0 (fu : Nat) : RoundOk E (pc_a19 fu) msk_a19 (lp_a19 fu) 0 lc_a19_0 back_a19_0 0 100000 1 (Bk_a19_0 fu) := fun it k c w => by kernel_rfl
theorem lpok_a19_0 (fu : Nat) : LpAt E (pc_a19 fu) msk_a19 (lp_a19 fu) 0 0 100000 0 lc_a19_0 :=
 handle_ok (ps := ps_a19_0) (os := os_a19_0) (conv := conv_a19_0) (B := Bk_a19_0 fu) (fu := fu) back_a19_0 (fun raw => by kernel_rfl) 1 (fun c w => by kernel_rfl) (round_a19_0 fu)
theorem lpok_a19 (fu : Nat) : LpOk E (pc_a19 fu) 0 msk_a19 (lp_a19 fu) (loops 0 body_a19) := lp_nil (loop_all 1 (by kernel_rfl) fun i hi => match i, hi with
 | 0, _ => by
  have h : (loops 0 body_a19).getD 0 (0, .skip) = (0, lc_a19_0) := by kernel_rfl
  rw [h]; exact lpok_a19_0 fu
 | i + 1, hi => absurd hi (by omega)) (by kernel_rfl)
def S_a19 (fu : Nat) (xs : List (D RT den)) (ins : List (Ob RT den)) : Option (OutX RT den) := match xs, ins with | [.os 0 a0_0, .int .i64 a1_0, .int .i64 a2_0], [.row false .u8 rn0 rf0] => some ⟨Nat × Nat × (Nat → Int), F_impl_put_G fu a0_0 a1_0 a2_0 rn0 rf0, enc_a19⟩ | _, _ => none
theorem goodv_a19 (fu out_0_0 : Nat) (n_1 many_2 : Int) (rn0 : Nat) (rf0 : (Nat → Int)) (y : Nat × Nat × (Nat → Int)) (hy : F_impl_put_G fu out_0_0 n_1 many_2 rn0 rf0 = some y) : GoodG E Try.prog 83 [(.os 0 out_0_0), (ii n_1), (ii many_2)] [(.row false .u8 rn0 rf0)] (enc_a19 y).1 (enc_a19 y).2 :=
 funG_good E_ok (pc_good (pc := pc_a19 fu) hpc0 hpx0) (fn := Try.f83) (by kernel_rfl) (by kernel_rfl) (by kernel_rfl) (lpok_a19 fu) (fun d os hd => outG_enc hd) ((ev_a19 fu out_0_0 n_1 many_2 rn0 rf0).trans hy)
theorem good_a19 (fu : Nat) : ∀ xs ins o, S_a19 fu xs ins = some o → ∀ y, o.x = some y → GoodG E Try.prog 83 xs ins (o.g y).1 (o.g y).2 := by
 intro xs ins o h y hy
 unfold S_a19 at h
 split at h
 ·rename_i a0_0 a1_0 a2_0 rn0 rf0
  cases h
  exact goodv_a19 fu a0_0 a1_0 a2_0 rn0 rf0 y hy
 ·cases h
end Go.Proofs.Ytcmfekgdlaffkaa.Pc
