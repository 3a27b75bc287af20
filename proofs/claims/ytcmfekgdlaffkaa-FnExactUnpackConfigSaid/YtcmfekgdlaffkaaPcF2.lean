/- The functions' evaluated forms, each a proved summary. Conditions: none. -/
import Derived.Test.YtcmfekgdlaffkaaPcF1
namespace Go.Proofs.Ytcmfekgdlaffkaa.Pc
open Go Go.RowKit Go.Proofs Vm
set_option linter.unusedVariables false
set_option linter.unusedSimpArgs false
set_option maxRecDepth 100000
abbrev Yc0 : Type := (Sl Int) × Int × (Sl S_impl_Backend) × (Sl S_impl_Vip) × Int
abbrev Yc1 : Type := (Sl S_impl_Vip) × Int × Int × (Sl S_impl_Backend) × (Sl S_impl_Vip)
abbrev Yc2 : Type := (Sl S_impl_Backend) × Int × Int × (Sl S_impl_Backend) × (Sl S_impl_Vip)
abbrev Yc3 : Type := (Sl S_impl_Vip) × Int × Int × (Sl Int) × Int × Int × (Sl S_impl_Backend) × (Sl S_impl_Vip) × Int × Int × Int × (Sl Int)
def F_impl_packConfig_H_B0 {ρ : Type} (fu : Nat) (t21_1 : (Sl S_impl_Backend)) (t22_2 o0_4 : Int) (o0_5 : (Sl S_impl_Backend)) (o0_6 : (Sl S_impl_Vip)) (k0 : Nat → Nat → (Nat → Int) → Option ρ) (out3_0 : Nat) (t23_3 : Int) (on1_7 : Nat) (of1_8 : (Nat → Int)) (go : Nat → Int → Nat → (Nat → Int) → Option ρ) : Option ρ :=
 (bif (decide (t23_3 < t22_2)) then ((bif (decide (0 ≤ t23_3) && decide ((Int.toNat t23_3) < t21_1.n)) then some () else none : Option Unit).bind fun _ => (bif (t21_1.f (Int.toNat t23_3)).Up then
  ((F_impl_put_G fu out3_0 ((t21_1.f (Int.toNat t23_3)).Name) 2 on1_7 of1_8).bind fun y356 => ((F_impl_put_G fu y356.1 ((t21_1.f (Int.toNat t23_3)).Address) 4 y356.2.1 y356.2.2).bind fun y357 =>
  (bif (decide ((y357.1 + 1) ≤ 9223372036854775807) && decide ((y357.1 + 1) * 1 ≤ 140737488355328)) then (go (y357.1 + 1) (IntKind.wrap .i64 (t23_3 + 1)) (y357.1 + 1) (fun i => if i < y357.1 then
  (y357.2.2 i) else ((fun i => ([(IntKind.wrap .u8 (IntKind.wrap .i64 ((IntKind.wrap .i64 ((IntKind.wrap .i64 ((t21_1.f (Int.toNat t23_3)).Weight * 8)) + (IntKind.wrap .i64 ((t21_1.f (Int.toNat t23_3)).Stage * 2)))) + 1)))] : List (Int)).getD i (dflt .u8)) (i - y357.1)))) else
  none))) else ((F_impl_put_G fu out3_0 ((t21_1.f (Int.toNat t23_3)).Name) 2 on1_7 of1_8).bind fun y358 => ((F_impl_put_G fu y358.1 ((t21_1.f (Int.toNat t23_3)).Address) 4 y358.2.1 y358.2.2).bind fun y359 =>
  (bif (decide ((y359.1 + 1) ≤ 9223372036854775807) && decide ((y359.1 + 1) * 1 ≤ 140737488355328)) then (go (y359.1 + 1) (IntKind.wrap .i64 (t23_3 + 1)) (y359.1 + 1) (fun i => if i < y359.1 then
  (y359.2.2 i) else ((fun i => ([(IntKind.wrap .u8 (IntKind.wrap .i64 ((IntKind.wrap .i64 ((t21_1.f (Int.toNat t23_3)).Weight * 8)) + (IntKind.wrap .i64 ((t21_1.f (Int.toNat t23_3)).Stage * 2)))))] : List (Int)).getD i (dflt .u8)) (i - y359.1)))) else
  none))))) else (k0 out3_0 on1_7 of1_8))
def F_impl_packConfig_H_B4 {ρ : Type} (fu : Nat) (t58_1 : (Sl S_impl_Vip)) (t59_2 t60_3 : Int) (t82_4 : (Sl Int)) (t83_5 o0_7 : Int) (o0_8 : (Sl S_impl_Backend)) (o0_9 : (Sl S_impl_Vip)) (o2_12 o2_13 o2_14 : Int) (o2_15 : (Sl Int)) (k0 : Nat → Nat → (Nat → Int) → Option ρ) (out3_0 : Nat) (t84_6 : Int) (on1_10 : Nat) (of1_11 : (Nat → Int)) (go : Nat → Int → Nat → (Nat → Int) → Option ρ) : Option ρ :=
 (bif (decide (t84_6 < t83_5)) then ((bif (decide (0 ≤ t84_6) && decide ((Int.toNat t84_6) < t82_4.n)) then some () else none : Option Unit).bind fun _ => ((F_impl_put_G fu out3_0 (t82_4.f (Int.toNat t84_6)) 2 on1_10 of1_11).bind fun y365 =>
  (go y365.1 (IntKind.wrap .i64 (t84_6 + 1)) y365.2.1 y365.2.2))) else (k0 out3_0 on1_10 of1_11))
def F_impl_packConfig_H_B2 {ρ : Type} (fu : Nat) (t58_1 : (Sl S_impl_Vip)) (t59_2 o0_4 : Int) (o0_5 : (Sl S_impl_Backend)) (o0_6 : (Sl S_impl_Vip)) (k0 : Nat → Nat → (Nat → Int) → Option ρ) (out3_0 : Nat) (t60_3 : Int) (on1_7 : Nat) (of1_8 : (Nat → Int)) (go : Nat → Int → Nat → (Nat → Int) → Option ρ) : Option ρ :=
 (bif (decide (t60_3 < t59_2)) then ((bif (decide (0 ≤ t60_3) && decide ((Int.toNat t60_3) < t58_1.n)) then some () else none : Option Unit).bind fun _ => ((F_impl_put_G fu out3_0 ((t58_1.f (Int.toNat t60_3)).Address) 4 on1_7 of1_8).bind fun y363 =>
  ((F_impl_put_G fu y363.1 ((t58_1.f (Int.toNat t60_3)).Port) 2 y363.2.1 y363.2.2).bind fun y364 => (bif (decide ((y364.1 + 2) ≤ 9223372036854775807) && decide ((y364.1 + 2) * 1 ≤ 140737488355328)) then
  (L (fun w4 go4 => F_impl_packConfig_H_B4 fu t58_1 t59_2 t60_3 ((t58_1.f (Int.toNat t60_3)).Names) (((t58_1.f (Int.toNat t60_3)).Names.n : Nat) : Int) o0_4 o0_5 o0_6 ((t58_1.f (Int.toNat t60_3)).Address) ((t58_1.f (Int.toNat t60_3)).Port) ((t58_1.f (Int.toNat t60_3)).Proto) ((t58_1.f (Int.toNat t60_3)).Names) (fun z366 z367 z368 =>
  (go z366 (IntKind.wrap .i64 (t60_3 + 1)) z367 z368)) w4.1 w4.2.1 w4.2.2.1 w4.2.2.2 (fun q0 q1 q2 q3 => go4 (q0, q1, q2, q3))) fu (((y364.1 + 2), 0, (y364.1 + 2), (fun i => if i < y364.1 then
  (y364.2.2 i) else ((fun i => ([(IntKind.wrap .u8 (t58_1.f (Int.toNat t60_3)).Proto), (IntKind.wrap .u8 (((t58_1.f (Int.toNat t60_3)).Names.n : Nat) : Int))] : List (Int)).getD i (dflt .u8)) (i - y364.1)))) : Nat × Int × Nat × (Nat → Int))) else
  none)))) else (k0 out3_0 on1_7 of1_8))
def F_impl_packConfig_H (fu : Nat) (c_0 : S_impl_Config) : Option ((Sl Int)) :=
 ((F_impl_put_G fu 0 c_0.Version 4 0 (fun _ => dflt .u8)).bind fun y355 => (bif (decide ((y355.1 + 1) ≤ 9223372036854775807) && decide ((y355.1 + 1) * 1 ≤ 140737488355328)) then (L (fun w0 go0 =>
  F_impl_packConfig_H_B0 fu c_0.Backends ((c_0.Backends.n : Nat) : Int) c_0.Version c_0.Backends c_0.Vips (fun z360 z361 z362 => (bif (decide ((z360 + 1) ≤ 9223372036854775807) &&
  decide ((z360 + 1) * 1 ≤ 140737488355328)) then (L (fun w2 go2 => F_impl_packConfig_H_B2 fu c_0.Vips ((c_0.Vips.n : Nat) : Int) c_0.Version c_0.Backends c_0.Vips (fun z369 z370 z371 =>
  (some (⟨none, z369, z371⟩ : (Sl Int)))) w2.1 w2.2.1 w2.2.2.1 w2.2.2.2 (fun q0 q1 q2 q3 => go2 (q0, q1, q2, q3))) fu (((z360 + 1), 0, (z360 + 1), (fun i => if i < z360 then (z362 i) else
  ((fun i => ([(IntKind.wrap .u8 ((c_0.Vips.n : Nat) : Int))] : List (Int)).getD i (dflt .u8)) (i - z360)))) : Nat × Int × Nat × (Nat → Int))) else none)) w0.1 w0.2.1 w0.2.2.1 w0.2.2.2 (fun q0 q1 q2 q3 =>
  go0 (q0, q1, q2, q3))) fu (((y355.1 + 1), 0, (y355.1 + 1), (fun i => if i < y355.1 then (y355.2.2 i) else ((fun i => ([(IntKind.wrap .u8 ((c_0.Backends.n : Nat) : Int))] : List (Int)).getD i (dflt .u8)) (i - y355.1)))) : Nat × Int × Nat × (Nat → Int))) else
  none))
def pcx_a20 (fu f : Nat) (xs : List (D RT den)) (ins : List (Ob RT den)) : Option (OutX RT den) := match f with | 83 => S_a19 fu xs ins | _ => none
def pcd_a20 : Nat → Bool := fun _ => false
def pcg_a20 : Nat → Bool := fun f => match f with | 83 => true | _ => false
def pc_a20 (fu : Nat) : Pc RT den := ⟨pcf0, fun _ => false, fun _ => false, pcd_a20, pcd0, pcg_a20, pcx_a20 fu⟩
def msk_a20 (b : Nat) : List Nat := match b with | 0 => (0 :: 2 :: (rg 4 17 (rg 24 70 []))) | 100000 => (0 :: (rg 4 90 [])) | 2 => (0 :: 1 :: 2 :: (rg 4 54 (rg 61 33 []))) | 100002 => (0 :: 1 :: (rg 4 90 [])) | 4 => (0 :: 1 :: 2 :: (rg 4 54 (rg 61 21 (rg 85 9 [])))) | 100004 => (0 :: 1 :: (rg 4 54 (rg 61 33 []))) | 300000 => [3] | 300002 => [3] | _ => []
def ps_a20_0 : List (Pat RT) := (.flat .q :: .flat (.ref 0 0) :: .flat .q :: .flat (.os 1) :: (fq 17 (.flat (.rs .impl_Backend) :: .flat (.int .i64) :: .flat (.int .i64) :: (fq 70 []))))
def os_a20_0 : List (OP RT) := [.box false [(.int .i64), (.rs .impl_Backend), (.rs .impl_Vip)], .row false .u8]
def conv_a20_0 (r : Raw den ps_a20_0 os_a20_0) : (Yc2) × (Nat × Int × Nat × (Nat → Int)) := (((e20 r.1).2.1, (e20 r.1).2.2.1, r.2.1.1, r.2.1.2.1, r.2.1.2.2.1), (r.1.2.2.2.1, (e20 r.1).2.2.2.1, r.2.2.1.1, r.2.2.1.2))
def back_a20_0 (c : Yc2) (w : Nat × Int × Nat × (Nat → Int)) : St RT den := ⟨(.q :: (.ref 0 0) :: .q :: (.os 1 w.1) :: (qs 17 ((.rs c.1.z .impl_Backend c.1.n c.1.f) :: (ii c.2.1) :: (ii w.2.1) :: (qs 70 [])))), [(.box false [(ii c.2.2.1), (.rs c.2.2.2.1.z .impl_Backend c.2.2.2.1.n c.2.2.2.1.f), (.rs c.2.2.2.2.z .impl_Vip c.2.2.2.2.n c.2.2.2.2.f)]), (.row false .u8 w.2.2.1 w.2.2.2)]⟩
def Bk_a20_0 {ρ : Type} (fu : Nat) (c : Yc2) (k : Ex → St RT den → Option ρ) (w : Nat × Int × Nat × (Nat → Int)) (go : (Nat × Int × Nat × (Nat → Int)) → Option ρ) : Option ρ := F_impl_packConfig_H_B0 fu c.1 c.2.1 c.2.2.1 c.2.2.2.1 c.2.2.2.2 (fun a0 a1 a2 => k (.exit 0) ⟨(.q :: (.ref 0 0) :: .q :: (.os 1 a0) :: (qs 90 [])), [(.box false [(ii c.2.2.1), (.rs c.2.2.2.1.z .impl_Backend c.2.2.2.1.n c.2.2.2.1.f), (.rs c.2.2.2.2.z .impl_Vip c.2.2.2.2.n c.2.2.2.2.f)]), (.row false .u8 a1 a2)]⟩) w.1 w.2.1 w.2.2.1 w.2.2.2 (fun q0 q1 q2 q3 => go (q0, q1, q2, q3))
def ps_a20_4 : List (Pat RT) := (.flat .q :: .flat .q :: .flat .q :: .flat (.os 1) :: (fq 54 (.flat (.rs .impl_Vip) :: .flat (.int .i64) :: .flat (.int .i64) :: (fq 21 (.flat (.rs .i64) :: .flat (.int .i64) :: .flat (.int .i64) :: (fq 9 []))))))
def os_a20_4 : List (OP RT) := [.box false [(.int .i64), (.rs .impl_Backend), (.rs .impl_Vip)], .row false .u8, .box false [(.int .i64), (.int .i64), (.int .i64), (.rs .i64)]]
def conv_a20_4 (r : Raw den ps_a20_4 os_a20_4) : (Yc3) × (Nat × Int × Nat × (Nat → Int)) := (((e5 (e10 (e40 r.1))).2.2.2.1, (e5 (e10 (e40 r.1))).2.2.2.2.1, (e20 (e40 r.1)).1, (e40 (e40 r.1)).2.2.1, (e40 (e40 r.1)).2.2.2.1, r.2.1.1, r.2.1.2.1, r.2.1.2.2.1, r.2.2.2.1.1, r.2.2.2.1.2.1, r.2.2.2.1.2.2.1, r.2.2.2.1.2.2.2.1), (r.1.2.2.2.1, (e40 (e40 r.1)).2.2.2.2.1, r.2.2.1.1, r.2.2.1.2))
def back_a20_4 (c : Yc3) (w : Nat × Int × Nat × (Nat → Int)) : St RT den := ⟨(.q :: .q :: .q :: (.os 1 w.1) :: (qs 54 ((.rs c.1.z .impl_Vip c.1.n c.1.f) :: (ii c.2.1) :: (ii c.2.2.1) :: (qs 21 ((.rs c.2.2.2.1.z .i64 c.2.2.2.1.n c.2.2.2.1.f) :: (ii c.2.2.2.2.1) :: (ii w.2.1) :: (qs 9 [])))))), [(.box false [(ii (e5 c).1), (.rs (e5 c).2.1.z .impl_Backend (e5 c).2.1.n (e5 c).2.1.f), (.rs (e5 c).2.2.1.z .impl_Vip (e5 c).2.2.1.n (e5 c).2.2.1.f)]), (.row false .u8 w.2.2.1 w.2.2.2), (.box false [(ii (e5 c).2.2.2.1), (ii (e5 c).2.2.2.2.1), (ii (e10 c).1), (.rs (e10 c).2.z .i64 (e10 c).2.n (e10 c).2.f)])]⟩
def Bk_a20_4 {ρ : Type} (fu : Nat) (c : Yc3) (k : Ex → St RT den → Option ρ) (w : Nat × Int × Nat × (Nat → Int)) (go : (Nat × Int × Nat × (Nat → Int)) → Option ρ) : Option ρ := F_impl_packConfig_H_B4 fu c.1 c.2.1 c.2.2.1 c.2.2.2.1 c.2.2.2.2.1 (e5 c).1 (e5 c).2.1 (e5 c).2.2.1 (e5 c).2.2.2.1 (e5 c).2.2.2.2.1 (e10 c).1 (e10 c).2 (fun a0 a1 a2 => k (.exit 4) ⟨(.q :: .q :: .q :: (.os 1 a0) :: (qs 54 ((.rs c.1.z .impl_Vip c.1.n c.1.f) :: (ii c.2.1) :: (ii c.2.2.1) :: (qs 33 [])))), [(.box false [(ii (e5 c).1), (.rs (e5 c).2.1.z .impl_Backend (e5 c).2.1.n (e5 c).2.1.f), (.rs (e5 c).2.2.1.z .impl_Vip (e5 c).2.2.1.n (e5 c).2.2.1.f)]), (.row false .u8 a1 a2), (.box false [(ii (e5 c).2.2.2.1), (ii (e5 c).2.2.2.2.1), (ii (e10 c).1), (.rs (e10 c).2.z .i64 (e10 c).2.n (e10 c).2.f)])]⟩) w.1 w.2.1 w.2.2.1 w.2.2.2 (fun q0 q1 q2 q3 => go (q0, q1, q2, q3))
def ps_a20_2 : List (Pat RT) := (.flat .q :: .flat .q :: .flat .q :: .flat (.os 1) :: (fq 54 (.flat (.rs .impl_Vip) :: .flat (.int .i64) :: .flat (.int .i64) :: (fq 33 []))))
def os_a20_2 : List (OP RT) := [.box false [(.int .i64), (.rs .impl_Backend), (.rs .impl_Vip)], .row false .u8]
def conv_a20_2 (r : Raw den ps_a20_2 os_a20_2) : (Yc1) × (Nat × Int × Nat × (Nat → Int)) := (((e5 (e10 (e40 r.1))).2.2.2.1, (e5 (e10 (e40 r.1))).2.2.2.2.1, r.2.1.1, r.2.1.2.1, r.2.1.2.2.1), (r.1.2.2.2.1, (e20 (e40 r.1)).1, r.2.2.1.1, r.2.2.1.2))
def back_a20_2 (c : Yc1) (w : Nat × Int × Nat × (Nat → Int)) : St RT den := ⟨(.q :: .q :: .q :: (.os 1 w.1) :: (qs 54 ((.rs c.1.z .impl_Vip c.1.n c.1.f) :: (ii c.2.1) :: (ii w.2.1) :: (qs 33 [])))), [(.box false [(ii c.2.2.1), (.rs c.2.2.2.1.z .impl_Backend c.2.2.2.1.n c.2.2.2.1.f), (.rs c.2.2.2.2.z .impl_Vip c.2.2.2.2.n c.2.2.2.2.f)]), (.row false .u8 w.2.2.1 w.2.2.2)]⟩
def Bk_a20_2 {ρ : Type} (fu : Nat) (c : Yc1) (k : Ex → St RT den → Option ρ) (w : Nat × Int × Nat × (Nat → Int)) (go : (Nat × Int × Nat × (Nat → Int)) → Option ρ) : Option ρ := F_impl_packConfig_H_B2 fu c.1 c.2.1 c.2.2.1 c.2.2.2.1 c.2.2.2.2 (fun a0 a1 a2 => k (.exit 2) ⟨(.q :: .q :: .q :: (.os 1 a0) :: (qs 90 [])), [(.box false [(ii c.2.2.1), (.rs c.2.2.2.1.z .impl_Backend c.2.2.2.1.n c.2.2.2.1.f), (.rs c.2.2.2.2.z .impl_Vip c.2.2.2.2.n c.2.2.2.2.f)]), (.row false .u8 a1 a2)]⟩) w.1 w.2.1 w.2.2.1 w.2.2.2 (fun q0 q1 q2 q3 => go (q0, q1, q2, q3))
def lp_a20 (fu : Nat) : Lp RT den ((Sl Int)) := ⟨fun b s k => match b with | 0 => handle ps_a20_0 os_a20_0 conv_a20_0 (Bk_a20_0 fu) fu s k | 2 => handle ps_a20_2 os_a20_2 conv_a20_2 (Bk_a20_2 fu) fu s k | 4 => handle ps_a20_4 os_a20_4 conv_a20_4 (Bk_a20_4 fu) fu s k | _ => none, inl0⟩
theorem ev_a20 (fu : Nat) (c_0 : S_impl_Config) : evFunX E false (pc_a20 fu) msk_a20 (lp_a20 fu) out_sl_u8_H 37 [(.agg [(ii c_0.Version), (.rs c_0.Backends.z .impl_Backend c_0.Backends.n c_0.Backends.f), (.rs c_0.Vips.z .impl_Vip c_0.Vips.n c_0.Vips.f)])] [] = F_impl_packConfig_H fu c_0 := by kernel_rfl
noncomputable def body_a20 : Code := Try.f37.body.getD .skip
noncomputable def lc_a20_0 : Code := ((loops 0 body_a20).getD 0 (0, .skip)).2
theorem round_a20_0 (fu : Nat) : RoundOk E (pc_a20 fu) msk_a20 (lp_a20 fu) 0 lc_a20_0 back_a20_0 0 100000 2 (Bk_a20_0 fu) := fun it k c w => by kernel_rfl
theorem lpok_a20_0 (fu : Nat) : LpAt E (pc_a20 fu) msk_a20 (lp_a20 fu) 0 0 100000 0 lc_a20_0 :=
 handle_ok (ps := ps_a20_0) (os := os_a20_0) (conv := conv_a20_0) (B := Bk_a20_0 fu) (fu := fu) back_a20_0 (fun raw => by kernel_rfl) 2 (fun c w => by kernel_rfl) (round_a20_0 fu)
noncomputable def lc_a20_2 : Code := ((loops 0 body_a20).getD 1 (0, .skip)).2
theorem round_a20_2 (fu : Nat) : RoundOk E (pc_a20 fu) msk_a20 (lp_a20 fu) 2 lc_a20_2 back_a20_2 2 100002 2 (Bk_a20_2 fu) := fun it k c w => by kernel_rfl
theorem lpok_a20_2 (fu : Nat) : LpAt E (pc_a20 fu) msk_a20 (lp_a20 fu) 2 2 100002 2 lc_a20_2 :=
 handle_ok (ps := ps_a20_2) (os := os_a20_2) (conv := conv_a20_2) (B := Bk_a20_2 fu) (fu := fu) back_a20_2 (fun raw => by kernel_rfl) 2 (fun c w => by kernel_rfl) (round_a20_2 fu)
noncomputable def lc_a20_4 : Code := ((loops 0 body_a20).getD 2 (0, .skip)).2
theorem round_a20_4 (fu : Nat) : RoundOk E (pc_a20 fu) msk_a20 (lp_a20 fu) 4 lc_a20_4 back_a20_4 4 100004 3 (Bk_a20_4 fu) := fun it k c w => by kernel_rfl
theorem lpok_a20_4 (fu : Nat) : LpAt E (pc_a20 fu) msk_a20 (lp_a20 fu) 4 4 100004 4 lc_a20_4 :=
 handle_ok (ps := ps_a20_4) (os := os_a20_4) (conv := conv_a20_4) (B := Bk_a20_4 fu) (fu := fu) back_a20_4 (fun raw => by kernel_rfl) 3 (fun c w => by kernel_rfl) (round_a20_4 fu)
theorem lpok_a20 (fu : Nat) : LpOk E (pc_a20 fu) 0 msk_a20 (lp_a20 fu) (loops 0 body_a20) := lp_nil (loop_all 3 (by kernel_rfl) fun i hi => match i, hi with
 | 0, _ => by
  have h : (loops 0 body_a20).getD 0 (0, .skip) = (0, lc_a20_0) := by kernel_rfl
  rw [h]; exact lpok_a20_0 fu
 | 1, _ => by
  have h : (loops 0 body_a20).getD 1 (0, .skip) = (2, lc_a20_2) := by kernel_rfl
  rw [h]; exact lpok_a20_2 fu
 | 2, _ => by
  have h : (loops 0 body_a20).getD 2 (0, .skip) = (4, lc_a20_4) := by kernel_rfl
  rw [h]; exact lpok_a20_4 fu
 | i + 3, hi => absurd hi (by omega)) (by kernel_rfl)
def S_a20 (fu : Nat) (xs : List (D RT den)) (ins : List (Ob RT den)) : Option (OutX RT den) := match xs, ins with | [.agg [.int .i64 a0_1, .rs za0_2 .impl_Backend na0_2 fa0_2, .rs za0_3 .impl_Vip na0_3 fa0_3]], [] => some ⟨(Sl Int), F_impl_packConfig_H fu (⟨a0_1, (⟨za0_2, na0_2, fa0_2⟩ : (Sl S_impl_Backend)), (⟨za0_3, na0_3, fa0_3⟩ : (Sl S_impl_Vip))⟩ : S_impl_Config), enc_sl_u8_H⟩ | _, _ => none
theorem hpx_a20 (fu : Nat) : HpxOk E Try.prog pcd_a20 pcg_a20 (pcx_a20 fu) := by
 intro f xs ins o h
 unfold pcx_a20 at h
 split at h
 ·exact good_a19 fu xs ins o h
 ·cases h
theorem goodv_a20 (fu : Nat) (c_0 : S_impl_Config) (y : (Sl Int)) (hy : F_impl_packConfig_H fu c_0 = some y) : GoodX E Try.prog 37 [(.agg [(ii c_0.Version), (.rs c_0.Backends.z .impl_Backend c_0.Backends.n c_0.Backends.f), (.rs c_0.Vips.z .impl_Vip c_0.Vips.n c_0.Vips.f)])] [] (enc_sl_u8_H y).1 (enc_sl_u8_H y).2 :=
 funX_good (ke := false) E_ok (pc_good (pc := pc_a20 fu) hpc0 (hpx_a20 fu)) (fn := Try.f37) (by kernel_rfl) (by kernel_rfl) (by kernel_rfl) (lpok_a20 fu) (by kernel_rfl) (Nat.zero_le _) (fun d os hd => out_sl_u8_H_enc d os _ hd) ((ev_a20 fu c_0).trans hy)
theorem good_a20 (fu : Nat) : GoodSX E Try.prog 37 (S_a20 fu) := by
 intro xs ins o h y hy
 unfold S_a20 at h
 split at h
 ·rename_i a0_1 za0_2 na0_2 fa0_2 za0_3 na0_3 fa0_3
  cases h
  exact goodv_a20 fu (⟨a0_1, (⟨za0_2, na0_2, fa0_2⟩ : (Sl S_impl_Backend)), (⟨za0_3, na0_3, fa0_3⟩ : (Sl S_impl_Vip))⟩ : S_impl_Config) y hy
 ·cases h
def F_impl_in (fu : Nat) (n_0 low_1 high_2 : Int) : Option (Bool) :=
 (((bif (decide (n_0 ≥ low_1)) then (some (decide (n_0 ≤ high_2))) else (some false)) : Option Bool).bind fun m407 => (some m407))
def pc_a21 (fu : Nat) : Pc RT den := ⟨pcf0, fun _ => false, fun _ => false, pcd0, pcd0, pcd0, pcx0⟩
def msk_a21 (b : Nat) : List Nat := match b with | 200001 => [6] | _ => []
def lp_a21 (fu : Nat) : Lp RT den (Bool) := ⟨fun b s k => none, inl0⟩
theorem ev_a21 (fu : Nat) (n_0 low_1 high_2 : Int) : evFun E (pc_a21 fu) msk_a21 (lp_a21 fu) out_bo 77 [(ii n_0), (ii low_1), (ii high_2)] = F_impl_in fu n_0 low_1 high_2 := by kernel_rfl
noncomputable def body_a21 : Code := Try.f77.body.getD .skip
theorem lpok_a21 (fu : Nat) : LpOk E (pc_a21 fu) 0 msk_a21 (lp_a21 fu) (loops 0 body_a21) := lp_nil (loop_nil (by kernel_rfl)) (by kernel_rfl)
def S_a21 (fu : Nat) (xs : List (D RT den)) : Option (Out RT den) := match xs with | [.int .i64 a0_0, .int .i64 a1_0, .int .i64 a2_0] => some ⟨Bool, F_impl_in fu a0_0 a1_0 a2_0, enc_bo, fun _ => true⟩ | _ => none
theorem goodv_a21 (fu : Nat) (n_0 low_1 high_2 : Int) (y : Bool) (hy : F_impl_in fu n_0 low_1 high_2 = some y) : Good E Try.prog 77 [(ii n_0), (ii low_1), (ii high_2)] (enc_bo y) :=
 fun_good E_ok (pc_good (pc := pc_a21 fu) hpc0 hpx0) (fn := Try.f77) (by kernel_rfl) (by kernel_rfl) (by kernel_rfl) (lpok_a21 fu) (fun d hd => out_bo_enc d _ hd) ((ev_a21 fu n_0 low_1 high_2).trans hy)
theorem good_a21 (fu : Nat) : GoodS E Try.prog 77 (S_a21 fu) := by
 intro xs o h y hy
 unfold S_a21 at h
 split at h
 ·rename_i a0_0 a1_0 a2_0
  cases h
  exact goodv_a21 fu a0_0 a1_0 a2_0 y hy
 ·cases h
def F_impl_isName (fu : Nat) (name_0 : Int) : Option (Bool) :=
 ((F_impl_in fu name_0 1 999).bind fun y413 => (some y413))
def pcf_a22 (fu f : Nat) (xs : List (D RT den)) : Option (Out RT den) := match f with | 77 => S_a21 fu xs | _ => none
def pc_a22 (fu : Nat) : Pc RT den := ⟨pcf_a22 fu, fun _ => false, fun _ => false, pcd0, pcd0, pcd0, pcx0⟩
def msk_a22 (b : Nat) : List Nat := []
def lp_a22 (fu : Nat) : Lp RT den (Bool) := ⟨fun b s k => none, inl0⟩
theorem ev_a22 (fu : Nat) (name_0 : Int) : evFun E (pc_a22 fu) msk_a22 (lp_a22 fu) out_bo 93 [(ii name_0)] = F_impl_isName fu name_0 := by kernel_rfl
noncomputable def body_a22 : Code := Try.f93.body.getD .skip
theorem lpok_a22 (fu : Nat) : LpOk E (pc_a22 fu) 0 msk_a22 (lp_a22 fu) (loops 0 body_a22) := lp_nil (loop_nil (by kernel_rfl)) (by kernel_rfl)
def S_a22 (fu : Nat) (xs : List (D RT den)) : Option (Out RT den) := match xs with | [.int .i64 a0_0] => some ⟨Bool, F_impl_isName fu a0_0, enc_bo, fun _ => true⟩ | _ => none
theorem hpc_a22 (fu : Nat) : HpcOk E Try.prog (pcf_a22 fu) := by
 intro f xs o h
 unfold pcf_a22 at h
 split at h
 ·exact good_a21 fu xs o h
 ·cases h
theorem goodv_a22 (fu : Nat) (name_0 : Int) (y : Bool) (hy : F_impl_isName fu name_0 = some y) : Good E Try.prog 93 [(ii name_0)] (enc_bo y) :=
 fun_good E_ok (pc_good (pc := pc_a22 fu) (hpc_a22 fu) hpx0) (fn := Try.f93) (by kernel_rfl) (by kernel_rfl) (by kernel_rfl) (lpok_a22 fu) (fun d hd => out_bo_enc d _ hd) ((ev_a22 fu name_0).trans hy)
theorem good_a22 (fu : Nat) : GoodS E Try.prog 93 (S_a22 fu) := by
 intro xs o h y hy
 unfold S_a22 at h
 split at h
 ·rename_i a0_0
  cases h
  exact goodv_a22 fu a0_0 y hy
 ·cases h
def F_impl_isAddress (fu : Nat) (a_0 : Int) : Option (Bool) :=
 ((F_impl_in fu a_0 0 4294967295).bind fun y414 => (some y414))
def pcf_a23 (fu f : Nat) (xs : List (D RT den)) : Option (Out RT den) := match f with | 77 => S_a21 fu xs | _ => none
def pc_a23 (fu : Nat) : Pc RT den := ⟨pcf_a23 fu, fun _ => false, fun _ => false, pcd0, pcd0, pcd0, pcx0⟩
def msk_a23 (b : Nat) : List Nat := []
def lp_a23 (fu : Nat) : Lp RT den (Bool) := ⟨fun b s k => none, inl0⟩
theorem ev_a23 (fu : Nat) (a_0 : Int) : evFun E (pc_a23 fu) msk_a23 (lp_a23 fu) out_bo 63 [(ii a_0)] = F_impl_isAddress fu a_0 := by kernel_rfl
noncomputable def body_a23 : Code := Try.f63.body.getD .skip
theorem lpok_a23 (fu : Nat) : LpOk E (pc_a23 fu) 0 msk_a23 (lp_a23 fu) (loops 0 body_a23) := lp_nil (loop_nil (by kernel_rfl)) (by kernel_rfl)
def S_a23 (fu : Nat) (xs : List (D RT den)) : Option (Out RT den) := match xs with | [.int .i64 a0_0] => some ⟨Bool, F_impl_isAddress fu a0_0, enc_bo, fun _ => true⟩ | _ => none
theorem hpc_a23 (fu : Nat) : HpcOk E Try.prog (pcf_a23 fu) := by
 intro f xs o h
 unfold pcf_a23 at h
 split at h
 ·exact good_a21 fu xs o h
 ·cases h
theorem goodv_a23 (fu : Nat) (a_0 : Int) (y : Bool) (hy : F_impl_isAddress fu a_0 = some y) : Good E Try.prog 63 [(ii a_0)] (enc_bo y) :=
 fun_good E_ok (pc_good (pc := pc_a23 fu) (hpc_a23 fu) hpx0) (fn := Try.f63) (by kernel_rfl) (by kernel_rfl) (by kernel_rfl) (lpok_a23 fu) (fun d hd => out_bo_enc d _ hd) ((ev_a23 fu a_0).trans hy)
theorem good_a23 (fu : Nat) : GoodS E Try.prog 63 (S_a23 fu) := by
 intro xs o h y hy
 unfold S_a23 at h
 split at h
 ·rename_i a0_0
  cases h
  exact goodv_a23 fu a0_0 y hy
 ·cases h
def F_impl_isBackend (fu : Nat) (b_0 : S_impl_Backend) : Option (Bool) :=
 ((((F_impl_isName fu b_0.Name).bind fun y408 => (bif y408 then ((F_impl_isAddress fu b_0.Address).bind fun y409 => (bif y409 then ((F_impl_in fu b_0.Weight 0 9).bind fun y410 =>
  (bif y410 then ((F_impl_in fu b_0.Stage 1 3).bind fun y411 => (some y411)) else (some false))) else (some false))) else (some false))) : Option Bool).bind fun m412 => (some m412))
def pcf_a24 (fu f : Nat) (xs : List (D RT den)) : Option (Out RT den) := match f with | 63 => S_a23 fu xs | 77 => S_a21 fu xs | 93 => S_a22 fu xs | _ => none
def pc_a24 (fu : Nat) : Pc RT den := ⟨pcf_a24 fu, fun _ => false, fun _ => false, pcd0, pcd0, pcd0, pcx0⟩
def msk_a24 (b : Nat) : List Nat := match b with | 200001 => [2] | _ => []
def lp_a24 (fu : Nat) : Lp RT den (Bool) := ⟨fun b s k => none, inl0⟩
theorem ev_a24 (fu : Nat) (b_0 : S_impl_Backend) : evFun E (pc_a24 fu) msk_a24 (lp_a24 fu) out_bo 78 [(.agg [(ii b_0.Name), (ii b_0.Address), (ii b_0.Weight), (ii b_0.Stage), (.bool b_0.Up)])] = F_impl_isBackend fu b_0 := by kernel_rfl
noncomputable def body_a24 : Code := Try.f78.body.getD .skip
theorem lpok_a24 (fu : Nat) : LpOk E (pc_a24 fu) 0 msk_a24 (lp_a24 fu) (loops 0 body_a24) := lp_nil (loop_nil (by kernel_rfl)) (by kernel_rfl)
def S_a24 (fu : Nat) (xs : List (D RT den)) : Option (Out RT den) := match xs with | [.agg [.int .i64 a0_1, .int .i64 a0_2, .int .i64 a0_3, .int .i64 a0_4, .bool a0_5]] => some ⟨Bool, F_impl_isBackend fu (⟨a0_1, a0_2, a0_3, a0_4, a0_5⟩ : S_impl_Backend), enc_bo, fun _ => true⟩ | _ => none
theorem hpc_a24 (fu : Nat) : HpcOk E Try.prog (pcf_a24 fu) := by
 intro f xs o h
 unfold pcf_a24 at h
 split at h
 ·exact good_a23 fu xs o h
 ·exact good_a21 fu xs o h
 ·exact good_a22 fu xs o h
 ·cases h
theorem goodv_a24 (fu : Nat) (b_0 : S_impl_Backend) (y : Bool) (hy : F_impl_isBackend fu b_0 = some y) : Good E Try.prog 78 [(.agg [(ii b_0.Name), (ii b_0.Address), (ii b_0.Weight), (ii b_0.Stage), (.bool b_0.Up)])] (enc_bo y) :=
 fun_good E_ok (pc_good (pc := pc_a24 fu) (hpc_a24 fu) hpx0) (fn := Try.f78) (by kernel_rfl) (by kernel_rfl) (by kernel_rfl) (lpok_a24 fu) (fun d hd => out_bo_enc d _ hd) ((ev_a24 fu b_0).trans hy)
theorem good_a24 (fu : Nat) : GoodS E Try.prog 78 (S_a24 fu) := by
 intro xs o h y hy
 unfold S_a24 at h
 split at h
 ·rename_i a0_1 a0_2 a0_3 a0_4 a0_5
  cases h
  exact goodv_a24 fu (⟨a0_1, a0_2, a0_3, a0_4, a0_5⟩ : S_impl_Backend) y hy
 ·cases h
def F_impl_isPort (fu : Nat) (n_0 : Int) : Option (Bool) :=
 ((F_impl_in fu n_0 0 65535).bind fun y415 => (some y415))
def pcf_a25 (fu f : Nat) (xs : List (D RT den)) : Option (Out RT den) := match f with | 77 => S_a21 fu xs | _ => none
def pc_a25 (fu : Nat) : Pc RT den := ⟨pcf_a25 fu, fun _ => false, fun _ => false, pcd0, pcd0, pcd0, pcx0⟩
def msk_a25 (b : Nat) : List Nat := []
def lp_a25 (fu : Nat) : Lp RT den (Bool) := ⟨fun b s k => none, inl0⟩
theorem ev_a25 (fu : Nat) (n_0 : Int) : evFun E (pc_a25 fu) msk_a25 (lp_a25 fu) out_bo 79 [(ii n_0)] = F_impl_isPort fu n_0 := by kernel_rfl
noncomputable def body_a25 : Code := Try.f79.body.getD .skip
theorem lpok_a25 (fu : Nat) : LpOk E (pc_a25 fu) 0 msk_a25 (lp_a25 fu) (loops 0 body_a25) := lp_nil (loop_nil (by kernel_rfl)) (by kernel_rfl)
def S_a25 (fu : Nat) (xs : List (D RT den)) : Option (Out RT den) := match xs with | [.int .i64 a0_0] => some ⟨Bool, F_impl_isPort fu a0_0, enc_bo, fun _ => true⟩ | _ => none
theorem hpc_a25 (fu : Nat) : HpcOk E Try.prog (pcf_a25 fu) := by
 intro f xs o h
 unfold pcf_a25 at h
 split at h
 ·exact good_a21 fu xs o h
 ·cases h
theorem goodv_a25 (fu : Nat) (n_0 : Int) (y : Bool) (hy : F_impl_isPort fu n_0 = some y) : Good E Try.prog 79 [(ii n_0)] (enc_bo y) :=
 fun_good E_ok (pc_good (pc := pc_a25 fu) (hpc_a25 fu) hpx0) (fn := Try.f79) (by kernel_rfl) (by kernel_rfl) (by kernel_rfl) (lpok_a25 fu) (fun d hd => out_bo_enc d _ hd) ((ev_a25 fu n_0).trans hy)
theorem good_a25 (fu : Nat) : GoodS E Try.prog 79 (S_a25 fu) := by
 intro xs o h y hy
 unfold S_a25 at h
 split at h
 ·rename_i a0_0
  cases h
  exact goodv_a25 fu a0_0 y hy
 ·cases h
def F_impl_isProto (fu : Nat) (n_0 : Int) : Option (Bool) :=
 (((bif (n_0 == 6) then (some true) else (some (n_0 == 17))) : Option Bool).bind fun m416 => (some m416))
def pc_a26 (fu : Nat) : Pc RT den := ⟨pcf0, fun _ => false, fun _ => false, pcd0, pcd0, pcd0, pcx0⟩
def msk_a26 (b : Nat) : List Nat := match b with | 200001 => [2] | _ => []
def lp_a26 (fu : Nat) : Lp RT den (Bool) := ⟨fun b s k => none, inl0⟩
theorem ev_a26 (fu : Nat) (n_0 : Int) : evFun E (pc_a26 fu) msk_a26 (lp_a26 fu) out_bo 80 [(ii n_0)] = F_impl_isProto fu n_0 := by kernel_rfl
noncomputable def body_a26 : Code := Try.f80.body.getD .skip
theorem lpok_a26 (fu : Nat) : LpOk E (pc_a26 fu) 0 msk_a26 (lp_a26 fu) (loops 0 body_a26) := lp_nil (loop_nil (by kernel_rfl)) (by kernel_rfl)
def S_a26 (fu : Nat) (xs : List (D RT den)) : Option (Out RT den) := match xs with | [.int .i64 a0_0] => some ⟨Bool, F_impl_isProto fu a0_0, enc_bo, fun _ => true⟩ | _ => none
theorem goodv_a26 (fu : Nat) (n_0 : Int) (y : Bool) (hy : F_impl_isProto fu n_0 = some y) : Good E Try.prog 80 [(ii n_0)] (enc_bo y) :=
 fun_good E_ok (pc_good (pc := pc_a26 fu) hpc0 hpx0) (fn := Try.f80) (by kernel_rfl) (by kernel_rfl) (by kernel_rfl) (lpok_a26 fu) (fun d hd => out_bo_enc d _ hd) ((ev_a26 fu n_0).trans hy)
theorem good_a26 (fu : Nat) : GoodS E Try.prog 80 (S_a26 fu) := by
 intro xs o h y hy
 unfold S_a26 at h
 split at h
 ·rename_i a0_0
  cases h
  exact goodv_a26 fu a0_0 y hy
 ·cases h
def F_cmp_isNaN_int64 (fu : Nat) (x_0 : Int) : Option (Bool) :=
 (some (x_0 != x_0))
def pc_a27 (fu : Nat) : Pc RT den := ⟨pcf0, fun _ => false, fun _ => false, pcd0, pcd0, pcd0, pcx0⟩
def msk_a27 (b : Nat) : List Nat := []
def lp_a27 (fu : Nat) : Lp RT den (Bool) := ⟨fun b s k => none, inl0⟩
theorem ev_a27 (fu : Nat) (x_0 : Int) : evFun E (pc_a27 fu) msk_a27 (lp_a27 fu) out_bo 139 [(ii x_0)] = F_cmp_isNaN_int64 fu x_0 := by kernel_rfl
noncomputable def body_a27 : Code := Try.f139.body.getD .skip
theorem lpok_a27 (fu : Nat) : LpOk E (pc_a27 fu) 0 msk_a27 (lp_a27 fu) (loops 0 body_a27) := lp_nil (loop_nil (by kernel_rfl)) (by kernel_rfl)
def S_a27 (fu : Nat) (xs : List (D RT den)) : Option (Out RT den) := match xs with | [.int .i64 a0_0] => some ⟨Bool, F_cmp_isNaN_int64 fu a0_0, enc_bo, fun _ => true⟩ | _ => none
theorem goodv_a27 (fu : Nat) (x_0 : Int) (y : Bool) (hy : F_cmp_isNaN_int64 fu x_0 = some y) : Good E Try.prog 139 [(ii x_0)] (enc_bo y) :=
 fun_good E_ok (pc_good (pc := pc_a27 fu) hpc0 hpx0) (fn := Try.f139) (by kernel_rfl) (by kernel_rfl) (by kernel_rfl) (lpok_a27 fu) (fun d hd => out_bo_enc d _ hd) ((ev_a27 fu x_0).trans hy)
theorem good_a27 (fu : Nat) : GoodS E Try.prog 139 (S_a27 fu) := by
 intro xs o h y hy
 unfold S_a27 at h
 split at h
 ·rename_i a0_0
  cases h
  exact goodv_a27 fu a0_0 y hy
 ·cases h
def F_cmp_Compare_int64 (fu : Nat) (x_0 y_1 : Int) : Option (Int) :=
 ((F_cmp_isNaN_int64 fu x_0).bind fun y421 => ((F_cmp_isNaN_int64 fu y_1).bind fun y422 => (bif y421 then (bif y422 then (some 0) else (some (-1))) else (bif y422 then (some 1) else
  (bif (decide (x_0 < y_1)) then (some (-1)) else (bif (decide (x_0 > y_1)) then (some 1) else (some 0)))))))
def pcf_a28 (fu f : Nat) (xs : List (D RT den)) : Option (Out RT den) := match f with | 139 => S_a27 fu xs | _ => none
def pc_a28 (fu : Nat) : Pc RT den := ⟨pcf_a28 fu, fun _ => false, fun _ => false, pcd0, pcd0, pcd0, pcx0⟩
def msk_a28 (b : Nat) : List Nat := []
def lp_a28 (fu : Nat) : Lp RT den (Int) := ⟨fun b s k => none, inl0⟩
theorem ev_a28 (fu : Nat) (x_0 y_1 : Int) : evFun E (pc_a28 fu) msk_a28 (lp_a28 fu) out_i64 123 [(ii x_0), (ii y_1)] = F_cmp_Compare_int64 fu x_0 y_1 := by kernel_rfl
noncomputable def body_a28 : Code := Try.f123.body.getD .skip
theorem lpok_a28 (fu : Nat) : LpOk E (pc_a28 fu) 0 msk_a28 (lp_a28 fu) (loops 0 body_a28) := lp_nil (loop_nil (by kernel_rfl)) (by kernel_rfl)
def S_a28 (fu : Nat) (xs : List (D RT den)) : Option (Out RT den) := match xs with | [.int .i64 a0_0, .int .i64 a1_0] => some ⟨Int, F_cmp_Compare_int64 fu a0_0 a1_0, enc_i64, fun _ => true⟩ | _ => none
theorem hpc_a28 (fu : Nat) : HpcOk E Try.prog (pcf_a28 fu) := by
 intro f xs o h
 unfold pcf_a28 at h
 split at h
 ·exact good_a27 fu xs o h
 ·cases h
theorem goodv_a28 (fu : Nat) (x_0 y_1 y : Int) (hy : F_cmp_Compare_int64 fu x_0 y_1 = some y) : Good E Try.prog 123 [(ii x_0), (ii y_1)] (enc_i64 y) :=
 fun_good E_ok (pc_good (pc := pc_a28 fu) (hpc_a28 fu) hpx0) (fn := Try.f123) (by kernel_rfl) (by kernel_rfl) (by kernel_rfl) (lpok_a28 fu) (fun d hd => out_i64_enc d _ hd) ((ev_a28 fu x_0 y_1).trans hy)
theorem good_a28 (fu : Nat) : GoodS E Try.prog 123 (S_a28 fu) := by
 intro xs o h y hy
 unfold S_a28 at h
 split at h
 ·rename_i a0_0 a1_0
  cases h
  exact goodv_a28 fu a0_0 a1_0 y hy
 ·cases h
def F_cmp_Or_int_B0 {ρ : Type} (fu : Nat) (zero3_0 : Int) (t6_1 : (Sl Int)) (t7_2 : Int) (k0 : Int → Option ρ) (k1 : Option ρ) (t8_3 : Int) (go : Int → Option ρ) : Option ρ :=
 (bif (decide (t8_3 < t7_2)) then ((bif (decide (0 ≤ t8_3) && decide ((Int.toNat t8_3) < t6_1.n)) then some () else none : Option Unit).bind fun _ => (bif ((t6_1.f (Int.toNat t8_3)) != zero3_0) then
  (k0 (t6_1.f (Int.toNat t8_3))) else (go (IntKind.wrap .i64 (t8_3 + 1))))) else k1)
def F_cmp_Or_int (fu : Nat) (vals_0 : (Sl Int)) : Option (Int) :=
 (L (fun w0 go0 => F_cmp_Or_int_B0 fu 0 vals_0 ((vals_0.n : Nat) : Int) (fun z423 => (some z423)) (some 0) w0 go0) fu (0 : Int))
def pc_a29 (fu : Nat) : Pc RT den := ⟨pcf0, fun _ => false, fun _ => false, pcd0, pcd0, pcd0, pcx0⟩
def msk_a29 (b : Nat) : List Nat := match b with | 0 => (0 :: 1 :: 2 :: 4 :: 5 :: (rg 9 9 [])) | 100000 => (0 :: 1 :: (rg 4 14 [])) | _ => []
def ps_a29_0 : List (Pat RT) := (.flat .q :: .flat .q :: .flat .q :: .flat (.int .i64) :: .flat .q :: .flat .q :: .flat (.rs .i64) :: .flat (.int .i64) :: .flat (.int .i64) :: (fq 9 []))
def os_a29_0 : List (OP RT) := []
def conv_a29_0 (r : Raw den ps_a29_0 os_a29_0) : (Int × (Sl Int) × Int) × (Int) := ((r.1.2.2.2.1, (e5 r.1).2.1, (e5 r.1).2.2.1), (e5 r.1).2.2.2.1)
def back_a29_0 (c : Int × (Sl Int) × Int) (w : Int) : St RT den := ⟨(.q :: .q :: .q :: (ii c.1) :: .q :: .q :: (.rs c.2.1.z .i64 c.2.1.n c.2.1.f) :: (ii c.2.2) :: (ii w) :: (qs 9 [])), []⟩
def Bk_a29_0 {ρ : Type} (fu : Nat) (c : Int × (Sl Int) × Int) (k : Ex → St RT den → Option ρ) (w : Int) (go : (Int) → Option ρ) : Option ρ := F_cmp_Or_int_B0 fu c.1 c.2.1 c.2.2 (fun a0 => k .ret ⟨(.q :: .q :: (ii a0) :: (ii c.1) :: (qs 14 [])), []⟩) (k (.exit 0) ⟨(.q :: .q :: .q :: (ii c.1) :: (qs 14 [])), []⟩) w go
def lp_a29 (fu : Nat) : Lp RT den (Int) := ⟨fun b s k => match b with | 0 => handle ps_a29_0 os_a29_0 conv_a29_0 (Bk_a29_0 fu) fu s k | _ => none, inl0⟩
theorem ev_a29 (fu : Nat) (vals_0 : (Sl Int)) : evFun E (pc_a29 fu) msk_a29 (lp_a29 fu) out_i64 122 [(.rs vals_0.z .i64 vals_0.n vals_0.f)] = F_cmp_Or_int fu vals_0 := by kernel_rfl
noncomputable def body_a29 : Code := Try.f122.body.getD .skip
noncomputable def lc_a29_0 : Code := ((loops 0 body_a29).getD 0 (0, .skip)).2
theorem round_a29_0 (fu : Nat) : RoundOk E (pc_a29 fu) msk_a29 (lp_a29 fu) 0 lc_a29_0 back_a29_0 0 100000 0 (Bk_a29_0 fu) := fun it k c w => by kernel_rfl
theorem lpok_a29_0 (fu : Nat) : LpAt E (pc_a29 fu) msk_a29 (lp_a29 fu) 0 0 100000 0 lc_a29_0 :=
 handle_ok (ps := ps_a29_0) (os := os_a29_0) (conv := conv_a29_0) (B := Bk_a29_0 fu) (fu := fu) back_a29_0 (fun raw => by kernel_rfl) 0 (fun c w => by kernel_rfl) (round_a29_0 fu)
theorem lpok_a29 (fu : Nat) : LpOk E (pc_a29 fu) 0 msk_a29 (lp_a29 fu) (loops 0 body_a29) := lp_nil (loop_all 1 (by kernel_rfl) fun i hi => match i, hi with
 | 0, _ => by
  have h : (loops 0 body_a29).getD 0 (0, .skip) = (0, lc_a29_0) := by kernel_rfl
  rw [h]; exact lpok_a29_0 fu
 | i + 1, hi => absurd hi (by omega)) (by kernel_rfl)
def S_a29 (fu : Nat) (xs : List (D RT den)) : Option (Out RT den) := match xs with | [.rs za0_0 .i64 na0_0 fa0_0] => some ⟨Int, F_cmp_Or_int fu (⟨za0_0, na0_0, fa0_0⟩ : (Sl Int)), enc_i64, fun _ => true⟩ | _ => none
theorem goodv_a29 (fu : Nat) (vals_0 : (Sl Int)) (y : Int) (hy : F_cmp_Or_int fu vals_0 = some y) : Good E Try.prog 122 [(.rs vals_0.z .i64 vals_0.n vals_0.f)] (enc_i64 y) :=
 fun_good E_ok (pc_good (pc := pc_a29 fu) hpc0 hpx0) (fn := Try.f122) (by kernel_rfl) (by kernel_rfl) (by kernel_rfl) (lpok_a29 fu) (fun d hd => out_i64_enc d _ hd) ((ev_a29 fu vals_0).trans hy)
theorem good_a29 (fu : Nat) : GoodS E Try.prog 122 (S_a29 fu) := by
 intro xs o h y hy
 unfold S_a29 at h
 split at h
 ·rename_i za0_0 na0_0 fa0_0
  cases h
  exact goodv_a29 fu (⟨za0_0, na0_0, fa0_0⟩ : (Sl Int)) y hy
 ·cases h
def F_impl_compareVip (fu : Nat) (a_0 b_1 : S_impl_Vip) : Option (Int) :=
 ((F_cmp_Compare_int64 fu a_0.Address b_1.Address).bind fun y417 => ((F_cmp_Compare_int64 fu a_0.Port b_1.Port).bind fun y418 => ((F_cmp_Compare_int64 fu a_0.Proto b_1.Proto).bind fun y419 =>
  ((F_cmp_Or_int fu (⟨(some false), 3, (fun i => ([y417, y418, y419] : List (Int)).getD i (dflt .i64))⟩ : (Sl Int))).bind fun y420 => (some y420)))))
def pcf_a30 (fu f : Nat) (xs : List (D RT den)) : Option (Out RT den) := match f with | 122 => S_a29 fu xs | 123 => S_a28 fu xs | _ => none
def pc_a30 (fu : Nat) : Pc RT den := ⟨pcf_a30 fu, fun _ => false, fun _ => false, pcd0, pcd0, pcd0, pcx0⟩
def msk_a30 (b : Nat) : List Nat := []
def lp_a30 (fu : Nat) : Lp RT den (Int) := ⟨fun b s k => none, inl0⟩
theorem ev_a30 (fu : Nat) (a_0 b_1 : S_impl_Vip) : evFun E (pc_a30 fu) msk_a30 (lp_a30 fu) out_i64 81 [(.agg [(ii a_0.Address), (ii a_0.Port), (ii a_0.Proto), (.rs a_0.Names.z .i64 a_0.Names.n a_0.Names.f)]), (.agg [(ii b_1.Address), (ii b_1.Port), (ii b_1.Proto), (.rs b_1.Names.z .i64 b_1.Names.n b_1.Names.f)])] = F_impl_compareVip fu a_0 b_1 := by kernel_rfl
noncomputable def body_a30 : Code := Try.f81.body.getD .skip
theorem lpok_a30 (fu : Nat) : LpOk E (pc_a30 fu) 0 msk_a30 (lp_a30 fu) (loops 0 body_a30) := lp_nil (loop_nil (by kernel_rfl)) (by kernel_rfl)
def S_a30 (fu : Nat) (xs : List (D RT den)) : Option (Out RT den) := match xs with | [.agg [.int .i64 a0_1, .int .i64 a0_2, .int .i64 a0_3, .rs za0_4 .i64 na0_4 fa0_4], .agg [.int .i64 a1_1, .int .i64 a1_2, .int .i64 a1_3, .rs za1_4 .i64 na1_4 fa1_4]] => some ⟨Int, F_impl_compareVip fu (⟨a0_1, a0_2, a0_3, (⟨za0_4, na0_4, fa0_4⟩ : (Sl Int))⟩ : S_impl_Vip) (⟨a1_1, a1_2, a1_3, (⟨za1_4, na1_4, fa1_4⟩ : (Sl Int))⟩ : S_impl_Vip), enc_i64, fun _ => true⟩ | _ => none
theorem hpc_a30 (fu : Nat) : HpcOk E Try.prog (pcf_a30 fu) := by
 intro f xs o h
 unfold pcf_a30 at h
 split at h
 ·exact good_a29 fu xs o h
 ·exact good_a28 fu xs o h
 ·cases h
theorem goodv_a30 (fu : Nat) (a_0 b_1 : S_impl_Vip) (y : Int) (hy : F_impl_compareVip fu a_0 b_1 = some y) : Good E Try.prog 81 [(.agg [(ii a_0.Address), (ii a_0.Port), (ii a_0.Proto), (.rs a_0.Names.z .i64 a_0.Names.n a_0.Names.f)]), (.agg [(ii b_1.Address), (ii b_1.Port), (ii b_1.Proto), (.rs b_1.Names.z .i64 b_1.Names.n b_1.Names.f)])] (enc_i64 y) :=
 fun_good E_ok (pc_good (pc := pc_a30 fu) (hpc_a30 fu) hpx0) (fn := Try.f81) (by kernel_rfl) (by kernel_rfl) (by kernel_rfl) (lpok_a30 fu) (fun d hd => out_i64_enc d _ hd) ((ev_a30 fu a_0 b_1).trans hy)
theorem good_a30 (fu : Nat) : GoodS E Try.prog 81 (S_a30 fu) := by
 intro xs o h y hy
 unfold S_a30 at h
 split at h
 ·rename_i a0_1 a0_2 a0_3 za0_4 na0_4 fa0_4 a1_1 a1_2 a1_3 za1_4 na1_4 fa1_4
  cases h
  exact goodv_a30 fu (⟨a0_1, a0_2, a0_3, (⟨za0_4, na0_4, fa0_4⟩ : (Sl Int))⟩ : S_impl_Vip) (⟨a1_1, a1_2, a1_3, (⟨za1_4, na1_4, fa1_4⟩ : (Sl Int))⟩ : S_impl_Vip) y hy
 ·cases h
def F_impl_Config_backend_c1 (fu : Nat) (b_0 : S_impl_Backend) (x_1_1 : Int) : Option (Bool) :=
 (some (b_0.Name == x_1_1))
def pc_a31 (fu : Nat) : Pc RT den := ⟨pcf0, fun _ => false, fun _ => false, pcd0, pcd0, pcd0, pcx0⟩
def msk_a31 (b : Nat) : List Nat := []
def lp_a31 (fu : Nat) : Lp RT den (Bool) := ⟨fun b s k => none, inl0⟩
theorem ev_a31 (fu : Nat) (b_0 : S_impl_Backend) (x_1_1 : Int) : evFun E (pc_a31 fu) msk_a31 (lp_a31 fu) out_bo 117 [(.agg [(ii b_0.Name), (ii b_0.Address), (ii b_0.Weight), (ii b_0.Stage), (.bool b_0.Up)]), (.rptr [(ii x_1_1)])] = F_impl_Config_backend_c1 fu b_0 x_1_1 := by kernel_rfl
noncomputable def body_a31 : Code := Try.f117.body.getD .skip
theorem lpok_a31 (fu : Nat) : LpOk E (pc_a31 fu) 0 msk_a31 (lp_a31 fu) (loops 0 body_a31) := lp_nil (loop_nil (by kernel_rfl)) (by kernel_rfl)
def S_a31 (fu : Nat) (xs : List (D RT den)) : Option (Out RT den) := match xs with | [.agg [.int .i64 a0_1, .int .i64 a0_2, .int .i64 a0_3, .int .i64 a0_4, .bool a0_5], .rptr [.int .i64 a1_0]] => some ⟨Bool, F_impl_Config_backend_c1 fu (⟨a0_1, a0_2, a0_3, a0_4, a0_5⟩ : S_impl_Backend) a1_0, enc_bo, fun _ => true⟩ | _ => none
theorem goodv_a31 (fu : Nat) (b_0 : S_impl_Backend) (x_1_1 : Int) (y : Bool) (hy : F_impl_Config_backend_c1 fu b_0 x_1_1 = some y) : Good E Try.prog 117 [(.agg [(ii b_0.Name), (ii b_0.Address), (ii b_0.Weight), (ii b_0.Stage), (.bool b_0.Up)]), (.rptr [(ii x_1_1)])] (enc_bo y) :=
 fun_good E_ok (pc_good (pc := pc_a31 fu) hpc0 hpx0) (fn := Try.f117) (by kernel_rfl) (by kernel_rfl) (by kernel_rfl) (lpok_a31 fu) (fun d hd => out_bo_enc d _ hd) ((ev_a31 fu b_0 x_1_1).trans hy)
theorem good_a31 (fu : Nat) : GoodS E Try.prog 117 (S_a31 fu) := by
 intro xs o h y hy
 unfold S_a31 at h
 split at h
 ·rename_i a0_1 a0_2 a0_3 a0_4 a0_5 a1_0
  cases h
  exact goodv_a31 fu (⟨a0_1, a0_2, a0_3, a0_4, a0_5⟩ : S_impl_Backend) a1_0 y hy
 ·cases h
def F_slices_IndexFunc_impl_Backend_impl_Backend_w_impl_Config_backend_c1_B0 {ρ : Type} (fu : Nat) (s0_0 : (Sl S_impl_Backend)) (f1_1 t7_2 : Int) (k0 : Int → Option ρ) (k1 : Option ρ) (t8_3 : Int) (go : Int → Option ρ) : Option ρ :=
 (bif (decide (t8_3 < t7_2)) then ((bif (decide (0 ≤ t8_3) && decide ((Int.toNat t8_3) < s0_0.n)) then some () else none : Option Unit).bind fun _ => ((F_impl_Config_backend_c1 fu (s0_0.f (Int.toNat t8_3)) f1_1).bind fun y429 =>
  (bif y429 then (k0 t8_3) else (go (IntKind.wrap .i64 (t8_3 + 1)))))) else k1)
def F_slices_IndexFunc_impl_Backend_impl_Backend_w_impl_Config_backend_c1 (fu : Nat) (s_0 : (Sl S_impl_Backend)) (f_1_1 : Int) : Option (Int) :=
 (L (fun w0 go0 => F_slices_IndexFunc_impl_Backend_impl_Backend_w_impl_Config_backend_c1_B0 fu s_0 f_1_1 ((s_0.n : Nat) : Int) (fun z430 => (some z430)) (some (-1)) w0 go0) fu (0 : Int))
def pcf_a32 (fu f : Nat) (xs : List (D RT den)) : Option (Out RT den) := match f with | 117 => S_a31 fu xs | _ => none
def pc_a32 (fu : Nat) : Pc RT den := ⟨pcf_a32 fu, fun _ => false, fun _ => false, pcd0, pcd0, pcd0, pcx0⟩
def msk_a32 (b : Nat) : List Nat := match b with | 0 => (rg 2 5 (rg 9 10 [])) | 100000 => (0 :: 1 :: 2 :: 3 :: (rg 5 14 [])) | _ => []
def ps_a32_0 : List (Pat RT) := (.flat (.rs .impl_Backend) :: .fn 117 [.rptr [(.int .i64)]] :: (fq 5 (.flat (.int .i64) :: .flat (.int .i64) :: (fq 10 []))))
def os_a32_0 : List (OP RT) := []
def conv_a32_0 (r : Raw den ps_a32_0 os_a32_0) : ((Sl S_impl_Backend) × Int × Int) × (Int) := ((r.1.1, r.1.2.1.1.1, (e5 r.1).2.2.1), (e5 r.1).2.2.2.1)
def back_a32_0 (c : (Sl S_impl_Backend) × Int × Int) (w : Int) : St RT den := ⟨((.rs c.1.z .impl_Backend c.1.n c.1.f) :: (.fn 117 [(.rptr [(ii c.2.1)])]) :: (qs 5 ((ii c.2.2) :: (ii w) :: (qs 10 [])))), []⟩
def Bk_a32_0 {ρ : Type} (fu : Nat) (c : (Sl S_impl_Backend) × Int × Int) (k : Ex → St RT den → Option ρ) (w : Int) (go : (Int) → Option ρ) : Option ρ := F_slices_IndexFunc_impl_Backend_impl_Backend_w_impl_Config_backend_c1_B0 fu c.1 c.2.1 c.2.2 (fun a0 => k .ret ⟨(qs 4 ((ii a0) :: (qs 14 []))), []⟩) (k (.exit 0) ⟨(qs 19 []), []⟩) w go
def lp_a32 (fu : Nat) : Lp RT den (Int) := ⟨fun b s k => match b with | 0 => handle ps_a32_0 os_a32_0 conv_a32_0 (Bk_a32_0 fu) fu s k | _ => none, inl0⟩
theorem ev_a32 (fu : Nat) (s_0 : (Sl S_impl_Backend)) (f_1_1 : Int) : evFun E (pc_a32 fu) msk_a32 (lp_a32 fu) out_i64 116 [(.rs s_0.z .impl_Backend s_0.n s_0.f), (.fn 117 [(.rptr [(ii f_1_1)])])] = F_slices_IndexFunc_impl_Backend_impl_Backend_w_impl_Config_backend_c1 fu s_0 f_1_1 := by kernel_rfl
noncomputable def body_a32 : Code := Try.f116.body.getD .skip
noncomputable def lc_a32_0 : Code := ((loops 0 body_a32).getD 0 (0, .skip)).2
theorem round_a32_0 (fu : Nat) : RoundOk E (pc_a32 fu) msk_a32 (lp_a32 fu) 0 lc_a32_0 back_a32_0 0 100000 0 (Bk_a32_0 fu) := fun it k c w => by kernel_rfl
theorem lpok_a32_0 (fu : Nat) : LpAt E (pc_a32 fu) msk_a32 (lp_a32 fu) 0 0 100000 0 lc_a32_0 :=
 handle_ok (ps := ps_a32_0) (os := os_a32_0) (conv := conv_a32_0) (B := Bk_a32_0 fu) (fu := fu) back_a32_0 (fun raw => by kernel_rfl) 0 (fun c w => by kernel_rfl) (round_a32_0 fu)
theorem lpok_a32 (fu : Nat) : LpOk E (pc_a32 fu) 0 msk_a32 (lp_a32 fu) (loops 0 body_a32) := lp_nil (loop_all 1 (by kernel_rfl) fun i hi => match i, hi with
 | 0, _ => by
  have h : (loops 0 body_a32).getD 0 (0, .skip) = (0, lc_a32_0) := by kernel_rfl
  rw [h]; exact lpok_a32_0 fu
 | i + 1, hi => absurd hi (by omega)) (by kernel_rfl)
def S_a32 (fu : Nat) (xs : List (D RT den)) : Option (Out RT den) := match xs with | [.rs za0_0 .impl_Backend na0_0 fa0_0, .fn 117 [.rptr [.int .i64 a1_0]]] => some ⟨Int, F_slices_IndexFunc_impl_Backend_impl_Backend_w_impl_Config_backend_c1 fu (⟨za0_0, na0_0, fa0_0⟩ : (Sl S_impl_Backend)) a1_0, enc_i64, fun _ => true⟩ | _ => none
theorem hpc_a32 (fu : Nat) : HpcOk E Try.prog (pcf_a32 fu) := by
 intro f xs o h
 unfold pcf_a32 at h
 split at h
 ·exact good_a31 fu xs o h
 ·cases h
theorem goodv_a32 (fu : Nat) (s_0 : (Sl S_impl_Backend)) (f_1_1 y : Int) (hy : F_slices_IndexFunc_impl_Backend_impl_Backend_w_impl_Config_backend_c1 fu s_0 f_1_1 = some y) : Good E Try.prog 116 [(.rs s_0.z .impl_Backend s_0.n s_0.f), (.fn 117 [(.rptr [(ii f_1_1)])])] (enc_i64 y) :=
 fun_good E_ok (pc_good (pc := pc_a32 fu) (hpc_a32 fu) hpx0) (fn := Try.f116) (by kernel_rfl) (by kernel_rfl) (by kernel_rfl) (lpok_a32 fu) (fun d hd => out_i64_enc d _ hd) ((ev_a32 fu s_0 f_1_1).trans hy)
theorem good_a32 (fu : Nat) : GoodS E Try.prog 116 (S_a32 fu) := by
 intro xs o h y hy
 unfold S_a32 at h
 split at h
 ·rename_i za0_0 na0_0 fa0_0 a1_0
  cases h
  exact goodv_a32 fu (⟨za0_0, na0_0, fa0_0⟩ : (Sl S_impl_Backend)) a1_0 y hy
 ·cases h
def F_impl_Config_backend (fu : Nat) (c_0 : S_impl_Config) (name_1 : Int) : Option (Int) :=
 ((F_slices_IndexFunc_impl_Backend_impl_Backend_w_impl_Config_backend_c1 fu c_0.Backends name_1).bind fun y428 => (some y428))
def pcf_a33 (fu f : Nat) (xs : List (D RT den)) : Option (Out RT den) := match f with | 116 => S_a32 fu xs | _ => none
def pc_a33 (fu : Nat) : Pc RT den := ⟨pcf_a33 fu, fun _ => false, fun _ => false, pcd0, pcd0, pcd0, pcx0⟩
def msk_a33 (b : Nat) : List Nat := []
def lp_a33 (fu : Nat) : Lp RT den (Int) := ⟨fun b s k => none, inl0⟩
theorem ev_a33 (fu : Nat) (c_0 : S_impl_Config) (name_1 : Int) : evFun E (pc_a33 fu) msk_a33 (lp_a33 fu) out_i64 70 [(.rptr [(ii c_0.Version), (.rs c_0.Backends.z .impl_Backend c_0.Backends.n c_0.Backends.f), (.rs c_0.Vips.z .impl_Vip c_0.Vips.n c_0.Vips.f)]), (ii name_1)] = F_impl_Config_backend fu c_0 name_1 := by kernel_rfl
noncomputable def body_a33 : Code := Try.f70.body.getD .skip
theorem lpok_a33 (fu : Nat) : LpOk E (pc_a33 fu) 0 msk_a33 (lp_a33 fu) (loops 0 body_a33) := lp_nil (loop_nil (by kernel_rfl)) (by kernel_rfl)
def S_a33 (fu : Nat) (xs : List (D RT den)) : Option (Out RT den) := match xs with | [.rptr (.int .i64 a0_1 :: .rs za0_2 .impl_Backend na0_2 fa0_2 :: .rs za0_3 .impl_Vip na0_3 fa0_3 :: ra0), .int .i64 a1_0] => some ⟨Int, F_impl_Config_backend fu (⟨a0_1, (⟨za0_2, na0_2, fa0_2⟩ : (Sl S_impl_Backend)), (⟨za0_3, na0_3, fa0_3⟩ : (Sl S_impl_Vip))⟩ : S_impl_Config) a1_0, enc_i64, fun _ => true⟩ | _ => none
theorem hpc_a33 (fu : Nat) : HpcOk E Try.prog (pcf_a33 fu) := by
 intro f xs o h
 unfold pcf_a33 at h
 split at h
 ·exact good_a32 fu xs o h
 ·cases h
theorem goodv_a33 (fu : Nat) (c_0 : S_impl_Config) (name_1 y : Int) (hy : F_impl_Config_backend fu c_0 name_1 = some y) : Good E Try.prog 70 [(.rptr [(ii c_0.Version), (.rs c_0.Backends.z .impl_Backend c_0.Backends.n c_0.Backends.f), (.rs c_0.Vips.z .impl_Vip c_0.Vips.n c_0.Vips.f)]), (ii name_1)] (enc_i64 y) :=
 fun_good E_ok (pc_good (pc := pc_a33 fu) (hpc_a33 fu) hpx0) (fn := Try.f70) (by kernel_rfl) (by kernel_rfl) (by kernel_rfl) (lpok_a33 fu) (fun d hd => out_i64_enc d _ hd) ((ev_a33 fu c_0 name_1).trans hy)
theorem good_a33 (fu : Nat) : GoodS E Try.prog 70 (S_a33 fu) := by
 intro xs o h y hy
 unfold S_a33 at h
 split at h
 ·rename_i a0_1 za0_2 na0_2 fa0_2 za0_3 na0_3 fa0_3 ra0 a1_0
  cases h
  exact (goodv_a33 fu (⟨a0_1, (⟨za0_2, na0_2, fa0_2⟩ : (Sl S_impl_Backend)), (⟨za0_3, na0_3, fa0_3⟩ : (Sl S_impl_Vip))⟩ : S_impl_Config) a1_0 y hy).sub ⟨Sub.of_eq ra0 rfl, .refl _, trivial⟩
 ·cases h
def F_impl_ConfigFault_c1 (fu : Nat) (name_0 x_1_1 : Int) (x_1_2 : (Sl S_impl_Backend)) (x_1_3 : (Sl S_impl_Vip)) : Option (Bool) :=
 ((F_impl_Config_backend fu (⟨x_1_1, x_1_2, x_1_3⟩ : S_impl_Config) name_0).bind fun y427 => (some (decide (y427 < 0))))
def pcf_a34 (fu f : Nat) (xs : List (D RT den)) : Option (Out RT den) := match f with | 70 => S_a33 fu xs | _ => none
def pc_a34 (fu : Nat) : Pc RT den := ⟨pcf_a34 fu, fun _ => false, fun _ => false, pcd0, pcd0, pcd0, pcx0⟩
def msk_a34 (b : Nat) : List Nat := []
def lp_a34 (fu : Nat) : Lp RT den (Bool) := ⟨fun b s k => none, inl0⟩
theorem ev_a34 (fu : Nat) (name_0 x_1_1 : Int) (x_1_2 : (Sl S_impl_Backend)) (x_1_3 : (Sl S_impl_Vip)) : evFun E (pc_a34 fu) msk_a34 (lp_a34 fu) out_bo 82 [(ii name_0), (.rptr [(ii x_1_1), (.rs x_1_2.z .impl_Backend x_1_2.n x_1_2.f), (.rs x_1_3.z .impl_Vip x_1_3.n x_1_3.f)])] = F_impl_ConfigFault_c1 fu name_0 x_1_1 x_1_2 x_1_3 := by kernel_rfl
noncomputable def body_a34 : Code := Try.f82.body.getD .skip
theorem lpok_a34 (fu : Nat) : LpOk E (pc_a34 fu) 0 msk_a34 (lp_a34 fu) (loops 0 body_a34) := lp_nil (loop_nil (by kernel_rfl)) (by kernel_rfl)
def S_a34 (fu : Nat) (xs : List (D RT den)) : Option (Out RT den) := match xs with | [.int .i64 a0_0, .rptr [.int .i64 a1_0, .rs za1_1 .impl_Backend na1_1 fa1_1, .rs za1_2 .impl_Vip na1_2 fa1_2]] => some ⟨Bool, F_impl_ConfigFault_c1 fu a0_0 a1_0 (⟨za1_1, na1_1, fa1_1⟩ : (Sl S_impl_Backend)) (⟨za1_2, na1_2, fa1_2⟩ : (Sl S_impl_Vip)), enc_bo, fun _ => true⟩ | _ => none
theorem hpc_a34 (fu : Nat) : HpcOk E Try.prog (pcf_a34 fu) := by
 intro f xs o h
 unfold pcf_a34 at h
 split at h
 ·exact good_a33 fu xs o h
 ·cases h
theorem goodv_a34 (fu : Nat) (name_0 x_1_1 : Int) (x_1_2 : (Sl S_impl_Backend)) (x_1_3 : (Sl S_impl_Vip)) (y : Bool) (hy : F_impl_ConfigFault_c1 fu name_0 x_1_1 x_1_2 x_1_3 = some y) : Good E Try.prog 82 [(ii name_0), (.rptr [(ii x_1_1), (.rs x_1_2.z .impl_Backend x_1_2.n x_1_2.f), (.rs x_1_3.z .impl_Vip x_1_3.n x_1_3.f)])] (enc_bo y) :=
 fun_good E_ok (pc_good (pc := pc_a34 fu) (hpc_a34 fu) hpx0) (fn := Try.f82) (by kernel_rfl) (by kernel_rfl) (by kernel_rfl) (lpok_a34 fu) (fun d hd => out_bo_enc d _ hd) ((ev_a34 fu name_0 x_1_1 x_1_2 x_1_3).trans hy)
theorem good_a34 (fu : Nat) : GoodS E Try.prog 82 (S_a34 fu) := by
 intro xs o h y hy
 unfold S_a34 at h
 split at h
 ·rename_i a0_0 a1_0 za1_1 na1_1 fa1_1 za1_2 na1_2 fa1_2
  cases h
  exact goodv_a34 fu a0_0 a1_0 (⟨za1_1, na1_1, fa1_1⟩ : (Sl S_impl_Backend)) (⟨za1_2, na1_2, fa1_2⟩ : (Sl S_impl_Vip)) y hy
 ·cases h
def F_slices_IndexFunc_int64_int64_w_impl_ConfigFault_c1_B0 {ρ : Type} (fu : Nat) (s0_0 : (Sl Int)) (f1_1 : Int) (f1_2 : (Sl S_impl_Backend)) (f1_3 : (Sl S_impl_Vip)) (t7_4 : Int) (k0 : Int → Option ρ) (k1 : Option ρ) (t8_5 : Int) (go : Int → Option ρ) : Option ρ :=
 (bif (decide (t8_5 < t7_4)) then ((bif (decide (0 ≤ t8_5) && decide ((Int.toNat t8_5) < s0_0.n)) then some () else none : Option Unit).bind fun _ => ((F_impl_ConfigFault_c1 fu (s0_0.f (Int.toNat t8_5)) f1_1 f1_2 f1_3).bind fun y425 =>
  (bif y425 then (k0 t8_5) else (go (IntKind.wrap .i64 (t8_5 + 1)))))) else k1)
def F_slices_IndexFunc_int64_int64_w_impl_ConfigFault_c1 (fu : Nat) (s_0 : (Sl Int)) (f_1_1 : Int) (f_1_2 : (Sl S_impl_Backend)) (f_1_3 : (Sl S_impl_Vip)) : Option (Int) :=
 (L (fun w0 go0 => F_slices_IndexFunc_int64_int64_w_impl_ConfigFault_c1_B0 fu s_0 f_1_1 f_1_2 f_1_3 ((s_0.n : Nat) : Int) (fun z426 => (some z426)) (some (-1)) w0 go0) fu (0 : Int))
def pcf_a35 (fu f : Nat) (xs : List (D RT den)) : Option (Out RT den) := match f with | 82 => S_a34 fu xs | _ => none
def pc_a35 (fu : Nat) : Pc RT den := ⟨pcf_a35 fu, fun _ => false, fun _ => false, pcd0, pcd0, pcd0, pcx0⟩
def msk_a35 (b : Nat) : List Nat := match b with | 0 => (rg 2 5 (rg 9 10 [])) | 100000 => (0 :: 1 :: 2 :: 3 :: (rg 5 14 [])) | _ => []
def ps_a35_0 : List (Pat RT) := (.flat (.rs .i64) :: .fn 82 [.rptr [(.int .i64), (.rs .impl_Backend), (.rs .impl_Vip)]] :: (fq 5 (.flat (.int .i64) :: .flat (.int .i64) :: (fq 10 []))))
def os_a35_0 : List (OP RT) := []
def conv_a35_0 (r : Raw den ps_a35_0 os_a35_0) : (Yc0) × (Int) := ((r.1.1, r.1.2.1.1.1, r.1.2.1.1.2.1, r.1.2.1.1.2.2.1, (e5 r.1).2.2.1), (e5 r.1).2.2.2.1)
def back_a35_0 (c : Yc0) (w : Int) : St RT den := ⟨((.rs c.1.z .i64 c.1.n c.1.f) :: (.fn 82 [(.rptr [(ii c.2.1), (.rs c.2.2.1.z .impl_Backend c.2.2.1.n c.2.2.1.f), (.rs c.2.2.2.1.z .impl_Vip c.2.2.2.1.n c.2.2.2.1.f)])]) :: (qs 5 ((ii c.2.2.2.2) :: (ii w) :: (qs 10 [])))), []⟩
def Bk_a35_0 {ρ : Type} (fu : Nat) (c : Yc0) (k : Ex → St RT den → Option ρ) (w : Int) (go : (Int) → Option ρ) : Option ρ := F_slices_IndexFunc_int64_int64_w_impl_ConfigFault_c1_B0 fu c.1 c.2.1 c.2.2.1 c.2.2.2.1 c.2.2.2.2 (fun a0 => k .ret ⟨(qs 4 ((ii a0) :: (qs 14 []))), []⟩) (k (.exit 0) ⟨(qs 19 []), []⟩) w go
def lp_a35 (fu : Nat) : Lp RT den (Int) := ⟨fun b s k => match b with | 0 => handle ps_a35_0 os_a35_0 conv_a35_0 (Bk_a35_0 fu) fu s k | _ => none, inl0⟩
theorem ev_a35 (fu : Nat) (s_0 : (Sl Int)) (f_1_1 : Int) (f_1_2 : (Sl S_impl_Backend)) (f_1_3 : (Sl S_impl_Vip)) : evFun E (pc_a35 fu) msk_a35 (lp_a35 fu) out_i64 113 [(.rs s_0.z .i64 s_0.n s_0.f), (.fn 82 [(.rptr [(ii f_1_1), (.rs f_1_2.z .impl_Backend f_1_2.n f_1_2.f), (.rs f_1_3.z .impl_Vip f_1_3.n f_1_3.f)])])] = F_slices_IndexFunc_int64_int64_w_impl_ConfigFault_c1 fu s_0 f_1_1 f_1_2 f_1_3 := by kernel_rfl
noncomputable def body_a35 : Code := Try.f113.body.getD .skip
noncomputable def lc_a35_0 : Code := ((loops 0 body_a35).getD 0 (0, .skip)).2
theorem round_a35_0 (fu : Nat) : RoundOk E (pc_a35 fu) msk_a35 (lp_a35 fu) 0 lc_a35_0 back_a35_0 0 100000 0 (Bk_a35_0 fu) := fun it k c w => by kernel_rfl
theorem lpok_a35_0 (fu : Nat) : LpAt E (pc_a35 fu) msk_a35 (lp_a35 fu) 0 0 100000 0 lc_a35_0 :=
 handle_ok (ps := ps_a35_0) (os := os_a35_0) (conv := conv_a35_0) (B := Bk_a35_0 fu) (fu := fu) back_a35_0 (fun raw => by kernel_rfl) 0 (fun c w => by kernel_rfl) (round_a35_0 fu)
theorem lpok_a35 (fu : Nat) : LpOk E (pc_a35 fu) 0 msk_a35 (lp_a35 fu) (loops 0 body_a35) := lp_nil (loop_all 1 (by kernel_rfl) fun i hi => match i, hi with
 | 0, _ => by
  have h : (loops 0 body_a35).getD 0 (0, .skip) = (0, lc_a35_0) := by kernel_rfl
  rw [h]; exact lpok_a35_0 fu
 | i + 1, hi => absurd hi (by omega)) (by kernel_rfl)
def S_a35 (fu : Nat) (xs : List (D RT den)) : Option (Out RT den) := match xs with | [.rs za0_0 .i64 na0_0 fa0_0, .fn 82 [.rptr [.int .i64 a1_0, .rs za1_1 .impl_Backend na1_1 fa1_1, .rs za1_2 .impl_Vip na1_2 fa1_2]]] => some ⟨Int, F_slices_IndexFunc_int64_int64_w_impl_ConfigFault_c1 fu (⟨za0_0, na0_0, fa0_0⟩ : (Sl Int)) a1_0 (⟨za1_1, na1_1, fa1_1⟩ : (Sl S_impl_Backend)) (⟨za1_2, na1_2, fa1_2⟩ : (Sl S_impl_Vip)), enc_i64, fun _ => true⟩ | _ => none
theorem hpc_a35 (fu : Nat) : HpcOk E Try.prog (pcf_a35 fu) := by
 intro f xs o h
 unfold pcf_a35 at h
 split at h
 ·exact good_a34 fu xs o h
 ·cases h
theorem goodv_a35 (fu : Nat) (s_0 : (Sl Int)) (f_1_1 : Int) (f_1_2 : (Sl S_impl_Backend)) (f_1_3 : (Sl S_impl_Vip)) (y : Int) (hy : F_slices_IndexFunc_int64_int64_w_impl_ConfigFault_c1 fu s_0 f_1_1 f_1_2 f_1_3 = some y) : Good E Try.prog 113 [(.rs s_0.z .i64 s_0.n s_0.f), (.fn 82 [(.rptr [(ii f_1_1), (.rs f_1_2.z .impl_Backend f_1_2.n f_1_2.f), (.rs f_1_3.z .impl_Vip f_1_3.n f_1_3.f)])])] (enc_i64 y) :=
 fun_good E_ok (pc_good (pc := pc_a35 fu) (hpc_a35 fu) hpx0) (fn := Try.f113) (by kernel_rfl) (by kernel_rfl) (by kernel_rfl) (lpok_a35 fu) (fun d hd => out_i64_enc d _ hd) ((ev_a35 fu s_0 f_1_1 f_1_2 f_1_3).trans hy)
theorem good_a35 (fu : Nat) : GoodS E Try.prog 113 (S_a35 fu) := by
 intro xs o h y hy
 unfold S_a35 at h
 split at h
 ·rename_i za0_0 na0_0 fa0_0 a1_0 za1_1 na1_1 fa1_1 za1_2 na1_2 fa1_2
  cases h
  exact goodv_a35 fu (⟨za0_0, na0_0, fa0_0⟩ : (Sl Int)) a1_0 (⟨za1_1, na1_1, fa1_1⟩ : (Sl S_impl_Backend)) (⟨za1_2, na1_2, fa1_2⟩ : (Sl S_impl_Vip)) y hy
 ·cases h
def F_slices_ContainsFunc_int64_int64_w_impl_ConfigFault_c1 (fu : Nat) (s_0 : (Sl Int)) (f_1_1 : Int) (f_1_2 : (Sl S_impl_Backend)) (f_1_3 : (Sl S_impl_Vip)) : Option (Bool) :=
 ((F_slices_IndexFunc_int64_int64_w_impl_ConfigFault_c1 fu s_0 f_1_1 f_1_2 f_1_3).bind fun y424 => (some (decide (y424 ≥ 0))))
def pcf_a36 (fu f : Nat) (xs : List (D RT den)) : Option (Out RT den) := match f with | 113 => S_a35 fu xs | _ => none
def pc_a36 (fu : Nat) : Pc RT den := ⟨pcf_a36 fu, fun _ => false, fun _ => false, pcd0, pcd0, pcd0, pcx0⟩
def msk_a36 (b : Nat) : List Nat := []
def lp_a36 (fu : Nat) : Lp RT den (Bool) := ⟨fun b s k => none, inl0⟩
theorem ev_a36 (fu : Nat) (s_0 : (Sl Int)) (f_1_1 : Int) (f_1_2 : (Sl S_impl_Backend)) (f_1_3 : (Sl S_impl_Vip)) : evFun E (pc_a36 fu) msk_a36 (lp_a36 fu) out_bo 66 [(.rs s_0.z .i64 s_0.n s_0.f), (.fn 82 [(.rptr [(ii f_1_1), (.rs f_1_2.z .impl_Backend f_1_2.n f_1_2.f), (.rs f_1_3.z .impl_Vip f_1_3.n f_1_3.f)])])] = F_slices_ContainsFunc_int64_int64_w_impl_ConfigFault_c1 fu s_0 f_1_1 f_1_2 f_1_3 := by kernel_rfl
noncomputable def body_a36 : Code := Try.f66.body.getD .skip
theorem lpok_a36 (fu : Nat) : LpOk E (pc_a36 fu) 0 msk_a36 (lp_a36 fu) (loops 0 body_a36) := lp_nil (loop_nil (by kernel_rfl)) (by kernel_rfl)
def S_a36 (fu : Nat) (xs : List (D RT den)) : Option (Out RT den) := match xs with | [.rs za0_0 .i64 na0_0 fa0_0, .fn 82 [.rptr [.int .i64 a1_0, .rs za1_1 .impl_Backend na1_1 fa1_1, .rs za1_2 .impl_Vip na1_2 fa1_2]]] => some ⟨Bool, F_slices_ContainsFunc_int64_int64_w_impl_ConfigFault_c1 fu (⟨za0_0, na0_0, fa0_0⟩ : (Sl Int)) a1_0 (⟨za1_1, na1_1, fa1_1⟩ : (Sl S_impl_Backend)) (⟨za1_2, na1_2, fa1_2⟩ : (Sl S_impl_Vip)), enc_bo, fun _ => true⟩ | _ => none
theorem hpc_a36 (fu : Nat) : HpcOk E Try.prog (pcf_a36 fu) := by
 intro f xs o h
 unfold pcf_a36 at h
 split at h
 ·exact good_a35 fu xs o h
 ·cases h
theorem goodv_a36 (fu : Nat) (s_0 : (Sl Int)) (f_1_1 : Int) (f_1_2 : (Sl S_impl_Backend)) (f_1_3 : (Sl S_impl_Vip)) (y : Bool) (hy : F_slices_ContainsFunc_int64_int64_w_impl_ConfigFault_c1 fu s_0 f_1_1 f_1_2 f_1_3 = some y) : Good E Try.prog 66 [(.rs s_0.z .i64 s_0.n s_0.f), (.fn 82 [(.rptr [(ii f_1_1), (.rs f_1_2.z .impl_Backend f_1_2.n f_1_2.f), (.rs f_1_3.z .impl_Vip f_1_3.n f_1_3.f)])])] (enc_bo y) :=
 fun_good E_ok (pc_good (pc := pc_a36 fu) (hpc_a36 fu) hpx0) (fn := Try.f66) (by kernel_rfl) (by kernel_rfl) (by kernel_rfl) (lpok_a36 fu) (fun d hd => out_bo_enc d _ hd) ((ev_a36 fu s_0 f_1_1 f_1_2 f_1_3).trans hy)
theorem good_a36 (fu : Nat) : GoodS E Try.prog 66 (S_a36 fu) := by
 intro xs o h y hy
 unfold S_a36 at h
 split at h
 ·rename_i za0_0 na0_0 fa0_0 a1_0 za1_1 na1_1 fa1_1 za1_2 na1_2 fa1_2
  cases h
  exact goodv_a36 fu (⟨za0_0, na0_0, fa0_0⟩ : (Sl Int)) a1_0 (⟨za1_1, na1_1, fa1_1⟩ : (Sl S_impl_Backend)) (⟨za1_2, na1_2, fa1_2⟩ : (Sl S_impl_Vip)) y hy
 ·cases h
end Go.Proofs.Ytcmfekgdlaffkaa.Pc
