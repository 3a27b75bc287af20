/- The functions' evaluated forms, each a proved summary. Conditions: none. -/
import Derived.Test.YtcmfekgdlaffkaaPcF2
namespace Go.Proofs.Ytcmfekgdlaffkaa.Pc
open Go Go.RowKit Go.Proofs Vm
set_option linter.unusedVariables false
set_option linter.unusedSimpArgs false
set_option maxRecDepth 100000
abbrev Yd0 : Type := Int × (Sl Int) × Bool × Nat × Nat × (Nat → Int)
abbrev Yd1 : Type := Int × (Sl Int) × Bool × Nat × Nat × (Nat → S_impl_Backend)
abbrev Yd2 : Type := Int × (Sl Int) × Bool × Nat × Nat × Nat × (Nat → S_impl_Vip)
abbrev Yd3 : Type := (Sl Int) × Int × Int × Int × Nat × Nat × (Nat → S_impl_Backend)
abbrev Yd4 : Type := (Sl S_impl_Vip) × Int × Int × (Sl S_impl_Backend) × (Sl S_impl_Vip)
abbrev Yd5 : Type := (Sl S_impl_Backend) × Int × Int × (Sl S_impl_Backend) × (Sl S_impl_Vip)
abbrev Yd6 : Type := Int × Int × Nat × Nat × Nat × (Nat → S_impl_Backend) × Nat × (Nat → S_impl_Vip)
abbrev Yd7 : Type := (Sl S_impl_Vip) × Int × Int × Int × (Sl S_impl_Backend) × (Sl S_impl_Vip) × Int × Int × Int × (Sl Int)
abbrev Yd8 : Type := (Sl Int) × Int × Int × Int × Int × Nat × Nat × Nat × (Nat → S_impl_Backend) × Nat × Nat × (Nat → S_impl_Vip) × Int × Int × Int
def F_impl_ConfigFault_B1 {ρ : Type} (fu : Nat) (t25_0 : (Sl S_impl_Backend)) (t26_1 o0_3 : Int) (o0_4 : (Sl S_impl_Backend)) (o0_5 : (Sl S_impl_Vip)) (k0 : Int → Int → Int → Int → Bool → Option ρ) (k1 : Int → Int → Int → Int → Bool → Option ρ) (k2 : Option ρ) (t27_2 : Int) (go : Int → Option ρ) : Option ρ :=
 (bif (decide (t27_2 < t26_1)) then ((bif (decide (0 ≤ t27_2) && decide ((Int.toNat t27_2) < t25_0.n)) then some () else none : Option Unit).bind fun _ => ((F_impl_isBackend fu (t25_0.f (Int.toNat t27_2))).bind fun y376 =>
  (bif (!y376) then (k0 (t25_0.f (Int.toNat t27_2)).Name (t25_0.f (Int.toNat t27_2)).Address (t25_0.f (Int.toNat t27_2)).Weight (t25_0.f (Int.toNat t27_2)).Stage (t25_0.f (Int.toNat t27_2)).Up) else
  (((bif (decide (t27_2 > 0)) then ((bif (decide (0 ≤ (IntKind.wrap .i64 (t27_2 - 1))) && decide ((Int.toNat (IntKind.wrap .i64 (t27_2 - 1))) < o0_4.n)) then some () else none : Option Unit).bind fun _ =>
  (some (decide ((t25_0.f (Int.toNat t27_2)).Name ≤ (o0_4.f (Int.toNat (IntKind.wrap .i64 (t27_2 - 1)))).Name)))) else (some false)) : Option Bool).bind fun m377 => (bif m377 then
  (k1 (t25_0.f (Int.toNat t27_2)).Name (t25_0.f (Int.toNat t27_2)).Address (t25_0.f (Int.toNat t27_2)).Weight (t25_0.f (Int.toNat t27_2)).Stage (t25_0.f (Int.toNat t27_2)).Up) else
  (go (IntKind.wrap .i64 (t27_2 + 1)))))))) else k2)
def F_impl_ConfigFault_B5 {ρ : Type} (fu : Nat) (t51_1 : (Sl S_impl_Vip)) (t52_2 t53_3 o0_4 : Int) (o0_5 : (Sl S_impl_Backend)) (o0_6 : (Sl S_impl_Vip)) (o1_7 o1_8 o1_9 : Int) (o1_10 : (Sl Int)) (k0 : Option ρ) (k1 : Option ρ) (k7_0 : Int) (go : Int → Option ρ) : Option ρ :=
 (bif (decide (k7_0 < ((o1_10.n : Nat) : Int))) then ((bif (decide (0 ≤ k7_0) && decide ((Int.toNat k7_0) < o1_10.n)) then some () else none : Option Unit).bind fun _ => ((bif (decide (0 ≤ (IntKind.wrap .i64 (k7_0 - 1))) &&
  decide ((Int.toNat (IntKind.wrap .i64 (k7_0 - 1))) < o1_10.n)) then some () else none : Option Unit).bind fun _ => (bif (decide ((o1_10.f (Int.toNat k7_0)) ≤ (o1_10.f (Int.toNat (IntKind.wrap .i64 (k7_0 - 1)))))) then
  k0 else (go (IntKind.wrap .i64 (k7_0 + 1)))))) else k1)
def F_impl_ConfigFault_B3 {ρ : Type} (fu : Nat) (t51_0 : (Sl S_impl_Vip)) (t52_1 o0_3 : Int) (o0_4 : (Sl S_impl_Backend)) (o0_5 : (Sl S_impl_Vip)) (k0 : Int → Int → Int → (Sl Int) → Option ρ) (k1 : Int → Int → Int → (Sl Int) → Option ρ) (k2 : Int → Int → Int → (Sl Int) → Option ρ) (k3 : Option ρ) (t53_2 : Int) (go : Int → Option ρ) : Option ρ :=
 (bif (decide (t53_2 < t52_1)) then ((bif (decide (0 ≤ t53_2) && decide ((Int.toNat t53_2) < t51_0.n)) then some () else none : Option Unit).bind fun _ => ((((F_impl_isAddress fu (t51_0.f (Int.toNat t53_2)).Address).bind fun y388 =>
  (bif (!y388) then (some true) else ((F_impl_isPort fu (t51_0.f (Int.toNat t53_2)).Port).bind fun y389 => (bif (!y389) then (some true) else ((F_impl_isProto fu (t51_0.f (Int.toNat t53_2)).Proto).bind fun y390 =>
  (some (!y390))))))) : Option Bool).bind fun m391 => (bif m391 then (k0 (t51_0.f (Int.toNat t53_2)).Address (t51_0.f (Int.toNat t53_2)).Port (t51_0.f (Int.toNat t53_2)).Proto (t51_0.f (Int.toNat t53_2)).Names) else
  (((bif (decide (t53_2 > 0)) then ((bif (decide (0 ≤ (IntKind.wrap .i64 (t53_2 - 1))) && decide ((Int.toNat (IntKind.wrap .i64 (t53_2 - 1))) < o0_5.n)) then some () else none : Option Unit).bind fun _ =>
  ((F_impl_compareVip fu (o0_5.f (Int.toNat (IntKind.wrap .i64 (t53_2 - 1)))) (t51_0.f (Int.toNat t53_2))).bind fun y392 => (some (decide (y392 ≥ 0))))) else (some false)) : Option Bool).bind fun m393 =>
  (bif m393 then (k1 (t51_0.f (Int.toNat t53_2)).Address (t51_0.f (Int.toNat t53_2)).Port (t51_0.f (Int.toNat t53_2)).Proto (t51_0.f (Int.toNat t53_2)).Names) else
  ((F_slices_ContainsFunc_int64_int64_w_impl_ConfigFault_c1 fu (t51_0.f (Int.toNat t53_2)).Names o0_3 o0_4 o0_5).bind fun y394 => (bif y394 then (k2 (t51_0.f (Int.toNat t53_2)).Address (t51_0.f (Int.toNat t53_2)).Port (t51_0.f (Int.toNat t53_2)).Proto (t51_0.f (Int.toNat t53_2)).Names) else
  (L (fun w5 go5 => F_impl_ConfigFault_B5 fu t51_0 t52_1 t53_2 o0_3 o0_4 o0_5 ((t51_0.f (Int.toNat t53_2)).Address) ((t51_0.f (Int.toNat t53_2)).Port) ((t51_0.f (Int.toNat t53_2)).Proto) ((t51_0.f (Int.toNat t53_2)).Names) ((k1 (t51_0.f (Int.toNat t53_2)).Address (t51_0.f (Int.toNat t53_2)).Port (t51_0.f (Int.toNat t53_2)).Proto (t51_0.f (Int.toNat t53_2)).Names)) ((go (IntKind.wrap .i64 (t53_2 + 1)))) w5 go5) fu (1 : Int))))))))) else
  k3)
def F_impl_ConfigFault (fu : Nat) (c_0 : S_impl_Config) : Option (Int) :=
 ((F_impl_in fu c_0.Version 0 1000000).bind fun y374 => (bif (!y374) then (some 3) else (((bif (decide (((c_0.Backends.n : Nat) : Int) > 8)) then (some true) else (some (decide (((c_0.Vips.n : Nat) : Int) > 4)))) : Option Bool).bind fun m375 =>
  (bif m375 then (some 2) else (L (fun w1 go1 => F_impl_ConfigFault_B1 fu c_0.Backends ((c_0.Backends.n : Nat) : Int) c_0.Version c_0.Backends c_0.Vips (fun z378 z379 z380 z381 z382 =>
  (some 3)) (fun z383 z384 z385 z386 z387 => (some 1)) (L (fun w3 go3 => F_impl_ConfigFault_B3 fu c_0.Vips ((c_0.Vips.n : Nat) : Int) c_0.Version c_0.Backends c_0.Vips (fun z395 z396 z397 z398 =>
  (some 3)) (fun z399 z400 z401 z402 => (some 1)) (fun z403 z404 z405 z406 => (some 4)) (some 0) w3 go3) fu (0 : Int)) w1 go1) fu (0 : Int))))))
def pcf_a37 (fu f : Nat) (xs : List (D RT den)) : Option (Out RT den) := match f with | 63 => S_a23 fu xs | 66 => S_a36 fu xs | 77 => S_a21 fu xs | 78 => S_a24 fu xs | 79 => S_a25 fu xs | 80 => S_a26 fu xs | 81 => S_a30 fu xs | _ => none
def pc_a37 (fu : Nat) : Pc RT den := ⟨pcf_a37 fu, fun _ => false, fun _ => false, pcd0, pcd0, pcd0, pcx0⟩
def msk_a37 (b : Nat) : List Nat := match b with | 1 => (0 :: (rg 2 23 (rg 28 83 []))) | 100001 => (0 :: (rg 3 108 [])) | 3 => (0 :: (rg 2 49 (rg 54 57 []))) | 100003 => (0 :: 1 :: (rg 3 108 [])) | 5 => (0 :: 2 :: 3 :: 4 :: 5 :: (rg 8 43 (rg 54 57 []))) | 100005 => (0 :: (rg 3 48 (rg 54 57 []))) | 200003 => [13] | 200010 => [48] | 200016 => [73] | 200018 => [86] | _ => []
def ps_a37_1 : List (Pat RT) := (.flat .q :: .flat (.ref 0 0) :: (fq 23 (.flat (.rs .impl_Backend) :: .flat (.int .i64) :: .flat (.int .i64) :: (fq 83 []))))
def os_a37_1 : List (OP RT) := [.box false [(.int .i64), (.rs .impl_Backend), (.rs .impl_Vip)]]
def conv_a37_1 (r : Raw den ps_a37_1 os_a37_1) : (Yd5) × (Int) := (((e5 (e20 r.1)).1, (e5 (e20 r.1)).2.1, r.2.1.1, r.2.1.2.1, r.2.1.2.2.1), (e5 (e20 r.1)).2.2.1)
def back_a37_1 (c : Yd5) (w : Int) : St RT den := ⟨(.q :: (.ref 0 0) :: (qs 23 ((.rs c.1.z .impl_Backend c.1.n c.1.f) :: (ii c.2.1) :: (ii w) :: (qs 83 [])))), [(.box false [(ii c.2.2.1), (.rs c.2.2.2.1.z .impl_Backend c.2.2.2.1.n c.2.2.2.1.f), (.rs c.2.2.2.2.z .impl_Vip c.2.2.2.2.n c.2.2.2.2.f)])]⟩
def Bk_a37_1 {ρ : Type} (fu : Nat) (c : Yd5) (k : Ex → St RT den → Option ρ) (w : Int) (go : (Int) → Option ρ) : Option ρ := F_impl_ConfigFault_B1 fu c.1 c.2.1 c.2.2.1 c.2.2.2.1 c.2.2.2.2 (fun a0 a1 a2 a3 a4 => k .ret ⟨(.q :: (.ref 0 0) :: (ii 3) :: (qs 108 [])), [(.box false [(ii c.2.2.1), (.rs c.2.2.2.1.z .impl_Backend c.2.2.2.1.n c.2.2.2.1.f), (.rs c.2.2.2.2.z .impl_Vip c.2.2.2.2.n c.2.2.2.2.f)]), (.box false [(ii a0), (ii a1), (ii a2), (ii a3), (.bool a4)])]⟩) (fun a0 a1 a2 a3 a4 => k .ret ⟨(.q :: (.ref 0 0) :: (ii 1) :: (qs 108 [])), [(.box false [(ii c.2.2.1), (.rs c.2.2.2.1.z .impl_Backend c.2.2.2.1.n c.2.2.2.1.f), (.rs c.2.2.2.2.z .impl_Vip c.2.2.2.2.n c.2.2.2.2.f)]), (.box false [(ii a0), (ii a1), (ii a2), (ii a3), (.bool a4)])]⟩) (k (.exit 1) ⟨(.q :: (.ref 0 0) :: (qs 109 [])), [(.box false [(ii c.2.2.1), (.rs c.2.2.2.1.z .impl_Backend c.2.2.2.1.n c.2.2.2.1.f), (.rs c.2.2.2.2.z .impl_Vip c.2.2.2.2.n c.2.2.2.2.f)])]⟩) w go
def ps_a37_5 : List (Pat RT) := (.flat .q :: .flat (.ref 0 0) :: (fq 4 (.flat (.ref 1 0) :: .flat (.int .i64) :: (fq 43 (.flat (.rs .impl_Vip) :: .flat (.int .i64) :: .flat (.int .i64) :: (fq 57 []))))))
def os_a37_5 : List (OP RT) := [.box false [(.int .i64), (.rs .impl_Backend), (.rs .impl_Vip)], .box false [(.int .i64), (.int .i64), (.int .i64), (.rs .i64)]]
def conv_a37_5 (r : Raw den ps_a37_5 os_a37_5) : (Yd7) × (Int) := (((e10 (e40 r.1)).2.1, (e10 (e40 r.1)).2.2.1, (e10 (e40 r.1)).2.2.2.1, r.2.1.1, r.2.1.2.1, r.2.1.2.2.1, r.2.2.1.1, r.2.2.1.2.1, r.2.2.1.2.2.1, r.2.2.1.2.2.2.1), (e5 r.1).2.2.1)
def back_a37_5 (c : Yd7) (w : Int) : St RT den := ⟨(.q :: (.ref 0 0) :: (qs 4 ((.ref 1 0) :: (ii w) :: (qs 43 ((.rs c.1.z .impl_Vip c.1.n c.1.f) :: (ii c.2.1) :: (ii c.2.2.1) :: (qs 57 [])))))), [(.box false [(ii c.2.2.2.1), (.rs c.2.2.2.2.1.z .impl_Backend c.2.2.2.2.1.n c.2.2.2.2.1.f), (.rs (e5 c).1.z .impl_Vip (e5 c).1.n (e5 c).1.f)]), (.box false [(ii (e5 c).2.1), (ii (e5 c).2.2.1), (ii (e5 c).2.2.2.1), (.rs (e5 c).2.2.2.2.z .i64 (e5 c).2.2.2.2.n (e5 c).2.2.2.2.f)])]⟩
def Bk_a37_5 {ρ : Type} (fu : Nat) (c : Yd7) (k : Ex → St RT den → Option ρ) (w : Int) (go : (Int) → Option ρ) : Option ρ := F_impl_ConfigFault_B5 fu c.1 c.2.1 c.2.2.1 c.2.2.2.1 c.2.2.2.2.1 (e5 c).1 (e5 c).2.1 (e5 c).2.2.1 (e5 c).2.2.2.1 (e5 c).2.2.2.2 (k .ret ⟨(.q :: (.ref 0 0) :: (ii 1) :: (qs 48 ((.rs c.1.z .impl_Vip c.1.n c.1.f) :: (ii c.2.1) :: (ii c.2.2.1) :: (qs 57 [])))), [(.box false [(ii c.2.2.2.1), (.rs c.2.2.2.2.1.z .impl_Backend c.2.2.2.2.1.n c.2.2.2.2.1.f), (.rs (e5 c).1.z .impl_Vip (e5 c).1.n (e5 c).1.f)]), (.box false [(ii (e5 c).2.1), (ii (e5 c).2.2.1), (ii (e5 c).2.2.2.1), (.rs (e5 c).2.2.2.2.z .i64 (e5 c).2.2.2.2.n (e5 c).2.2.2.2.f)])]⟩) (k (.exit 5) ⟨(.q :: (.ref 0 0) :: (qs 49 ((.rs c.1.z .impl_Vip c.1.n c.1.f) :: (ii c.2.1) :: (ii c.2.2.1) :: (qs 57 [])))), [(.box false [(ii c.2.2.2.1), (.rs c.2.2.2.2.1.z .impl_Backend c.2.2.2.2.1.n c.2.2.2.2.1.f), (.rs (e5 c).1.z .impl_Vip (e5 c).1.n (e5 c).1.f)]), (.box false [(ii (e5 c).2.1), (ii (e5 c).2.2.1), (ii (e5 c).2.2.2.1), (.rs (e5 c).2.2.2.2.z .i64 (e5 c).2.2.2.2.n (e5 c).2.2.2.2.f)])]⟩) w go
def ps_a37_3 : List (Pat RT) := (.flat .q :: .flat (.ref 0 0) :: (fq 49 (.flat (.rs .impl_Vip) :: .flat (.int .i64) :: .flat (.int .i64) :: (fq 57 []))))
def os_a37_3 : List (OP RT) := [.box false [(.int .i64), (.rs .impl_Backend), (.rs .impl_Vip)]]
def conv_a37_3 (r : Raw den ps_a37_3 os_a37_3) : (Yd4) × (Int) := (((e10 (e40 r.1)).2.1, (e10 (e40 r.1)).2.2.1, r.2.1.1, r.2.1.2.1, r.2.1.2.2.1), (e10 (e40 r.1)).2.2.2.1)
def back_a37_3 (c : Yd4) (w : Int) : St RT den := ⟨(.q :: (.ref 0 0) :: (qs 49 ((.rs c.1.z .impl_Vip c.1.n c.1.f) :: (ii c.2.1) :: (ii w) :: (qs 57 [])))), [(.box false [(ii c.2.2.1), (.rs c.2.2.2.1.z .impl_Backend c.2.2.2.1.n c.2.2.2.1.f), (.rs c.2.2.2.2.z .impl_Vip c.2.2.2.2.n c.2.2.2.2.f)])]⟩
def Bk_a37_3 {ρ : Type} (fu : Nat) (c : Yd4) (k : Ex → St RT den → Option ρ) (w : Int) (go : (Int) → Option ρ) : Option ρ := F_impl_ConfigFault_B3 fu c.1 c.2.1 c.2.2.1 c.2.2.2.1 c.2.2.2.2 (fun a0 a1 a2 a3 => k .ret ⟨(.q :: .q :: (ii 3) :: (qs 108 [])), [(.box false [(ii c.2.2.1), (.rs c.2.2.2.1.z .impl_Backend c.2.2.2.1.n c.2.2.2.1.f), (.rs c.2.2.2.2.z .impl_Vip c.2.2.2.2.n c.2.2.2.2.f)]), (.box false [(ii a0), (ii a1), (ii a2), (.rs a3.z .i64 a3.n a3.f)])]⟩) (fun a0 a1 a2 a3 => k .ret ⟨(.q :: .q :: (ii 1) :: (qs 108 [])), [(.box false [(ii c.2.2.1), (.rs c.2.2.2.1.z .impl_Backend c.2.2.2.1.n c.2.2.2.1.f), (.rs c.2.2.2.2.z .impl_Vip c.2.2.2.2.n c.2.2.2.2.f)]), (.box false [(ii a0), (ii a1), (ii a2), (.rs a3.z .i64 a3.n a3.f)])]⟩) (fun a0 a1 a2 a3 => k .ret ⟨(.q :: .q :: (ii 4) :: (qs 108 [])), [(.box false [(ii c.2.2.1), (.rs c.2.2.2.1.z .impl_Backend c.2.2.2.1.n c.2.2.2.1.f), (.rs c.2.2.2.2.z .impl_Vip c.2.2.2.2.n c.2.2.2.2.f)]), (.box false [(ii a0), (ii a1), (ii a2), (.rs a3.z .i64 a3.n a3.f)])]⟩) (k (.exit 3) ⟨(qs 111 []), [(.box false [(ii c.2.2.1), (.rs c.2.2.2.1.z .impl_Backend c.2.2.2.1.n c.2.2.2.1.f), (.rs c.2.2.2.2.z .impl_Vip c.2.2.2.2.n c.2.2.2.2.f)])]⟩) w go
def lp_a37 (fu : Nat) : Lp RT den (Int) := ⟨fun b s k => match b with | 1 => handle ps_a37_1 os_a37_1 conv_a37_1 (Bk_a37_1 fu) fu s k | 3 => handle ps_a37_3 os_a37_3 conv_a37_3 (Bk_a37_3 fu) fu s k | 5 => handle ps_a37_5 os_a37_5 conv_a37_5 (Bk_a37_5 fu) fu s k | _ => none, inl0⟩
theorem ev_a37 (fu : Nat) (c_0 : S_impl_Config) : evFun E (pc_a37 fu) msk_a37 (lp_a37 fu) out_i64 35 [(.agg [(ii c_0.Version), (.rs c_0.Backends.z .impl_Backend c_0.Backends.n c_0.Backends.f), (.rs c_0.Vips.z .impl_Vip c_0.Vips.n c_0.Vips.f)])] = F_impl_ConfigFault fu c_0 := by kernel_rfl
noncomputable def body_a37 : Code := Try.f35.body.getD .skip
noncomputable def lc_a37_1 : Code := ((loops 0 body_a37).getD 0 (0, .skip)).2
theorem round_a37_1 (fu : Nat) : RoundOk E (pc_a37 fu) msk_a37 (lp_a37 fu) 1 lc_a37_1 back_a37_1 1 100001 1 (Bk_a37_1 fu) := fun it k c w => by kernel_rfl
theorem lpok_a37_1 (fu : Nat) : LpAt E (pc_a37 fu) msk_a37 (lp_a37 fu) 1 1 100001 1 lc_a37_1 :=
 handle_ok (ps := ps_a37_1) (os := os_a37_1) (conv := conv_a37_1) (B := Bk_a37_1 fu) (fu := fu) back_a37_1 (fun raw => by kernel_rfl) 1 (fun c w => by kernel_rfl) (round_a37_1 fu)
noncomputable def lc_a37_3 : Code := ((loops 0 body_a37).getD 1 (0, .skip)).2
theorem round_a37_3 (fu : Nat) : RoundOk E (pc_a37 fu) msk_a37 (lp_a37 fu) 3 lc_a37_3 back_a37_3 3 100003 1 (Bk_a37_3 fu) := fun it k c w => by kernel_rfl
theorem lpok_a37_3 (fu : Nat) : LpAt E (pc_a37 fu) msk_a37 (lp_a37 fu) 3 3 100003 3 lc_a37_3 :=
 handle_ok (ps := ps_a37_3) (os := os_a37_3) (conv := conv_a37_3) (B := Bk_a37_3 fu) (fu := fu) back_a37_3 (fun raw => by kernel_rfl) 1 (fun c w => by kernel_rfl) (round_a37_3 fu)
noncomputable def lc_a37_5 : Code := ((loops 0 body_a37).getD 2 (0, .skip)).2
theorem round_a37_5 (fu : Nat) : RoundOk E (pc_a37 fu) msk_a37 (lp_a37 fu) 5 lc_a37_5 back_a37_5 5 100005 2 (Bk_a37_5 fu) := fun it k c w => by kernel_rfl
theorem lpok_a37_5 (fu : Nat) : LpAt E (pc_a37 fu) msk_a37 (lp_a37 fu) 5 5 100005 5 lc_a37_5 :=
 handle_ok (ps := ps_a37_5) (os := os_a37_5) (conv := conv_a37_5) (B := Bk_a37_5 fu) (fu := fu) back_a37_5 (fun raw => by kernel_rfl) 2 (fun c w => by kernel_rfl) (round_a37_5 fu)
theorem lpok_a37 (fu : Nat) : LpOk E (pc_a37 fu) 0 msk_a37 (lp_a37 fu) (loops 0 body_a37) := lp_nil (loop_all 3 (by kernel_rfl) fun i hi => match i, hi with
 | 0, _ => by
  have h : (loops 0 body_a37).getD 0 (0, .skip) = (1, lc_a37_1) := by kernel_rfl
  rw [h]; exact lpok_a37_1 fu
 | 1, _ => by
  have h : (loops 0 body_a37).getD 1 (0, .skip) = (3, lc_a37_3) := by kernel_rfl
  rw [h]; exact lpok_a37_3 fu
 | 2, _ => by
  have h : (loops 0 body_a37).getD 2 (0, .skip) = (5, lc_a37_5) := by kernel_rfl
  rw [h]; exact lpok_a37_5 fu
 | i + 3, hi => absurd hi (by omega)) (by kernel_rfl)
def S_a37 (fu : Nat) (xs : List (D RT den)) : Option (Out RT den) := match xs with | [.agg [.int .i64 a0_1, .rs za0_2 .impl_Backend na0_2 fa0_2, .rs za0_3 .impl_Vip na0_3 fa0_3]] => some ⟨Int, F_impl_ConfigFault fu (⟨a0_1, (⟨za0_2, na0_2, fa0_2⟩ : (Sl S_impl_Backend)), (⟨za0_3, na0_3, fa0_3⟩ : (Sl S_impl_Vip))⟩ : S_impl_Config), enc_i64, fun _ => true⟩ | _ => none
theorem hpc_a37 (fu : Nat) : HpcOk E Try.prog (pcf_a37 fu) := by
 intro f xs o h
 unfold pcf_a37 at h
 split at h
 ·exact good_a23 fu xs o h
 ·exact good_a36 fu xs o h
 ·exact good_a21 fu xs o h
 ·exact good_a24 fu xs o h
 ·exact good_a25 fu xs o h
 ·exact good_a26 fu xs o h
 ·exact good_a30 fu xs o h
 ·cases h
theorem goodv_a37 (fu : Nat) (c_0 : S_impl_Config) (y : Int) (hy : F_impl_ConfigFault fu c_0 = some y) : Good E Try.prog 35 [(.agg [(ii c_0.Version), (.rs c_0.Backends.z .impl_Backend c_0.Backends.n c_0.Backends.f), (.rs c_0.Vips.z .impl_Vip c_0.Vips.n c_0.Vips.f)])] (enc_i64 y) :=
 fun_good E_ok (pc_good (pc := pc_a37 fu) (hpc_a37 fu) hpx0) (fn := Try.f35) (by kernel_rfl) (by kernel_rfl) (by kernel_rfl) (lpok_a37 fu) (fun d hd => out_i64_enc d _ hd) ((ev_a37 fu c_0).trans hy)
theorem good_a37 (fu : Nat) : GoodS E Try.prog 35 (S_a37 fu) := by
 intro xs o h y hy
 unfold S_a37 at h
 split at h
 ·rename_i a0_1 za0_2 na0_2 fa0_2 za0_3 na0_3 fa0_3
  cases h
  exact goodv_a37 fu (⟨a0_1, (⟨za0_2, na0_2, fa0_2⟩ : (Sl S_impl_Backend)), (⟨za0_3, na0_3, fa0_3⟩ : (Sl S_impl_Vip))⟩ : S_impl_Config) y hy
 ·cases h
def F_bytes_Equal (fu : Nat) (a_0 b_1 : (Sl Int)) : Option (Bool) :=
 (some (ByteArray.toList (bytesOf a_0.n (fun i => (a_0.f i))) == ByteArray.toList (bytesOf b_1.n (fun i => (b_1.f i)))))
def pc_a38 (fu : Nat) : Pc RT den := ⟨pcf0, fun _ => false, fun _ => false, pcd0, pcd0, pcd0, pcx0⟩
def msk_a38 (b : Nat) : List Nat := []
def lp_a38 (fu : Nat) : Lp RT den (Bool) := ⟨fun b s k => none, inl0⟩
theorem ev_a38 (fu : Nat) (a_0 b_1 : (Sl Int)) : evFun E (pc_a38 fu) msk_a38 (lp_a38 fu) out_bo 36 [(.rs a_0.z .u8 a_0.n a_0.f), (.rs b_1.z .u8 b_1.n b_1.f)] = F_bytes_Equal fu a_0 b_1 := by kernel_rfl
noncomputable def body_a38 : Code := Try.f36.body.getD .skip
theorem lpok_a38 (fu : Nat) : LpOk E (pc_a38 fu) 0 msk_a38 (lp_a38 fu) (loops 0 body_a38) := lp_nil (loop_nil (by kernel_rfl)) (by kernel_rfl)
def S_a38 (fu : Nat) (xs : List (D RT den)) : Option (Out RT den) := match xs with | [.rs za0_0 .u8 na0_0 fa0_0, .rs za1_0 .u8 na1_0 fa1_0] => some ⟨Bool, F_bytes_Equal fu (⟨za0_0, na0_0, fa0_0⟩ : (Sl Int)) (⟨za1_0, na1_0, fa1_0⟩ : (Sl Int)), enc_bo, fun _ => true⟩ | _ => none
theorem goodv_a38 (fu : Nat) (a_0 b_1 : (Sl Int)) (y : Bool) (hy : F_bytes_Equal fu a_0 b_1 = some y) : Good E Try.prog 36 [(.rs a_0.z .u8 a_0.n a_0.f), (.rs b_1.z .u8 b_1.n b_1.f)] (enc_bo y) :=
 fun_good E_ok (pc_good (pc := pc_a38 fu) hpc0 hpx0) (fn := Try.f36) (by kernel_rfl) (by kernel_rfl) (by kernel_rfl) (lpok_a38 fu) (fun d hd => out_bo_enc d _ hd) ((ev_a38 fu a_0 b_1).trans hy)
theorem good_a38 (fu : Nat) : GoodS E Try.prog 36 (S_a38 fu) := by
 intro xs o h y hy
 unfold S_a38 at h
 split at h
 ·rename_i za0_0 na0_0 fa0_0 za1_0 na1_0 fa1_0
  cases h
  exact goodv_a38 fu (⟨za0_0, na0_0, fa0_0⟩ : (Sl Int)) (⟨za1_0, na1_0, fa1_0⟩ : (Sl Int)) y hy
 ·cases h
def F_impl_UnpackConfig_U_B0 {ρ : Type} (fu : Nat) (data0_0 : (Sl Int)) (o0_2 o0_3 o2_6 : Int) (k0 : (Sl Int) → Bool → Nat → Nat → (Nat → S_impl_Backend) → Option ρ) (n5_1 : Int) (o1_4 : (Sl Int)) (o1_5 : Bool) (o2_7 on3_8 : Nat) (of3_9 : (Nat → S_impl_Backend)) (go : Int → (Sl Int) → Bool → Nat → Nat → (Nat → S_impl_Backend) → Option ρ) : Option ρ :=
 (((bif (decide (n5_1 > 0)) then (some (!o1_5)) else (some false)) : Option Bool).bind fun m306 => (bif m306 then ((F_impl_reader_take_M fu 2 o1_4 o1_5).bind fun y307 =>
  ((F_impl_reader_take_M fu 4 y307.2.1 y307.2.2).bind fun y308 => ((F_impl_reader_take_M fu 1 y308.2.1 y308.2.2).bind fun y309 => (bif (decide ((o2_7 + 1) ≤ 9223372036854775807) &&
  decide ((o2_7 + 1) * 40 ≤ 140737488355328)) then (go (IntKind.wrap .i64 (n5_1 - 1)) y309.2.1 y309.2.2 (o2_7 + 1) (o2_7 + 1) (fun i => if i < o2_7 then (of3_9 i) else ((fun i =>
  ([(⟨y307.1, y308.1, (IntKind.wrap .i64 (Int.tdiv y309.1 8)), (Int.tmod (IntKind.wrap .i64 (Int.tdiv y309.1 2)) 4), ((Int.tmod y309.1 2) == 1)⟩ : S_impl_Backend)] : List (S_impl_Backend)).getD i (dflt .impl_Backend)) (i - o2_7)))) else
  none)))) else (k0 o1_4 o1_5 o2_7 on3_8 of3_9)))
def F_impl_UnpackConfig_U_B4 {ρ : Type} (fu : Nat) (data0_0 : (Sl Int)) (n8_1 o0_3 o0_4 o2_7 : Int) (o2_8 o2_9 on3_10 : Nat) (of3_11 : (Nat → S_impl_Backend)) (on4_12 op4_13 : Nat) (of4_14 : (Nat → S_impl_Vip)) (o5_15 o5_16 o5_17 : Int) (k0 : (Sl Int) → Bool → Nat → Nat → (Nat → Int) → Option ρ) (k10_2 : Int) (o1_5 : (Sl Int)) (o1_6 : Bool) (o5_18 on6_19 : Nat) (of6_20 : (Nat → Int)) (go : Int → (Sl Int) → Bool → Nat → Nat → (Nat → Int) → Option ρ) : Option ρ :=
 (((bif (decide (k10_2 > 0)) then (some (!o1_6)) else (some false)) : Option Bool).bind fun m321 => (bif m321 then ((F_impl_reader_take_M fu 2 o1_5 o1_6).bind fun y322 => (bif (decide ((o5_18 + 1) ≤ 9223372036854775807) &&
  decide ((o5_18 + 1) * 8 ≤ 140737488355328)) then (go (IntKind.wrap .i64 (k10_2 - 1)) y322.2.1 y322.2.2 (o5_18 + 1) (o5_18 + 1) (fun i => if i < o5_18 then (of6_20 i) else ((fun i =>
  ([y322.1] : List (Int)).getD i (dflt .i64)) (i - o5_18)))) else none)) else (k0 o1_5 o1_6 o5_18 on6_19 of6_20)))
def F_impl_UnpackConfig_U_B2 {ρ : Type} (fu : Nat) (data0_0 : (Sl Int)) (o0_2 o0_3 o2_6 : Int) (o2_7 on3_9 : Nat) (of3_10 : (Nat → S_impl_Backend)) (k0 : (Sl Int) → Bool → Nat → Nat → Nat → (Nat → S_impl_Vip) → Option ρ) (n8_1 : Int) (o1_4 : (Sl Int)) (o1_5 : Bool) (o2_8 on4_11 op4_12 : Nat) (of4_13 : (Nat → S_impl_Vip)) (go : Int → (Sl Int) → Bool → Nat → Nat → Nat → (Nat → S_impl_Vip) → Option ρ) : Option ρ :=
 (((bif (decide (n8_1 > 0)) then (some (!o1_5)) else (some false)) : Option Bool).bind fun m316 => (bif m316 then ((F_impl_reader_take_M fu 4 o1_4 o1_5).bind fun y317 =>
  ((F_impl_reader_take_M fu 2 y317.2.1 y317.2.2).bind fun y318 => ((F_impl_reader_take_M fu 1 y318.2.1 y318.2.2).bind fun y319 => ((F_impl_reader_take_M fu 1 y319.2.1 y319.2.2).bind fun y320 =>
  (L (fun w4 go4 => F_impl_UnpackConfig_U_B4 fu data0_0 n8_1 o0_2 o0_3 o2_6 o2_7 o2_8 on3_9 of3_10 on4_11 op4_12 of4_13 y317.1 y318.1 y319.1 (fun z323 z324 z325 z326 z327 => (bif (decide (o2_8 ≤ op4_12) &&
  (decide ((o2_8 + 1) ≤ 9223372036854775807) && decide ((o2_8 + 1) * 48 ≤ 140737488355328))) then (go (IntKind.wrap .i64 (n8_1 - 1)) z323 z324 (o2_8 + 1) (o2_8 + 1) (o2_8 + 1) (fun i =>
  if i < o2_8 then (of4_13 i) else (⟨y317.1, y318.1, y319.1, (⟨none, z325, z327⟩ : (Sl Int))⟩ : S_impl_Vip))) else none)) w4.1 w4.2.1 w4.2.2.1 w4.2.2.2.1 w4.2.2.2.2.1 w4.2.2.2.2.2 (fun q0 q1 q2 q3 q4 q5 =>
  go4 (q0, q1, q2, q3, q4, q5))) fu ((y320.1, y320.2.1, y320.2.2, 0, 0, (fun _ => dflt .i64)) : Yd0)))))) else (k0 o1_4 o1_5 o2_8 on4_11 op4_12 of4_13)))
def F_impl_UnpackConfig_U (fu : Nat) (data_0 : (Sl Int)) : Option (Yd6) :=
 ((F_impl_reader_take_M fu 4 data_0 false).bind fun y304 => ((F_impl_reader_take_M fu 1 y304.2.1 y304.2.2).bind fun y305 => (L (fun w0 go0 => F_impl_UnpackConfig_U_B0 fu data_0 0 0 y304.1 (fun z310 z311 z312 z313 z314 =>
  ((F_impl_reader_take_M fu 1 z310 z311).bind fun y315 => (L (fun w2 go2 => F_impl_UnpackConfig_U_B2 fu data_0 0 0 y304.1 z312 z313 z314 (fun z328 z329 z330 z331 z332 z333 => (bif z329 then
  (bif (decide ((0 : Nat) = 0) && true) then (some (5, 0, 0, 0, 0, (fun _ => dflt .impl_Backend), 0, (fun _ => dflt .impl_Vip))) else none) else ((F_impl_ConfigFault fu (⟨y304.1,
  (⟨none, z312, z314⟩ : (Sl S_impl_Backend)), (⟨none, z330, z333⟩ : (Sl S_impl_Vip))⟩ : S_impl_Config)).bind fun y334 => (bif (y334 != 0) then (bif (decide ((0 : Nat) = 0) &&
  true) then (some (5, 0, 0, 0, 0, (fun _ => dflt .impl_Backend), 0, (fun _ => dflt .impl_Vip))) else none) else ((F_impl_packConfig_H fu (⟨y304.1, (⟨none, z312, z314⟩ : (Sl S_impl_Backend)),
  (⟨none, z330, z333⟩ : (Sl S_impl_Vip))⟩ : S_impl_Config)).bind fun y372 => ((F_bytes_Equal fu (⟨none, y372.n, y372.f⟩ : (Sl Int)) data_0).bind fun y373 => (bif (!y373) then (bif (decide ((0 : Nat) = 0) &&
  true) then (some (5, 0, 0, 0, 0, (fun _ => dflt .impl_Backend), 0, (fun _ => dflt .impl_Vip))) else none) else (bif (decide (z330 ≤ z332) && true) then (bif (decide (z330 = z330) &&
  true) then (some (0, y304.1, z312, z330, z312, z314, z330, z333)) else none) else none)))))))) w2.1 w2.2.1 w2.2.2.1 w2.2.2.2.1 w2.2.2.2.2.1 w2.2.2.2.2.2.1 w2.2.2.2.2.2.2 (fun q0 q1 q2 q3 q4 q5 q6 =>
  go2 (q0, q1, q2, q3, q4, q5, q6))) fu ((y315.1, y315.2.1, y315.2.2, 0, 0, 0, (fun _ => dflt .impl_Vip)) : Yd2)))) w0.1 w0.2.1 w0.2.2.1 w0.2.2.2.1 w0.2.2.2.2.1 w0.2.2.2.2.2 (fun q0 q1 q2 q3 q4 q5 =>
  go0 (q0, q1, q2, q3, q4, q5))) fu ((y305.1, y305.2.1, y305.2.2, 0, 0, (fun _ => dflt .impl_Backend)) : Yd1))))
def pcf_a39 (fu f : Nat) (xs : List (D RT den)) : Option (Out RT den) := match f with | 35 => S_a37 fu xs | 36 => S_a38 fu xs | _ => none
def pcx_a39 (fu f : Nat) (xs : List (D RT den)) (ins : List (Ob RT den)) : Option (OutX RT den) := match f with | 34 => S_a18 fu xs ins | 37 => S_a20 fu xs ins | _ => none
def pcd_a39 : Nat → Bool := fun _ => false
def pc_a39 (fu : Nat) : Pc RT den := ⟨pcf_a39 fu, fun f => match f with | 34 => true | 37 => true | _ => false, fun f => match f with | 34 => true | _ => false, pcd_a39, fun f => match f with | 34 => true | _ => false, pcd0, pcx_a39 fu⟩
def msk_a39 (b : Nat) : List Nat := match b with | 0 => (1 :: (rg 6 113 [])) | 100000 => (1 :: (rg 5 114 [])) | 2 => (1 :: 5 :: 6 :: 7 :: (rg 9 110 [])) | 100002 => (1 :: (rg 5 114 [])) | 4 => (1 :: 5 :: 6 :: 7 :: (rg 11 108 [])) | 100004 => (1 :: 5 :: 6 :: 7 :: (rg 10 109 [])) | 200004 => [27] | 200011 => [64] | 200015 => [84] | 300000 => [1002001] | 300002 => [1002002, 5000004] | 300004 => [1004003, 1005003] | _ => []
def ps_a39_0 : List (Pat RT) := (.flat (.rs .u8) :: .flat .q :: .flat (.ref 0 0) :: .flat (.ref 1 0) :: .flat (.ref 2 0) :: .flat (.int .i64) :: (fq 113 []))
def os_a39_0 : List (OP RT) := [.box false [(.int .i64), (.int .i64), (.emp true .impl_Backend), (.emp true .impl_Vip)], .box false [(.rs .u8), .bool], .box false [(.int .i64), (.os 3), (.emp true .impl_Vip)], .row false .impl_Backend]
def conv_a39_0 (r : Raw den ps_a39_0 os_a39_0) : ((Sl Int) × Int × Int × Int) × (Yd1) := ((r.1.1, r.2.1.1, r.2.1.2.1, r.2.2.2.1.1), ((e5 r.1).1, r.2.2.1.1, r.2.2.1.2.1, r.2.2.2.1.2.1, r.2.2.2.2.1.1, r.2.2.2.2.1.2))
def back_a39_0 (c : (Sl Int) × Int × Int × Int) (w : Yd1) : St RT den := ⟨((.rs c.1.z .u8 c.1.n c.1.f) :: .q :: (.ref 0 0) :: (.ref 1 0) :: (.ref 2 0) :: (ii w.1) :: (qs 113 [])), [(.box false [(ii c.2.1), (ii c.2.2.1), (.emp true .impl_Backend), (.emp true .impl_Vip)]), (.box false [(.rs w.2.1.z .u8 w.2.1.n w.2.1.f), (.bool w.2.2.1)]), (.box false [(ii c.2.2.2), (.os 3 w.2.2.2.1), (.emp true .impl_Vip)]), (.row false .impl_Backend w.2.2.2.2.1 (e5 w))]⟩
def Bk_a39_0 {ρ : Type} (fu : Nat) (c : (Sl Int) × Int × Int × Int) (k : Ex → St RT den → Option ρ) (w : Yd1) (go : (Yd1) → Option ρ) : Option ρ := F_impl_UnpackConfig_U_B0 fu c.1 c.2.1 c.2.2.1 c.2.2.2 (fun a0 a1 a2 a3 a4 => k (.exit 0) ⟨((.rs c.1.z .u8 c.1.n c.1.f) :: .q :: (.ref 0 0) :: (.ref 1 0) :: (.ref 2 0) :: (qs 114 [])), [(.box false [(ii c.2.1), (ii c.2.2.1), (.emp true .impl_Backend), (.emp true .impl_Vip)]), (.box false [(.rs a0.z .u8 a0.n a0.f), (.bool a1)]), (.box false [(ii c.2.2.2), (.os 3 a2), (.emp true .impl_Vip)]), (.row false .impl_Backend a3 a4)]⟩) w.1 w.2.1 w.2.2.1 w.2.2.2.1 w.2.2.2.2.1 (e5 w) (fun q0 q1 q2 q3 q4 q5 => go (q0, q1, q2, q3, q4, q5))
def ps_a39_4 : List (Pat RT) := (.flat (.rs .u8) :: .flat .q :: .flat (.ref 0 0) :: .flat (.ref 1 0) :: .flat (.ref 2 0) :: .flat .q :: .flat .q :: .flat .q :: .flat (.int .i64) :: .flat (.ref 5 0) :: .flat (.int .i64) :: (fq 108 []))
def os_a39_4 : List (OP RT) := [.box false [(.int .i64), (.int .i64), (.emp true .impl_Backend), (.emp true .impl_Vip)], .box false [(.rs .u8), .bool], .box false [(.int .i64), (.os 3), (.os 4)], .row false .impl_Backend, .deep false .impl_Vip, .box false [(.int .i64), (.int .i64), (.int .i64), (.os 6)], .row false .i64]
def conv_a39_4 (r : Raw den ps_a39_4 os_a39_4) : (Yd8) × (Yd0) := ((r.1.1, (e5 r.1).2.2.2.1, r.2.1.1, r.2.1.2.1, r.2.2.2.1.1, r.2.2.2.1.2.1, r.2.2.2.1.2.2.1, r.2.2.2.2.1.1, r.2.2.2.2.1.2, (e5 r).1.1, (e5 r).1.2.1, (e5 r).1.2.2, (e5 r).2.1.1, (e5 r).2.1.2.1, (e5 r).2.1.2.2.1), ((e10 r.1).1, r.2.2.1.1, r.2.2.1.2.1, (e5 r).2.1.2.2.2.1, (e5 r).2.2.1.1, (e5 r).2.2.1.2))
def back_a39_4 (c : Yd8) (w : Yd0) : St RT den := ⟨((.rs c.1.z .u8 c.1.n c.1.f) :: .q :: (.ref 0 0) :: (.ref 1 0) :: (.ref 2 0) :: .q :: .q :: .q :: (ii c.2.1) :: (.ref 5 0) :: (ii w.1) :: (qs 108 [])), [(.box false [(ii c.2.2.1), (ii c.2.2.2.1), (.emp true .impl_Backend), (.emp true .impl_Vip)]), (.box false [(.rs w.2.1.z .u8 w.2.1.n w.2.1.f), (.bool w.2.2.1)]), (.box false [(ii c.2.2.2.2.1), (.os 3 (e5 c).1), (.os 4 (e5 c).2.1)]), (.row false .impl_Backend (e5 c).2.2.1 (e5 c).2.2.2.1), (.deep false .impl_Vip (e5 c).2.2.2.2.1 (e10 c).1 (e10 c).2.1), (.box false [(ii (e10 c).2.2.1), (ii (e10 c).2.2.2.1), (ii (e10 c).2.2.2.2), (.os 6 w.2.2.2.1)]), (.row false .i64 w.2.2.2.2.1 (e5 w))]⟩
def Bk_a39_4 {ρ : Type} (fu : Nat) (c : Yd8) (k : Ex → St RT den → Option ρ) (w : Yd0) (go : (Yd0) → Option ρ) : Option ρ := F_impl_UnpackConfig_U_B4 fu c.1 c.2.1 c.2.2.1 c.2.2.2.1 c.2.2.2.2.1 (e5 c).1 (e5 c).2.1 (e5 c).2.2.1 (e5 c).2.2.2.1 (e5 c).2.2.2.2.1 (e10 c).1 (e10 c).2.1 (e10 c).2.2.1 (e10 c).2.2.2.1 (e10 c).2.2.2.2 (fun a0 a1 a2 a3 a4 => k (.exit 4) ⟨((.rs c.1.z .u8 c.1.n c.1.f) :: .q :: (.ref 0 0) :: (.ref 1 0) :: (.ref 2 0) :: .q :: .q :: .q :: (ii c.2.1) :: (.ref 5 0) :: (qs 109 [])), [(.box false [(ii c.2.2.1), (ii c.2.2.2.1), (.emp true .impl_Backend), (.emp true .impl_Vip)]), (.box false [(.rs a0.z .u8 a0.n a0.f), (.bool a1)]), (.box false [(ii c.2.2.2.2.1), (.os 3 (e5 c).1), (.os 4 (e5 c).2.1)]), (.row false .impl_Backend (e5 c).2.2.1 (e5 c).2.2.2.1), (.deep false .impl_Vip (e5 c).2.2.2.2.1 (e10 c).1 (e10 c).2.1), (.box false [(ii (e10 c).2.2.1), (ii (e10 c).2.2.2.1), (ii (e10 c).2.2.2.2), (.os 6 a2)]), (.row false .i64 a3 a4)]⟩) w.1 w.2.1 w.2.2.1 w.2.2.2.1 w.2.2.2.2.1 (e5 w) (fun q0 q1 q2 q3 q4 q5 => go (q0, q1, q2, q3, q4, q5))
def ps_a39_2 : List (Pat RT) := (.flat (.rs .u8) :: .flat .q :: .flat (.ref 0 0) :: .flat (.ref 1 0) :: .flat (.ref 2 0) :: .flat .q :: .flat .q :: .flat .q :: .flat (.int .i64) :: (fq 110 []))
def os_a39_2 : List (OP RT) := [.box false [(.int .i64), (.int .i64), (.emp true .impl_Backend), (.emp true .impl_Vip)], .box false [(.rs .u8), .bool], .box false [(.int .i64), (.os 3), (.os 4)], .row false .impl_Backend, .deep false .impl_Vip]
def conv_a39_2 (r : Raw den ps_a39_2 os_a39_2) : (Yd3) × (Yd2) := ((r.1.1, r.2.1.1, r.2.1.2.1, r.2.2.2.1.1, r.2.2.2.1.2.1, r.2.2.2.2.1.1, r.2.2.2.2.1.2), ((e5 r.1).2.2.2.1, r.2.2.1.1, r.2.2.1.2.1, r.2.2.2.1.2.2.1, (e5 r).1.1, (e5 r).1.2.1, (e5 r).1.2.2))
def back_a39_2 (c : Yd3) (w : Yd2) : St RT den := ⟨((.rs c.1.z .u8 c.1.n c.1.f) :: .q :: (.ref 0 0) :: (.ref 1 0) :: (.ref 2 0) :: .q :: .q :: .q :: (ii w.1) :: (qs 110 [])), [(.box false [(ii c.2.1), (ii c.2.2.1), (.emp true .impl_Backend), (.emp true .impl_Vip)]), (.box false [(.rs w.2.1.z .u8 w.2.1.n w.2.1.f), (.bool w.2.2.1)]), (.box false [(ii c.2.2.2.1), (.os 3 c.2.2.2.2.1), (.os 4 w.2.2.2.1)]), (.row false .impl_Backend (e5 c).1 (e5 c).2), (.deep false .impl_Vip w.2.2.2.2.1 (e5 w).1 (e5 w).2)]⟩
def Bk_a39_2 {ρ : Type} (fu : Nat) (c : Yd3) (k : Ex → St RT den → Option ρ) (w : Yd2) (go : (Yd2) → Option ρ) : Option ρ := F_impl_UnpackConfig_U_B2 fu c.1 c.2.1 c.2.2.1 c.2.2.2.1 c.2.2.2.2.1 (e5 c).1 (e5 c).2 (fun a0 a1 a2 a3 a4 a5 => k (.exit 2) ⟨((.rs c.1.z .u8 c.1.n c.1.f) :: .q :: (.ref 0 0) :: (.ref 1 0) :: (.ref 2 0) :: (qs 114 [])), [(.box false [(ii c.2.1), (ii c.2.2.1), (.emp true .impl_Backend), (.emp true .impl_Vip)]), (.box false [(.rs a0.z .u8 a0.n a0.f), (.bool a1)]), (.box false [(ii c.2.2.2.1), (.os 3 c.2.2.2.2.1), (.os 4 a2)]), (.row false .impl_Backend (e5 c).1 (e5 c).2), (.deep false .impl_Vip a3 a4 a5)]⟩) w.1 w.2.1 w.2.2.1 w.2.2.2.1 w.2.2.2.2.1 (e5 w).1 (e5 w).2 (fun q0 q1 q2 q3 q4 q5 q6 => go (q0, q1, q2, q3, q4, q5, q6))
def lp_a39 (fu : Nat) : Lp RT den (Yd6) := ⟨fun b s k => match b with | 0 => handle ps_a39_0 os_a39_0 conv_a39_0 (Bk_a39_0 fu) fu s k | 2 => handle ps_a39_2 os_a39_2 conv_a39_2 (Bk_a39_2 fu) fu s k | 4 => handle ps_a39_4 os_a39_4 conv_a39_4 (Bk_a39_4 fu) fu s k | _ => none, inl0⟩
def pso_a39 : List (Pat RT) := [.agg [(.int .i64), (.int .i64), (.os 0), (.os 1)]]
def oso_a39 : List (OP RT) := [.row false .impl_Backend, .deep false .impl_Vip]
def conv_a39 (r : Raw den pso_a39 oso_a39) : Yd6 := (r.1.1.1, r.1.1.2.1, r.1.1.2.2.1, r.1.1.2.2.2.1, r.2.1.1, r.2.1.2, r.2.2.1.1, r.2.2.1.2.2)
def enc_a39 (y : Yd6) : D RT den × List (Ob RT den) := ((.agg [(.int .i64 y.1), (.int .i64 y.2.1), (.os 0 y.2.2.1), (.os 1 y.2.2.2.1)]), [(.row false .impl_Backend y.2.2.2.2.1 y.2.2.2.2.2.1), (.deep false .impl_Vip y.2.2.2.2.2.2.1 y.2.2.2.2.2.2.1 y.2.2.2.2.2.2.2)])
def chk_a39 (r : Raw den pso_a39 oso_a39) : Bool := (decide (r.2.2.1.2.1 = r.2.2.1.1) && true)
def raw_a39 (r : Raw den pso_a39 oso_a39) : St RT den := ⟨[(.agg [(.int .i64 r.1.1.1), (.int .i64 r.1.1.2.1), (.os 0 r.1.1.2.2.1), (.os 1 r.1.1.2.2.2.1)])], [(.row false .impl_Backend r.2.1.1 r.2.1.2), (.deep false .impl_Vip r.2.2.1.1 r.2.2.1.2.1 r.2.2.1.2.2)]⟩
theorem chkd_a39 (r : Raw den pso_a39 oso_a39) (h : chk_a39 r = true) : raw_a39 r = ⟨[(enc_a39 (conv_a39 r)).1], (enc_a39 (conv_a39 r)).2⟩ := by
 simp only [chk_a39, Bool.and_eq_true, decide_eq_true_eq, and_true] at h
 simp only [raw_a39, enc_a39, conv_a39, h, e5, e10, e20, e40]
def out_a39 (d : D RT den) (os : List (Ob RT den)) : Option (Yd6) := (unSt pso_a39 oso_a39 ⟨[d], os⟩).bind fun v => bif chk_a39 v.1 then some (conv_a39 v.1) else none
theorem out_a39_enc (d : D RT den) (os : List (Ob RT den)) (y : Yd6) (h : out_a39 d os = some y) : d = (enc_a39 y).1 ∧ os = (enc_a39 y).2 :=
 outU (conv := conv_a39) (enc := enc_a39) (chk := chk_a39) (fun raw h => Eq.trans (by kernel_rfl) (chkd_a39 raw h)) h
theorem ev_a39 (fu : Nat) (data_0 : (Sl Int)) : evFunU E (pc_a39 fu) msk_a39 (lp_a39 fu) out_a39 8 [(.rs data_0.z .u8 data_0.n data_0.f)] [] = F_impl_UnpackConfig_U fu data_0 := by kernel_rfl
noncomputable def body_a39 : Code := Try.f8.body.getD .skip
noncomputable def lc_a39_0 : Code := ((loops 0 body_a39).getD 0 (0, .skip)).2
theorem round_a39_0 (fu : Nat) : RoundOk E (pc_a39 fu) msk_a39 (lp_a39 fu) 0 lc_a39_0 back_a39_0 0 100000 4 (Bk_a39_0 fu) := fun it k c w => by kernel_rfl
theorem lpok_a39_0 (fu : Nat) : LpAt E (pc_a39 fu) msk_a39 (lp_a39 fu) 0 0 100000 0 lc_a39_0 :=
 handle_ok (ps := ps_a39_0) (os := os_a39_0) (conv := conv_a39_0) (B := Bk_a39_0 fu) (fu := fu) back_a39_0 (fun raw => by kernel_rfl) 4 (fun c w => by kernel_rfl) (round_a39_0 fu)
noncomputable def lc_a39_2 : Code := ((loops 0 body_a39).getD 1 (0, .skip)).2
theorem round_a39_2 (fu : Nat) : RoundOk E (pc_a39 fu) msk_a39 (lp_a39 fu) 2 lc_a39_2 back_a39_2 2 100002 5 (Bk_a39_2 fu) := fun it k c w => by kernel_rfl
theorem lpok_a39_2 (fu : Nat) : LpAt E (pc_a39 fu) msk_a39 (lp_a39 fu) 2 2 100002 2 lc_a39_2 :=
 handle_ok (ps := ps_a39_2) (os := os_a39_2) (conv := conv_a39_2) (B := Bk_a39_2 fu) (fu := fu) back_a39_2 (fun raw => by kernel_rfl) 5 (fun c w => by kernel_rfl) (round_a39_2 fu)
noncomputable def lc_a39_4 : Code := ((loops 0 body_a39).getD 2 (0, .skip)).2
theorem round_a39_4 (fu : Nat) : RoundOk E (pc_a39 fu) msk_a39 (lp_a39 fu) 4 lc_a39_4 back_a39_4 4 100004 7 (Bk_a39_4 fu) := fun it k c w => by kernel_rfl
theorem lpok_a39_4 (fu : Nat) : LpAt E (pc_a39 fu) msk_a39 (lp_a39 fu) 4 4 100004 4 lc_a39_4 :=
 handle_ok (ps := ps_a39_4) (os := os_a39_4) (conv := conv_a39_4) (B := Bk_a39_4 fu) (fu := fu) back_a39_4 (fun raw => by kernel_rfl) 7 (fun c w => by kernel_rfl) (round_a39_4 fu)
theorem lpok_a39 (fu : Nat) : LpOk E (pc_a39 fu) 0 msk_a39 (lp_a39 fu) (loops 0 body_a39) := lp_nil (loop_all 3 (by kernel_rfl) fun i hi => match i, hi with
 | 0, _ => by
  have h : (loops 0 body_a39).getD 0 (0, .skip) = (0, lc_a39_0) := by kernel_rfl
  rw [h]; exact lpok_a39_0 fu
 | 1, _ => by
  have h : (loops 0 body_a39).getD 1 (0, .skip) = (2, lc_a39_2) := by kernel_rfl
  rw [h]; exact lpok_a39_2 fu
 | 2, _ => by
  have h : (loops 0 body_a39).getD 2 (0, .skip) = (4, lc_a39_4) := by kernel_rfl
  rw [h]; exact lpok_a39_4 fu
 | i + 3, hi => absurd hi (by omega)) (by kernel_rfl)
def S_a39 (fu : Nat) (xs : List (D RT den)) (ins : List (Ob RT den)) : Option (OutX RT den) := match xs, ins with | [.rs za0_0 .u8 na0_0 fa0_0], [] => some ⟨Yd6, F_impl_UnpackConfig_U fu (⟨za0_0, na0_0, fa0_0⟩ : (Sl Int)), enc_a39⟩ | _, _ => none
theorem hpc_a39 (fu : Nat) : HpcOk E Try.prog (pcf_a39 fu) := by
 intro f xs o h
 unfold pcf_a39 at h
 split at h
 ·exact good_a37 fu xs o h
 ·exact good_a38 fu xs o h
 ·cases h
theorem hpx_a39 (fu : Nat) : HpxOk E Try.prog pcd_a39 pcd0 (pcx_a39 fu) := by
 intro f xs ins o h
 unfold pcx_a39 at h
 split at h
 ·exact good_a18 fu xs ins o h
 ·exact good_a20 fu xs ins o h
 ·cases h
theorem goodv_a39 (fu : Nat) (data_0 : (Sl Int)) (y : Yd6) (hy : F_impl_UnpackConfig_U fu data_0 = some y) : GoodD E Try.prog 8 [(.rs data_0.z .u8 data_0.n data_0.f)] [] (enc_a39 y).1 (enc_a39 y).2 :=
 funU_good E_ok (pc_good (pc := pc_a39 fu) (hpc_a39 fu) (hpx_a39 fu)) (fn := Try.f8) (by kernel_rfl) (by kernel_rfl) (by kernel_rfl) (lpok_a39 fu) (by kernel_rfl) (Nat.le_of_ble_eq_true (by kernel_rfl)) (Fulls.get 0 (And.intro (Nat.le_refl _) trivial)) (fun d os hd => out_a39_enc d os _ hd) ((ev_a39 fu data_0).trans hy)
theorem good_a39 (fu : Nat) : GoodSD E Try.prog 8 (S_a39 fu) := by
 intro xs ins o h y hy
 unfold S_a39 at h
 split at h
 ·rename_i za0_0 na0_0 fa0_0
  cases h
  exact goodv_a39 fu (⟨za0_0, na0_0, fa0_0⟩ : (Sl Int)) y hy
 ·cases h
def F_laws_markByteS_L_B0 {ρ : Type} (fu a0_0 on0_3 : Nat) (k0 : Int → (Nat → Int) → Option ρ) (k1_1 i5_2 : Int) (of0_4 : (Nat → Int)) (go : Int → Int → (Nat → Int) → Option ρ) : Option ρ :=
 (bif (decide (i5_2 < ((a0_0 : Nat) : Int))) then ((bif (decide (0 ≤ i5_2) && decide ((Int.toNat i5_2) < a0_0)) then some () else none : Option Unit).bind fun _ => (go (IntKind.wrap .i64 (k1_1 + 1)) (IntKind.wrap .i64 (i5_2 + 1)) (fun j =>
  if j = (Int.toNat i5_2) then (IntKind.wrap .u8 k1_1) else of0_4 j))) else (k0 k1_1 of0_4))
def F_laws_markByteS_L (fu a_0_0 : Nat) (k_1_1 : Int) (rn0 : Nat) (rf0 : (Nat → Int)) : Option (Int × (Nat × (Nat → Int))) :=
 (L (fun w0 go0 => F_laws_markByteS_L_B0 fu a_0_0 rn0 (fun z435 z436 => (some (z435, (rn0, z436)))) w0.1 w0.2.1 w0.2.2 (fun q0 q1 q2 => go0 (q0, q1, q2))) fu ((k_1_1, 0, rf0) : Int × Int × (Nat → Int)))
def pc_b0 (fu : Nat) : Pc RT den := ⟨pcf0, fun _ => false, fun _ => false, pcd0, pcd0, pcd0, pcx0⟩
def msk_b0 (b : Nat) : List Nat := match b with | 0 => (2 :: 3 :: 4 :: (rg 6 14 [])) | 100000 => (0 :: 2 :: 3 :: (rg 5 15 [])) | _ => []
def ps_b0_0 : List (Pat RT) := (.flat (.os 0) :: .flat (.int .i64) :: .flat .q :: .flat .q :: .flat .q :: .flat (.int .i64) :: (fq 14 []))
def os_b0_0 : List (OP RT) := [.row true .u8]
def conv_b0_0 (r : Raw den ps_b0_0 os_b0_0) : (Nat × Nat) × (Int × Int × (Nat → Int)) := ((r.1.1, r.2.1.1), (r.1.2.1, (e5 r.1).1, r.2.1.2))
def back_b0_0 (c : Nat × Nat) (w : Int × Int × (Nat → Int)) : St RT den := ⟨((.os 0 c.1) :: (ii w.1) :: .q :: .q :: .q :: (ii w.2.1) :: (qs 14 [])), [(.row true .u8 c.2 w.2.2)]⟩
def Bk_b0_0 {ρ : Type} (fu : Nat) (c : Nat × Nat) (k : Ex → St RT den → Option ρ) (w : Int × Int × (Nat → Int)) (go : (Int × Int × (Nat → Int)) → Option ρ) : Option ρ := F_laws_markByteS_L_B0 fu c.1 c.2 (fun a0 a1 => k (.exit 0) ⟨(.q :: (ii a0) :: (qs 18 [])), [(.row true .u8 c.2 a1)]⟩) w.1 w.2.1 w.2.2 (fun q0 q1 q2 => go (q0, q1, q2))
def lp_b0 (fu : Nat) : Lp RT den (Int × (Nat × (Nat → Int))) := ⟨fun b s k => match b with | 0 => handle ps_b0_0 os_b0_0 conv_b0_0 (Bk_b0_0 fu) fu s k | _ => none, inl0⟩
def out_b0 (d : D RT den) (os : List (Ob RT den)) : Option (Int × (Nat × (Nat → Int))) := match d, os with | .int .i64 a0_0, [.row true .u8 n0 f0] => some (a0_0, (n0, f0)) | _, _ => none
def enc_b0 (y : Int × (Nat × (Nat → Int))) : D RT den × List (Ob RT den) := ((.int .i64 y.1), [(.row true .u8 y.2.1 y.2.2)])
theorem out_b0_enc (d : D RT den) (os : List (Ob RT den)) (y : Int × (Nat × (Nat → Int))) (h : out_b0 d os = some y) : (unh 1 d).1 = (enc_b0 y).1 ∧ os ++ (unh 1 d).2 = (enc_b0 y).2 := by
 unfold out_b0 at h
 split at h
 ·cases h; exact ⟨rfl, rfl⟩
 ·cases h
theorem ev_b0 (fu a_0_0 : Nat) (k_1_1 : Int) (rn0 : Nat) (rf0 : (Nat → Int)) : evFunX E false (pc_b0 fu) msk_b0 (lp_b0 fu) out_b0 11 [(.os 0 a_0_0), (ii k_1_1)] [(.row true .u8 rn0 rf0)] = F_laws_markByteS_L fu a_0_0 k_1_1 rn0 rf0 := by kernel_rfl
noncomputable def body_b0 : Code := Try.f11.body.getD .skip
noncomputable def lc_b0_0 : Code := ((loops 0 body_b0).getD 0 (0, .skip)).2
theorem round_b0_0 (fu : Nat) : RoundOk E (pc_b0 fu) msk_b0 (lp_b0 fu) 0 lc_b0_0 back_b0_0 0 100000 1 (Bk_b0_0 fu) := fun it k c w => by kernel_rfl
theorem lpok_b0_0 (fu : Nat) : LpAt E (pc_b0 fu) msk_b0 (lp_b0 fu) 0 0 100000 0 lc_b0_0 :=
 handle_ok (ps := ps_b0_0) (os := os_b0_0) (conv := conv_b0_0) (B := Bk_b0_0 fu) (fu := fu) back_b0_0 (fun raw => by kernel_rfl) 1 (fun c w => by kernel_rfl) (round_b0_0 fu)
theorem lpok_b0 (fu : Nat) : LpOk E (pc_b0 fu) 0 msk_b0 (lp_b0 fu) (loops 0 body_b0) := lp_nil (loop_all 1 (by kernel_rfl) fun i hi => match i, hi with
 | 0, _ => by
  have h : (loops 0 body_b0).getD 0 (0, .skip) = (0, lc_b0_0) := by kernel_rfl
  rw [h]; exact lpok_b0_0 fu
 | i + 1, hi => absurd hi (by omega)) (by kernel_rfl)
def S_b0 (fu : Nat) (xs : List (D RT den)) (ins : List (Ob RT den)) : Option (OutX RT den) := match xs, ins with | [.os 0 a0_0, .int .i64 a1_0], [.row true .u8 rn0 rf0] => some ⟨Int × (Nat × (Nat → Int)), F_laws_markByteS_L fu a0_0 a1_0 rn0 rf0, enc_b0⟩ | _, _ => none
theorem goodv_b0 (fu a_0_0 : Nat) (k_1_1 : Int) (rn0 : Nat) (rf0 : (Nat → Int)) (y : Int × (Nat × (Nat → Int))) (hy : F_laws_markByteS_L fu a_0_0 k_1_1 rn0 rf0 = some y) : GoodX E Try.prog 11 [(.os 0 a_0_0), (ii k_1_1)] [(.row true .u8 rn0 rf0)] (enc_b0 y).1 (enc_b0 y).2 :=
 funX_good (ke := false) E_ok (pc_good (pc := pc_b0 fu) hpc0 hpx0) (fn := Try.f11) (by kernel_rfl) (by kernel_rfl) (by kernel_rfl) (lpok_b0 fu) (by kernel_rfl) (Nat.le_refl _) (fun d os hd => out_b0_enc d os _ hd) ((ev_b0 fu a_0_0 k_1_1 rn0 rf0).trans hy)
theorem good_b0 (fu : Nat) : GoodSX E Try.prog 11 (S_b0 fu) := by
 intro xs ins o h y hy
 unfold S_b0 at h
 split at h
 ·rename_i a0_0 a1_0 rn0 rf0
  cases h
  exact goodv_b0 fu a0_0 a1_0 rn0 rf0 y hy
 ·cases h
def F_laws_markBackendS_U_B0 {ρ : Type} (fu a0_0 on0_3 : Nat) (k0 : Int → (Nat → S_impl_Backend) → Option ρ) (k1_1 i5_2 : Int) (of0_4 : (Nat → S_impl_Backend)) (go : Int → Int → (Nat → S_impl_Backend) → Option ρ) : Option ρ :=
 (bif (decide (i5_2 < ((a0_0 : Nat) : Int))) then ((bif (decide (0 ≤ i5_2) && decide ((Int.toNat i5_2) < a0_0)) then some () else none : Option Unit).bind fun _ => ((bif (decide (0 ≤ i5_2) &&
  decide ((Int.toNat i5_2) < a0_0)) then some () else none : Option Unit).bind fun _ => ((bif (decide (0 ≤ i5_2) && decide ((Int.toNat i5_2) < a0_0)) then some () else none : Option Unit).bind fun _ =>
  ((bif (decide (0 ≤ i5_2) && decide ((Int.toNat i5_2) < a0_0)) then some () else none : Option Unit).bind fun _ => ((bif (decide (0 ≤ i5_2) && decide ((Int.toNat i5_2) < a0_0)) then
  some () else none : Option Unit).bind fun _ => (go (IntKind.wrap .i64 ((IntKind.wrap .i64 ((IntKind.wrap .i64 ((IntKind.wrap .i64 ((IntKind.wrap .i64 (k1_1 + 1)) + 1)) + 1)) + 1)) + 1)) (IntKind.wrap .i64 (i5_2 + 1)) (upd_impl_Backend_4_1 (upd_impl_Backend_3_1 (upd_impl_Backend_2_1 (upd_impl_Backend_1_1 (upd_impl_Backend_0_1 of0_4 (Int.toNat i5_2) k1_1) (Int.toNat i5_2) (IntKind.wrap .i64 (k1_1 + 1))) (Int.toNat i5_2) (IntKind.wrap .i64 ((IntKind.wrap .i64 (k1_1 + 1)) + 1))) (Int.toNat i5_2) (IntKind.wrap .i64 ((IntKind.wrap .i64 ((IntKind.wrap .i64 (k1_1 + 1)) + 1)) + 1))) (Int.toNat i5_2) ((Int.tmod (IntKind.wrap .i64 ((IntKind.wrap .i64 ((IntKind.wrap .i64 ((IntKind.wrap .i64 (k1_1 + 1)) + 1)) + 1)) + 1)) 3) == 0)))))))) else
  (k0 k1_1 of0_4))
def F_laws_markBackendS_U (fu a_0_0 : Nat) (k_1 : Int) (rn0 : Nat) (rf0 : (Nat → S_impl_Backend)) : Option (Int × Nat × (Nat → S_impl_Backend)) :=
 (L (fun w0 go0 => F_laws_markBackendS_U_B0 fu a_0_0 rn0 (fun z440 z441 => (some (z440, rn0, z441))) w0.1 w0.2.1 w0.2.2 (fun q0 q1 q2 => go0 (q0, q1, q2))) fu ((k_1, 0, rf0) : Int × Int × (Nat → S_impl_Backend)))
def pc_b1 (fu : Nat) : Pc RT den := ⟨pcf0, fun _ => false, fun _ => false, pcd0, pcd0, pcd0, pcx0⟩
def msk_b1 (b : Nat) : List Nat := match b with | 0 => (2 :: 3 :: 4 :: (rg 6 44 [])) | 100000 => (0 :: 2 :: 3 :: (rg 5 45 [])) | _ => []
def ps_b1_0 : List (Pat RT) := (.flat (.os 0) :: .flat (.int .i64) :: .flat .q :: .flat .q :: .flat .q :: .flat (.int .i64) :: (fq 44 []))
def os_b1_0 : List (OP RT) := [.row true .impl_Backend]
def conv_b1_0 (r : Raw den ps_b1_0 os_b1_0) : (Nat × Nat) × (Int × Int × (Nat → S_impl_Backend)) := ((r.1.1, r.2.1.1), (r.1.2.1, (e5 r.1).1, r.2.1.2))
def back_b1_0 (c : Nat × Nat) (w : Int × Int × (Nat → S_impl_Backend)) : St RT den := ⟨((.os 0 c.1) :: (ii w.1) :: .q :: .q :: .q :: (ii w.2.1) :: (qs 44 [])), [(.row true .impl_Backend c.2 w.2.2)]⟩
def Bk_b1_0 {ρ : Type} (fu : Nat) (c : Nat × Nat) (k : Ex → St RT den → Option ρ) (w : Int × Int × (Nat → S_impl_Backend)) (go : (Int × Int × (Nat → S_impl_Backend)) → Option ρ) : Option ρ := F_laws_markBackendS_U_B0 fu c.1 c.2 (fun a0 a1 => k (.exit 0) ⟨(.q :: (ii a0) :: (qs 48 [])), [(.row true .impl_Backend c.2 a1)]⟩) w.1 w.2.1 w.2.2 (fun q0 q1 q2 => go (q0, q1, q2))
def lp_b1 (fu : Nat) : Lp RT den (Int × Nat × (Nat → S_impl_Backend)) := ⟨fun b s k => match b with | 0 => handle ps_b1_0 os_b1_0 conv_b1_0 (Bk_b1_0 fu) fu s k | _ => none, inl0⟩
def pso_b1 : List (Pat RT) := [.flat (.int .i64)]
def oso_b1 : List (OP RT) := [.row true .impl_Backend]
def conv_b1 (r : Raw den pso_b1 oso_b1) : Int × Nat × (Nat → S_impl_Backend) := (r.1.1, r.2.1.1, r.2.1.2)
def enc_b1 (y : Int × Nat × (Nat → S_impl_Backend)) : D RT den × List (Ob RT den) := ((.int .i64 y.1), [(.row true .impl_Backend y.2.1 y.2.2)])
def out_b1 (d : D RT den) (os : List (Ob RT den)) : Option (Int × Nat × (Nat → S_impl_Backend)) := (unSt pso_b1 oso_b1 ⟨[d], os⟩).bind fun v => some (conv_b1 v.1)
theorem out_b1_enc (d : D RT den) (os : List (Ob RT den)) (y : Int × Nat × (Nat → S_impl_Backend)) (h : out_b1 d os = some y) : d = (enc_b1 y).1 ∧ os = (enc_b1 y).2 :=
 outM (conv := conv_b1) (enc := enc_b1) (fun raw => by kernel_rfl) h
theorem ev_b1 (fu a_0_0 : Nat) (k_1 : Int) (rn0 : Nat) (rf0 : (Nat → S_impl_Backend)) : evFunU E (pc_b1 fu) msk_b1 (lp_b1 fu) out_b1 84 [(.os 0 a_0_0), (ii k_1)] [(.row true .impl_Backend rn0 rf0)] = F_laws_markBackendS_U fu a_0_0 k_1 rn0 rf0 := by kernel_rfl
noncomputable def body_b1 : Code := Try.f84.body.getD .skip
noncomputable def lc_b1_0 : Code := ((loops 0 body_b1).getD 0 (0, .skip)).2
theorem round_b1_0 (fu : Nat) : RoundOk E (pc_b1 fu) msk_b1 (lp_b1 fu) 0 lc_b1_0 back_b1_0 0 100000 1 (Bk_b1_0 fu) := fun it k c w => by kernel_rfl
theorem lpok_b1_0 (fu : Nat) : LpAt E (pc_b1 fu) msk_b1 (lp_b1 fu) 0 0 100000 0 lc_b1_0 :=
 handle_ok (ps := ps_b1_0) (os := os_b1_0) (conv := conv_b1_0) (B := Bk_b1_0 fu) (fu := fu) back_b1_0 (fun raw => by kernel_rfl) 1 (fun c w => by kernel_rfl) (round_b1_0 fu)
theorem lpok_b1 (fu : Nat) : LpOk E (pc_b1 fu) 0 msk_b1 (lp_b1 fu) (loops 0 body_b1) := lp_nil (loop_all 1 (by kernel_rfl) fun i hi => match i, hi with
 | 0, _ => by
  have h : (loops 0 body_b1).getD 0 (0, .skip) = (0, lc_b1_0) := by kernel_rfl
  rw [h]; exact lpok_b1_0 fu
 | i + 1, hi => absurd hi (by omega)) (by kernel_rfl)
def S_b1 (fu : Nat) (xs : List (D RT den)) (ins : List (Ob RT den)) : Option (OutX RT den) := match xs, ins with | [.os 0 a0_0, .int .i64 a1_0], [.row true .impl_Backend rn0 rf0] => some ⟨Int × Nat × (Nat → S_impl_Backend), F_laws_markBackendS_U fu a0_0 a1_0 rn0 rf0, enc_b1⟩ | _, _ => none
theorem goodv_b1 (fu a_0_0 : Nat) (k_1 : Int) (rn0 : Nat) (rf0 : (Nat → S_impl_Backend)) (y : Int × Nat × (Nat → S_impl_Backend)) (hy : F_laws_markBackendS_U fu a_0_0 k_1 rn0 rf0 = some y) : GoodD E Try.prog 84 [(.os 0 a_0_0), (ii k_1)] [(.row true .impl_Backend rn0 rf0)] (enc_b1 y).1 (enc_b1 y).2 :=
 funU_good E_ok (pc_good (pc := pc_b1 fu) hpc0 hpx0) (fn := Try.f84) (by kernel_rfl) (by kernel_rfl) (by kernel_rfl) (lpok_b1 fu) (by kernel_rfl) (Nat.le_of_ble_eq_true (by kernel_rfl)) (Fulls.get 1 trivial) (fun d os hd => out_b1_enc d os _ hd) ((ev_b1 fu a_0_0 k_1 rn0 rf0).trans hy)
theorem good_b1 (fu : Nat) : GoodSD E Try.prog 84 (S_b1 fu) := by
 intro xs ins o h y hy
 unfold S_b1 at h
 split at h
 ·rename_i a0_0 a1_0 rn0 rf0
  cases h
  exact goodv_b1 fu a0_0 a1_0 rn0 rf0 y hy
 ·cases h
def F_laws_markInt64S_U_B0 {ρ : Type} (fu a0_0 on0_3 : Nat) (k0 : Int → (Nat → Int) → Option ρ) (k1_1 i5_2 : Int) (of0_4 : (Nat → Int)) (go : Int → Int → (Nat → Int) → Option ρ) : Option ρ :=
 (bif (decide (i5_2 < ((a0_0 : Nat) : Int))) then ((bif (decide (0 ≤ i5_2) && decide ((Int.toNat i5_2) < a0_0)) then some () else none : Option Unit).bind fun _ => (go (IntKind.wrap .i64 (k1_1 + 1)) (IntKind.wrap .i64 (i5_2 + 1)) (fun j =>
  if j = (Int.toNat i5_2) then k1_1 else of0_4 j))) else (k0 k1_1 of0_4))
def F_laws_markInt64S_U (fu a_0_0 : Nat) (k_1 : Int) (rn0 : Nat) (rf0 : (Nat → Int)) : Option (Int × Nat × (Nat → Int)) :=
 (L (fun w0 go0 => F_laws_markInt64S_U_B0 fu a_0_0 rn0 (fun z443 z444 => (some (z443, rn0, z444))) w0.1 w0.2.1 w0.2.2 (fun q0 q1 q2 => go0 (q0, q1, q2))) fu ((k_1, 0, rf0) : Int × Int × (Nat → Int)))
def pc_b2 (fu : Nat) : Pc RT den := ⟨pcf0, fun _ => false, fun _ => false, pcd0, pcd0, pcd0, pcx0⟩
def msk_b2 (b : Nat) : List Nat := match b with | 0 => (2 :: 3 :: 4 :: (rg 6 13 [])) | 100000 => (0 :: 2 :: 3 :: (rg 5 14 [])) | _ => []
def ps_b2_0 : List (Pat RT) := (.flat (.os 0) :: .flat (.int .i64) :: .flat .q :: .flat .q :: .flat .q :: .flat (.int .i64) :: (fq 13 []))
def os_b2_0 : List (OP RT) := [.row true .i64]
def conv_b2_0 (r : Raw den ps_b2_0 os_b2_0) : (Nat × Nat) × (Int × Int × (Nat → Int)) := ((r.1.1, r.2.1.1), (r.1.2.1, (e5 r.1).1, r.2.1.2))
def back_b2_0 (c : Nat × Nat) (w : Int × Int × (Nat → Int)) : St RT den := ⟨((.os 0 c.1) :: (ii w.1) :: .q :: .q :: .q :: (ii w.2.1) :: (qs 13 [])), [(.row true .i64 c.2 w.2.2)]⟩
def Bk_b2_0 {ρ : Type} (fu : Nat) (c : Nat × Nat) (k : Ex → St RT den → Option ρ) (w : Int × Int × (Nat → Int)) (go : (Int × Int × (Nat → Int)) → Option ρ) : Option ρ := F_laws_markInt64S_U_B0 fu c.1 c.2 (fun a0 a1 => k (.exit 0) ⟨(.q :: (ii a0) :: (qs 17 [])), [(.row true .i64 c.2 a1)]⟩) w.1 w.2.1 w.2.2 (fun q0 q1 q2 => go (q0, q1, q2))
def lp_b2 (fu : Nat) : Lp RT den (Int × Nat × (Nat → Int)) := ⟨fun b s k => match b with | 0 => handle ps_b2_0 os_b2_0 conv_b2_0 (Bk_b2_0 fu) fu s k | _ => none, inl0⟩
def pso_b2 : List (Pat RT) := [.flat (.int .i64)]
def oso_b2 : List (OP RT) := [.row true .i64]
def conv_b2 (r : Raw den pso_b2 oso_b2) : Int × Nat × (Nat → Int) := (r.1.1, r.2.1.1, r.2.1.2)
def enc_b2 (y : Int × Nat × (Nat → Int)) : D RT den × List (Ob RT den) := ((.int .i64 y.1), [(.row true .i64 y.2.1 y.2.2)])
def out_b2 (d : D RT den) (os : List (Ob RT den)) : Option (Int × Nat × (Nat → Int)) := (unSt pso_b2 oso_b2 ⟨[d], os⟩).bind fun v => some (conv_b2 v.1)
theorem out_b2_enc (d : D RT den) (os : List (Ob RT den)) (y : Int × Nat × (Nat → Int)) (h : out_b2 d os = some y) : d = (enc_b2 y).1 ∧ os = (enc_b2 y).2 :=
 outM (conv := conv_b2) (enc := enc_b2) (fun raw => by kernel_rfl) h
theorem ev_b2 (fu a_0_0 : Nat) (k_1 : Int) (rn0 : Nat) (rf0 : (Nat → Int)) : evFunU E (pc_b2 fu) msk_b2 (lp_b2 fu) out_b2 124 [(.os 0 a_0_0), (ii k_1)] [(.row true .i64 rn0 rf0)] = F_laws_markInt64S_U fu a_0_0 k_1 rn0 rf0 := by kernel_rfl
noncomputable def body_b2 : Code := Try.f124.body.getD .skip
noncomputable def lc_b2_0 : Code := ((loops 0 body_b2).getD 0 (0, .skip)).2
theorem round_b2_0 (fu : Nat) : RoundOk E (pc_b2 fu) msk_b2 (lp_b2 fu) 0 lc_b2_0 back_b2_0 0 100000 1 (Bk_b2_0 fu) := fun it k c w => by kernel_rfl
theorem lpok_b2_0 (fu : Nat) : LpAt E (pc_b2 fu) msk_b2 (lp_b2 fu) 0 0 100000 0 lc_b2_0 :=
 handle_ok (ps := ps_b2_0) (os := os_b2_0) (conv := conv_b2_0) (B := Bk_b2_0 fu) (fu := fu) back_b2_0 (fun raw => by kernel_rfl) 1 (fun c w => by kernel_rfl) (round_b2_0 fu)
theorem lpok_b2 (fu : Nat) : LpOk E (pc_b2 fu) 0 msk_b2 (lp_b2 fu) (loops 0 body_b2) := lp_nil (loop_all 1 (by kernel_rfl) fun i hi => match i, hi with
 | 0, _ => by
  have h : (loops 0 body_b2).getD 0 (0, .skip) = (0, lc_b2_0) := by kernel_rfl
  rw [h]; exact lpok_b2_0 fu
 | i + 1, hi => absurd hi (by omega)) (by kernel_rfl)
def S_b2 (fu : Nat) (xs : List (D RT den)) (ins : List (Ob RT den)) : Option (OutX RT den) := match xs, ins with | [.os 0 a0_0, .int .i64 a1_0], [.row true .i64 rn0 rf0] => some ⟨Int × Nat × (Nat → Int), F_laws_markInt64S_U fu a0_0 a1_0 rn0 rf0, enc_b2⟩ | _, _ => none
theorem goodv_b2 (fu a_0_0 : Nat) (k_1 : Int) (rn0 : Nat) (rf0 : (Nat → Int)) (y : Int × Nat × (Nat → Int)) (hy : F_laws_markInt64S_U fu a_0_0 k_1 rn0 rf0 = some y) : GoodD E Try.prog 124 [(.os 0 a_0_0), (ii k_1)] [(.row true .i64 rn0 rf0)] (enc_b2 y).1 (enc_b2 y).2 :=
 funU_good E_ok (pc_good (pc := pc_b2 fu) hpc0 hpx0) (fn := Try.f124) (by kernel_rfl) (by kernel_rfl) (by kernel_rfl) (lpok_b2 fu) (by kernel_rfl) (Nat.le_of_ble_eq_true (by kernel_rfl)) (Fulls.get 1 trivial) (fun d os hd => out_b2_enc d os _ hd) ((ev_b2 fu a_0_0 k_1 rn0 rf0).trans hy)
theorem good_b2 (fu : Nat) : GoodSD E Try.prog 124 (S_b2 fu) := by
 intro xs ins o h y hy
 unfold S_b2 at h
 split at h
 ·rename_i a0_0 a1_0 rn0 rf0
  cases h
  exact goodv_b2 fu a0_0 a1_0 rn0 rf0 y hy
 ·cases h
end Go.Proofs.Ytcmfekgdlaffkaa.Pc
