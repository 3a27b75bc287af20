/- The functions' evaluated forms, each a proved summary. Conditions: none. -/
import Derived.Test.YtcmfekgdlaffkaaGreatDoorPxF4
namespace Go.Proofs.YtcmfekgdlaffkaaGreatDoor.Px
open Go Go.RowKit Go.Proofs Vm
set_option linter.unusedVariables false
set_option linter.unusedSimpArgs false
set_option maxRecDepth 100000
abbrev Yf0 : Type := (Sl S_impl_Vip) × Int × Int × Int × Int
abbrev Yf1 : Type := (Sl S_impl_Held) × Int × Int × Int × Int × Int × Int × Int × Int
abbrev Yf2 : Type := (Sl S_impl_Vip) × Int × Int × (Sl S_impl_Backend) × (Sl S_impl_Vip)
abbrev Yf3 : Type := (Sl S_impl_Backend) × Int × Int × (Sl S_impl_Backend) × (Sl S_impl_Vip)
abbrev Yf4 : Type := (Sl S_impl_Vip) × Int × Int × Int × (Sl S_impl_Backend) × (Sl S_impl_Vip) × Int × Int × Int × (Sl Int)
def F_impl_ConfigFault_B1 {ρ : Type} (fu : Nat) (t25_0 : (Sl S_impl_Backend)) (t26_1 o0_3 : Int) (o0_4 : (Sl S_impl_Backend)) (o0_5 : (Sl S_impl_Vip)) (k0 : Int → Int → Int → Int → Bool → Option ρ) (k1 : Int → Int → Int → Int → Bool → Option ρ) (k2 : Option ρ) (t27_2 : Int) (go : Int → Option ρ) : Option ρ :=
 (bif (decide (t27_2 < t26_1)) then ((bif (decide (0 ≤ t27_2) && decide ((Int.toNat t27_2) < t25_0.n)) then some () else none : Option Unit).bind fun _ => ((F_impl_isBackend fu (t25_0.f (Int.toNat t27_2))).bind fun y275 =>
  (bif (!y275) then (k0 (t25_0.f (Int.toNat t27_2)).Name (t25_0.f (Int.toNat t27_2)).Address (t25_0.f (Int.toNat t27_2)).Weight (t25_0.f (Int.toNat t27_2)).Stage (t25_0.f (Int.toNat t27_2)).Up) else
  (((bif (decide (t27_2 > 0)) then ((bif (decide (0 ≤ (IntKind.wrap .i64 (t27_2 - 1))) && decide ((Int.toNat (IntKind.wrap .i64 (t27_2 - 1))) < o0_4.n)) then some () else none : Option Unit).bind fun _ =>
  (some (decide ((t25_0.f (Int.toNat t27_2)).Name ≤ (o0_4.f (Int.toNat (IntKind.wrap .i64 (t27_2 - 1)))).Name)))) else (some false)) : Option Bool).bind fun m276 => (bif m276 then
  (k1 (t25_0.f (Int.toNat t27_2)).Name (t25_0.f (Int.toNat t27_2)).Address (t25_0.f (Int.toNat t27_2)).Weight (t25_0.f (Int.toNat t27_2)).Stage (t25_0.f (Int.toNat t27_2)).Up) else
  (go (IntKind.wrap .i64 (t27_2 + 1)))))))) else k2)
def F_impl_ConfigFault_B5 {ρ : Type} (fu : Nat) (t51_1 : (Sl S_impl_Vip)) (t52_2 t53_3 o0_4 : Int) (o0_5 : (Sl S_impl_Backend)) (o0_6 : (Sl S_impl_Vip)) (o1_7 o1_8 o1_9 : Int) (o1_10 : (Sl Int)) (k0 : Option ρ) (k1 : Option ρ) (k7_0 : Int) (go : Int → Option ρ) : Option ρ :=
 (bif (decide (k7_0 < ((o1_10.n : Nat) : Int))) then ((bif (decide (0 ≤ k7_0) && decide ((Int.toNat k7_0) < o1_10.n)) then some () else none : Option Unit).bind fun _ => ((bif (decide (0 ≤ (IntKind.wrap .i64 (k7_0 - 1))) &&
  decide ((Int.toNat (IntKind.wrap .i64 (k7_0 - 1))) < o1_10.n)) then some () else none : Option Unit).bind fun _ => (bif (decide ((o1_10.f (Int.toNat k7_0)) ≤ (o1_10.f (Int.toNat (IntKind.wrap .i64 (k7_0 - 1)))))) then
  k0 else (go (IntKind.wrap .i64 (k7_0 + 1)))))) else k1)
def F_impl_ConfigFault_B3 {ρ : Type} (fu : Nat) (t51_0 : (Sl S_impl_Vip)) (t52_1 o0_3 : Int) (o0_4 : (Sl S_impl_Backend)) (o0_5 : (Sl S_impl_Vip)) (k0 : Int → Int → Int → (Sl Int) → Option ρ) (k1 : Int → Int → Int → (Sl Int) → Option ρ) (k2 : Int → Int → Int → (Sl Int) → Option ρ) (k3 : Option ρ) (t53_2 : Int) (go : Int → Option ρ) : Option ρ :=
 (bif (decide (t53_2 < t52_1)) then ((bif (decide (0 ≤ t53_2) && decide ((Int.toNat t53_2) < t51_0.n)) then some () else none : Option Unit).bind fun _ => ((((F_impl_isAddress fu (t51_0.f (Int.toNat t53_2)).Address).bind fun y287 =>
  (bif (!y287) then (some true) else ((F_impl_isPort fu (t51_0.f (Int.toNat t53_2)).Port).bind fun y288 => (bif (!y288) then (some true) else ((F_impl_isProto fu (t51_0.f (Int.toNat t53_2)).Proto).bind fun y289 =>
  (some (!y289))))))) : Option Bool).bind fun m290 => (bif m290 then (k0 (t51_0.f (Int.toNat t53_2)).Address (t51_0.f (Int.toNat t53_2)).Port (t51_0.f (Int.toNat t53_2)).Proto (t51_0.f (Int.toNat t53_2)).Names) else
  (((bif (decide (t53_2 > 0)) then ((bif (decide (0 ≤ (IntKind.wrap .i64 (t53_2 - 1))) && decide ((Int.toNat (IntKind.wrap .i64 (t53_2 - 1))) < o0_5.n)) then some () else none : Option Unit).bind fun _ =>
  ((F_impl_compareVip fu (o0_5.f (Int.toNat (IntKind.wrap .i64 (t53_2 - 1)))) (t51_0.f (Int.toNat t53_2))).bind fun y291 => (some (decide (y291 ≥ 0))))) else (some false)) : Option Bool).bind fun m292 =>
  (bif m292 then (k1 (t51_0.f (Int.toNat t53_2)).Address (t51_0.f (Int.toNat t53_2)).Port (t51_0.f (Int.toNat t53_2)).Proto (t51_0.f (Int.toNat t53_2)).Names) else
  ((F_slices_ContainsFunc_int64_int64_w_impl_ConfigFault_c1 fu (t51_0.f (Int.toNat t53_2)).Names o0_3 o0_4 o0_5).bind fun y293 => (bif y293 then (k2 (t51_0.f (Int.toNat t53_2)).Address (t51_0.f (Int.toNat t53_2)).Port (t51_0.f (Int.toNat t53_2)).Proto (t51_0.f (Int.toNat t53_2)).Names) else
  (L (fun w5 go5 => F_impl_ConfigFault_B5 fu t51_0 t52_1 t53_2 o0_3 o0_4 o0_5 ((t51_0.f (Int.toNat t53_2)).Address) ((t51_0.f (Int.toNat t53_2)).Port) ((t51_0.f (Int.toNat t53_2)).Proto) ((t51_0.f (Int.toNat t53_2)).Names) ((k1 (t51_0.f (Int.toNat t53_2)).Address (t51_0.f (Int.toNat t53_2)).Port (t51_0.f (Int.toNat t53_2)).Proto (t51_0.f (Int.toNat t53_2)).Names)) ((go (IntKind.wrap .i64 (t53_2 + 1)))) w5 go5) fu (1 : Int))))))))) else
  k3)
def F_impl_ConfigFault (fu : Nat) (c_0 : S_impl_Config) : Option (Int) :=
 ((F_impl_in fu c_0.Version 0 1000000).bind fun y273 => (bif (!y273) then (some 3) else (((bif (decide (((c_0.Backends.n : Nat) : Int) > 8)) then (some true) else (some (decide (((c_0.Vips.n : Nat) : Int) > 4)))) : Option Bool).bind fun m274 =>
  (bif m274 then (some 2) else (L (fun w1 go1 => F_impl_ConfigFault_B1 fu c_0.Backends ((c_0.Backends.n : Nat) : Int) c_0.Version c_0.Backends c_0.Vips (fun z277 z278 z279 z280 z281 =>
  (some 3)) (fun z282 z283 z284 z285 z286 => (some 1)) (L (fun w3 go3 => F_impl_ConfigFault_B3 fu c_0.Vips ((c_0.Vips.n : Nat) : Int) c_0.Version c_0.Backends c_0.Vips (fun z294 z295 z296 z297 =>
  (some 3)) (fun z298 z299 z300 z301 => (some 1)) (fun z302 z303 z304 z305 => (some 4)) (some 0) w3 go3) fu (0 : Int)) w1 go1) fu (0 : Int))))))
def pcf_c6 (fu f : Nat) (xs : List (D RT den)) : Option (Out RT den) := match f with | 37 => S_b33 fu xs | 38 => S_b32 fu xs | 91 => S_b36 fu xs | 92 => S_b37 fu xs | 93 => S_b38 fu xs | 94 => S_c2 fu xs | 95 => S_c5 fu xs | _ => none
def pc_c6 (fu : Nat) : Pc RT den := ⟨pcf_c6 fu, fun _ => false, fun _ => false, pcd0, pcd0, pcd0, pcx0⟩
def msk_c6 (b : Nat) : List Nat := match b with | 1 => (0 :: (rg 2 23 (rg 28 83 []))) | 100001 => (0 :: (rg 3 108 [])) | 3 => (0 :: (rg 2 49 (rg 54 57 []))) | 100003 => (0 :: 1 :: (rg 3 108 [])) | 5 => (0 :: 2 :: 3 :: 4 :: 5 :: (rg 8 43 (rg 54 57 []))) | 100005 => (0 :: (rg 3 48 (rg 54 57 []))) | 200003 => [13] | 200010 => [48] | 200016 => [73] | 200018 => [86] | _ => []
def ps_c6_1 : List (Pat RT) := (.flat .q :: .flat (.ref 0 0) :: (fq 23 (.flat (.rs .impl_Backend) :: .flat (.int .i64) :: .flat (.int .i64) :: (fq 83 []))))
def os_c6_1 : List (OP RT) := [.box false [(.int .i64), (.rs .impl_Backend), (.rs .impl_Vip)]]
def conv_c6_1 (r : Raw den ps_c6_1 os_c6_1) : (Yf3) × (Int) := (((e5 (e20 r.1)).1, (e5 (e20 r.1)).2.1, r.2.1.1, r.2.1.2.1, r.2.1.2.2.1), (e5 (e20 r.1)).2.2.1)
def back_c6_1 (c : Yf3) (w : Int) : St RT den := ⟨(.q :: (.ref 0 0) :: (qs 23 ((.rs c.1.z .impl_Backend c.1.n c.1.f) :: (ii c.2.1) :: (ii w) :: (qs 83 [])))), [(.box false [(ii c.2.2.1), (.rs c.2.2.2.1.z .impl_Backend c.2.2.2.1.n c.2.2.2.1.f), (.rs c.2.2.2.2.z .impl_Vip c.2.2.2.2.n c.2.2.2.2.f)])]⟩
def Bk_c6_1 {ρ : Type} (fu : Nat) (c : Yf3) (k : Ex → St RT den → Option ρ) (w : Int) (go : (Int) → Option ρ) : Option ρ := F_impl_ConfigFault_B1 fu c.1 c.2.1 c.2.2.1 c.2.2.2.1 c.2.2.2.2 (fun a0 a1 a2 a3 a4 => k .ret ⟨(.q :: (.ref 0 0) :: (ii 3) :: (qs 108 [])), [(.box false [(ii c.2.2.1), (.rs c.2.2.2.1.z .impl_Backend c.2.2.2.1.n c.2.2.2.1.f), (.rs c.2.2.2.2.z .impl_Vip c.2.2.2.2.n c.2.2.2.2.f)]), (.box false [(ii a0), (ii a1), (ii a2), (ii a3), (.bool a4)])]⟩) (fun a0 a1 a2 a3 a4 => k .ret ⟨(.q :: (.ref 0 0) :: (ii 1) :: (qs 108 [])), [(.box false [(ii c.2.2.1), (.rs c.2.2.2.1.z .impl_Backend c.2.2.2.1.n c.2.2.2.1.f), (.rs c.2.2.2.2.z .impl_Vip c.2.2.2.2.n c.2.2.2.2.f)]), (.box false [(ii a0), (ii a1), (ii a2), (ii a3), (.bool a4)])]⟩) (k (.exit 1) ⟨(.q :: (.ref 0 0) :: (qs 109 [])), [(.box false [(ii c.2.2.1), (.rs c.2.2.2.1.z .impl_Backend c.2.2.2.1.n c.2.2.2.1.f), (.rs c.2.2.2.2.z .impl_Vip c.2.2.2.2.n c.2.2.2.2.f)])]⟩) w go
def ps_c6_5 : List (Pat RT) := (.flat .q :: .flat (.ref 0 0) :: (fq 4 (.flat (.ref 1 0) :: .flat (.int .i64) :: (fq 43 (.flat (.rs .impl_Vip) :: .flat (.int .i64) :: .flat (.int .i64) :: (fq 57 []))))))
def os_c6_5 : List (OP RT) := [.box false [(.int .i64), (.rs .impl_Backend), (.rs .impl_Vip)], .box false [(.int .i64), (.int .i64), (.int .i64), (.rs .i64)]]
def conv_c6_5 (r : Raw den ps_c6_5 os_c6_5) : (Yf4) × (Int) := (((e10 (e40 r.1)).2.1, (e10 (e40 r.1)).2.2.1, (e10 (e40 r.1)).2.2.2.1, r.2.1.1, r.2.1.2.1, r.2.1.2.2.1, r.2.2.1.1, r.2.2.1.2.1, r.2.2.1.2.2.1, r.2.2.1.2.2.2.1), (e5 r.1).2.2.1)
def back_c6_5 (c : Yf4) (w : Int) : St RT den := ⟨(.q :: (.ref 0 0) :: (qs 4 ((.ref 1 0) :: (ii w) :: (qs 43 ((.rs c.1.z .impl_Vip c.1.n c.1.f) :: (ii c.2.1) :: (ii c.2.2.1) :: (qs 57 [])))))), [(.box false [(ii c.2.2.2.1), (.rs c.2.2.2.2.1.z .impl_Backend c.2.2.2.2.1.n c.2.2.2.2.1.f), (.rs (e5 c).1.z .impl_Vip (e5 c).1.n (e5 c).1.f)]), (.box false [(ii (e5 c).2.1), (ii (e5 c).2.2.1), (ii (e5 c).2.2.2.1), (.rs (e5 c).2.2.2.2.z .i64 (e5 c).2.2.2.2.n (e5 c).2.2.2.2.f)])]⟩
def Bk_c6_5 {ρ : Type} (fu : Nat) (c : Yf4) (k : Ex → St RT den → Option ρ) (w : Int) (go : (Int) → Option ρ) : Option ρ := F_impl_ConfigFault_B5 fu c.1 c.2.1 c.2.2.1 c.2.2.2.1 c.2.2.2.2.1 (e5 c).1 (e5 c).2.1 (e5 c).2.2.1 (e5 c).2.2.2.1 (e5 c).2.2.2.2 (k .ret ⟨(.q :: (.ref 0 0) :: (ii 1) :: (qs 48 ((.rs c.1.z .impl_Vip c.1.n c.1.f) :: (ii c.2.1) :: (ii c.2.2.1) :: (qs 57 [])))), [(.box false [(ii c.2.2.2.1), (.rs c.2.2.2.2.1.z .impl_Backend c.2.2.2.2.1.n c.2.2.2.2.1.f), (.rs (e5 c).1.z .impl_Vip (e5 c).1.n (e5 c).1.f)]), (.box false [(ii (e5 c).2.1), (ii (e5 c).2.2.1), (ii (e5 c).2.2.2.1), (.rs (e5 c).2.2.2.2.z .i64 (e5 c).2.2.2.2.n (e5 c).2.2.2.2.f)])]⟩) (k (.exit 5) ⟨(.q :: (.ref 0 0) :: (qs 49 ((.rs c.1.z .impl_Vip c.1.n c.1.f) :: (ii c.2.1) :: (ii c.2.2.1) :: (qs 57 [])))), [(.box false [(ii c.2.2.2.1), (.rs c.2.2.2.2.1.z .impl_Backend c.2.2.2.2.1.n c.2.2.2.2.1.f), (.rs (e5 c).1.z .impl_Vip (e5 c).1.n (e5 c).1.f)]), (.box false [(ii (e5 c).2.1), (ii (e5 c).2.2.1), (ii (e5 c).2.2.2.1), (.rs (e5 c).2.2.2.2.z .i64 (e5 c).2.2.2.2.n (e5 c).2.2.2.2.f)])]⟩) w go
def ps_c6_3 : List (Pat RT) := (.flat .q :: .flat (.ref 0 0) :: (fq 49 (.flat (.rs .impl_Vip) :: .flat (.int .i64) :: .flat (.int .i64) :: (fq 57 []))))
def os_c6_3 : List (OP RT) := [.box false [(.int .i64), (.rs .impl_Backend), (.rs .impl_Vip)]]
def conv_c6_3 (r : Raw den ps_c6_3 os_c6_3) : (Yf2) × (Int) := (((e10 (e40 r.1)).2.1, (e10 (e40 r.1)).2.2.1, r.2.1.1, r.2.1.2.1, r.2.1.2.2.1), (e10 (e40 r.1)).2.2.2.1)
def back_c6_3 (c : Yf2) (w : Int) : St RT den := ⟨(.q :: (.ref 0 0) :: (qs 49 ((.rs c.1.z .impl_Vip c.1.n c.1.f) :: (ii c.2.1) :: (ii w) :: (qs 57 [])))), [(.box false [(ii c.2.2.1), (.rs c.2.2.2.1.z .impl_Backend c.2.2.2.1.n c.2.2.2.1.f), (.rs c.2.2.2.2.z .impl_Vip c.2.2.2.2.n c.2.2.2.2.f)])]⟩
def Bk_c6_3 {ρ : Type} (fu : Nat) (c : Yf2) (k : Ex → St RT den → Option ρ) (w : Int) (go : (Int) → Option ρ) : Option ρ := F_impl_ConfigFault_B3 fu c.1 c.2.1 c.2.2.1 c.2.2.2.1 c.2.2.2.2 (fun a0 a1 a2 a3 => k .ret ⟨(.q :: .q :: (ii 3) :: (qs 108 [])), [(.box false [(ii c.2.2.1), (.rs c.2.2.2.1.z .impl_Backend c.2.2.2.1.n c.2.2.2.1.f), (.rs c.2.2.2.2.z .impl_Vip c.2.2.2.2.n c.2.2.2.2.f)]), (.box false [(ii a0), (ii a1), (ii a2), (.rs a3.z .i64 a3.n a3.f)])]⟩) (fun a0 a1 a2 a3 => k .ret ⟨(.q :: .q :: (ii 1) :: (qs 108 [])), [(.box false [(ii c.2.2.1), (.rs c.2.2.2.1.z .impl_Backend c.2.2.2.1.n c.2.2.2.1.f), (.rs c.2.2.2.2.z .impl_Vip c.2.2.2.2.n c.2.2.2.2.f)]), (.box false [(ii a0), (ii a1), (ii a2), (.rs a3.z .i64 a3.n a3.f)])]⟩) (fun a0 a1 a2 a3 => k .ret ⟨(.q :: .q :: (ii 4) :: (qs 108 [])), [(.box false [(ii c.2.2.1), (.rs c.2.2.2.1.z .impl_Backend c.2.2.2.1.n c.2.2.2.1.f), (.rs c.2.2.2.2.z .impl_Vip c.2.2.2.2.n c.2.2.2.2.f)]), (.box false [(ii a0), (ii a1), (ii a2), (.rs a3.z .i64 a3.n a3.f)])]⟩) (k (.exit 3) ⟨(qs 111 []), [(.box false [(ii c.2.2.1), (.rs c.2.2.2.1.z .impl_Backend c.2.2.2.1.n c.2.2.2.1.f), (.rs c.2.2.2.2.z .impl_Vip c.2.2.2.2.n c.2.2.2.2.f)])]⟩) w go
def lp_c6 (fu : Nat) : Lp RT den (Int) := ⟨fun b s k => match b with | 1 => handle ps_c6_1 os_c6_1 conv_c6_1 (Bk_c6_1 fu) fu s k | 3 => handle ps_c6_3 os_c6_3 conv_c6_3 (Bk_c6_3 fu) fu s k | 5 => handle ps_c6_5 os_c6_5 conv_c6_5 (Bk_c6_5 fu) fu s k | _ => none, inl0⟩
theorem ev_c6 (fu : Nat) (c_0 : S_impl_Config) : evFun E (pc_c6 fu) msk_c6 (lp_c6 fu) out_i64 66 [(.agg [(ii c_0.Version), (.rs c_0.Backends.z .impl_Backend c_0.Backends.n c_0.Backends.f), (.rs c_0.Vips.z .impl_Vip c_0.Vips.n c_0.Vips.f)])] = F_impl_ConfigFault fu c_0 := by kernel_rfl
noncomputable def body_c6 : Code := Tryz.f66.body.getD .skip
noncomputable def lc_c6_1 : Code := ((loops 0 body_c6).getD 0 (0, .skip)).2
theorem round_c6_1 (fu : Nat) : RoundOk E (pc_c6 fu) msk_c6 (lp_c6 fu) 1 lc_c6_1 back_c6_1 1 100001 1 (Bk_c6_1 fu) := fun it k c w => by kernel_rfl
theorem lpok_c6_1 (fu : Nat) : LpAt E (pc_c6 fu) msk_c6 (lp_c6 fu) 1 1 100001 1 lc_c6_1 :=
 handle_ok (ps := ps_c6_1) (os := os_c6_1) (conv := conv_c6_1) (B := Bk_c6_1 fu) (fu := fu) back_c6_1 (fun raw => by kernel_rfl) 1 (fun c w => by kernel_rfl) (round_c6_1 fu)
noncomputable def lc_c6_3 : Code := ((loops 0 body_c6).getD 1 (0, .skip)).2
theorem round_c6_3 (fu : Nat) : RoundOk E (pc_c6 fu) msk_c6 (lp_c6 fu) 3 lc_c6_3 back_c6_3 3 100003 1 (Bk_c6_3 fu) := fun it k c w => by kernel_rfl
theorem lpok_c6_3 (fu : Nat) : LpAt E (pc_c6 fu) msk_c6 (lp_c6 fu) 3 3 100003 3 lc_c6_3 :=
 handle_ok (ps := ps_c6_3) (os := os_c6_3) (conv := conv_c6_3) (B := Bk_c6_3 fu) (fu := fu) back_c6_3 (fun raw => by kernel_rfl) 1 (fun c w => by kernel_rfl) (round_c6_3 fu)
noncomputable def lc_c6_5 : Code := ((loops 0 body_c6).getD 2 (0, .skip)).2
theorem round_c6_5 (fu : Nat) : RoundOk E (pc_c6 fu) msk_c6 (lp_c6 fu) 5 lc_c6_5 back_c6_5 5 100005 2 (Bk_c6_5 fu) := fun it k c w => by kernel_rfl
theorem lpok_c6_5 (fu : Nat) : LpAt E (pc_c6 fu) msk_c6 (lp_c6 fu) 5 5 100005 5 lc_c6_5 :=
 handle_ok (ps := ps_c6_5) (os := os_c6_5) (conv := conv_c6_5) (B := Bk_c6_5 fu) (fu := fu) back_c6_5 (fun raw => by kernel_rfl) 2 (fun c w => by kernel_rfl) (round_c6_5 fu)
theorem lpok_c6 (fu : Nat) : LpOk E (pc_c6 fu) 0 msk_c6 (lp_c6 fu) (loops 0 body_c6) := lp_nil (loop_all 3 (by kernel_rfl) fun i hi => match i, hi with
 | 0, _ => by
  have h : (loops 0 body_c6).getD 0 (0, .skip) = (1, lc_c6_1) := by kernel_rfl
  rw [h]; exact lpok_c6_1 fu
 | 1, _ => by
  have h : (loops 0 body_c6).getD 1 (0, .skip) = (3, lc_c6_3) := by kernel_rfl
  rw [h]; exact lpok_c6_3 fu
 | 2, _ => by
  have h : (loops 0 body_c6).getD 2 (0, .skip) = (5, lc_c6_5) := by kernel_rfl
  rw [h]; exact lpok_c6_5 fu
 | i + 3, hi => absurd hi (by omega)) (by kernel_rfl)
def S_c6 (fu : Nat) (xs : List (D RT den)) : Option (Out RT den) := match xs with | [.agg [.int .i64 a0_1, .rs za0_2 .impl_Backend na0_2 fa0_2, .rs za0_3 .impl_Vip na0_3 fa0_3]] => some ⟨Int, F_impl_ConfigFault fu (⟨a0_1, (⟨za0_2, na0_2, fa0_2⟩ : (Sl S_impl_Backend)), (⟨za0_3, na0_3, fa0_3⟩ : (Sl S_impl_Vip))⟩ : S_impl_Config), enc_i64, fun _ => true⟩ | _ => none
theorem hpc_c6 (fu : Nat) : HpcOk E Tryz.prog (pcf_c6 fu) := by
 intro f xs o h
 unfold pcf_c6 at h
 split at h
 ·exact good_b33 fu xs o h
 ·exact good_b32 fu xs o h
 ·exact good_b36 fu xs o h
 ·exact good_b37 fu xs o h
 ·exact good_b38 fu xs o h
 ·exact good_c2 fu xs o h
 ·exact good_c5 fu xs o h
 ·cases h
theorem goodv_c6 (fu : Nat) (c_0 : S_impl_Config) (y : Int) (hy : F_impl_ConfigFault fu c_0 = some y) : Vm.Good E Tryz.prog 66 [(.agg [(ii c_0.Version), (.rs c_0.Backends.z .impl_Backend c_0.Backends.n c_0.Backends.f), (.rs c_0.Vips.z .impl_Vip c_0.Vips.n c_0.Vips.f)])] (enc_i64 y) :=
 fun_good E_ok (pc_good (pc := pc_c6 fu) (hpc_c6 fu) hpx0) (fn := Tryz.f66) (by kernel_rfl) (by kernel_rfl) (by kernel_rfl) (lpok_c6 fu) (fun d hd => out_i64_enc d _ hd) ((ev_c6 fu c_0).trans hy)
theorem good_c6 (fu : Nat) : GoodS E Tryz.prog 66 (S_c6 fu) := by
 intro xs o h y hy
 unfold S_c6 at h
 split at h
 ·rename_i a0_1 za0_2 na0_2 fa0_2 za0_3 na0_3 fa0_3
  cases h
  exact goodv_c6 fu (⟨a0_1, (⟨za0_2, na0_2, fa0_2⟩ : (Sl S_impl_Backend)), (⟨za0_3, na0_3, fa0_3⟩ : (Sl S_impl_Vip))⟩ : S_impl_Config) y hy
 ·cases h
def F_impl_WatchFault (fu : Nat) (w_0 : S_impl_Watch) : Option (Int) :=
 ((F_impl_ConfigFault fu w_0.Config).bind fun y269 => (bif (y269 != 0) then (some y269) else (((bif (!w_0.Ready) then ((F_impl_Config_isZero fu w_0.Config).bind fun y271 => (some (!y271))) else
  (some false)) : Option Bool).bind fun m272 => (bif m272 then (some 1) else (some 0)))))
def pcf_c7 (fu f : Nat) (xs : List (D RT den)) : Option (Out RT den) := match f with | 66 => S_c6 fu xs | 67 => S_b34 fu xs | _ => none
def pc_c7 (fu : Nat) : Pc RT den := ⟨pcf_c7 fu, fun _ => false, fun _ => false, pcd0, pcd0, pcd0, pcx0⟩
def msk_c7 (b : Nat) : List Nat := match b with | 200004 => [17] | _ => []
def lp_c7 (fu : Nat) : Lp RT den (Int) := ⟨fun b s k => none, inl0⟩
theorem ev_c7 (fu : Nat) (w_0 : S_impl_Watch) : evFun E (pc_c7 fu) msk_c7 (lp_c7 fu) out_i64 39 [(.agg [(.bool w_0.Ready), (ii w_0.Config.Version), (.rs w_0.Config.Backends.z .impl_Backend w_0.Config.Backends.n w_0.Config.Backends.f), (.rs w_0.Config.Vips.z .impl_Vip w_0.Config.Vips.n w_0.Config.Vips.f)])] = F_impl_WatchFault fu w_0 := by kernel_rfl
noncomputable def body_c7 : Code := Tryz.f39.body.getD .skip
theorem lpok_c7 (fu : Nat) : LpOk E (pc_c7 fu) 0 msk_c7 (lp_c7 fu) (loops 0 body_c7) := lp_nil (loop_nil (by kernel_rfl)) (by kernel_rfl)
def S_c7 (fu : Nat) (xs : List (D RT den)) : Option (Out RT den) := match xs with | [.agg [.bool a0_1, .int .i64 a0_3, .rs za0_4 .impl_Backend na0_4 fa0_4, .rs za0_5 .impl_Vip na0_5 fa0_5]] => some ⟨Int, F_impl_WatchFault fu (⟨a0_1, (⟨a0_3, (⟨za0_4, na0_4, fa0_4⟩ : (Sl S_impl_Backend)), (⟨za0_5, na0_5, fa0_5⟩ : (Sl S_impl_Vip))⟩ : S_impl_Config)⟩ : S_impl_Watch), enc_i64, fun _ => true⟩ | _ => none
theorem hpc_c7 (fu : Nat) : HpcOk E Tryz.prog (pcf_c7 fu) := by
 intro f xs o h
 unfold pcf_c7 at h
 split at h
 ·exact good_c6 fu xs o h
 ·exact good_b34 fu xs o h
 ·cases h
theorem goodv_c7 (fu : Nat) (w_0 : S_impl_Watch) (y : Int) (hy : F_impl_WatchFault fu w_0 = some y) : Vm.Good E Tryz.prog 39 [(.agg [(.bool w_0.Ready), (ii w_0.Config.Version), (.rs w_0.Config.Backends.z .impl_Backend w_0.Config.Backends.n w_0.Config.Backends.f), (.rs w_0.Config.Vips.z .impl_Vip w_0.Config.Vips.n w_0.Config.Vips.f)])] (enc_i64 y) :=
 fun_good E_ok (pc_good (pc := pc_c7 fu) (hpc_c7 fu) hpx0) (fn := Tryz.f39) (by kernel_rfl) (by kernel_rfl) (by kernel_rfl) (lpok_c7 fu) (fun d hd => out_i64_enc d _ hd) ((ev_c7 fu w_0).trans hy)
theorem good_c7 (fu : Nat) : GoodS E Tryz.prog 39 (S_c7 fu) := by
 intro xs o h y hy
 unfold S_c7 at h
 split at h
 ·rename_i a0_1 a0_3 za0_4 na0_4 fa0_4 za0_5 na0_5 fa0_5
  cases h
  exact goodv_c7 fu (⟨a0_1, (⟨a0_3, (⟨za0_4, na0_4, fa0_4⟩ : (Sl S_impl_Backend)), (⟨za0_5, na0_5, fa0_5⟩ : (Sl S_impl_Vip))⟩ : S_impl_Config)⟩ : S_impl_Watch) y hy
 ·cases h
def F_slices_Equal_int64_int64_B0 {ρ : Type} (fu : Nat) (s10_0 s21_1 : (Sl Int)) (t12_2 : Int) (k0 : Option ρ) (k1 : Option ρ) (t13_3 : Int) (go : Int → Option ρ) : Option ρ :=
 (bif (decide (t13_3 < t12_2)) then ((bif (decide (0 ≤ t13_3) && decide ((Int.toNat t13_3) < s10_0.n)) then some () else none : Option Unit).bind fun _ => ((bif (decide (0 ≤ t13_3) &&
  decide ((Int.toNat t13_3) < s21_1.n)) then some () else none : Option Unit).bind fun _ => (bif ((s10_0.f (Int.toNat t13_3)) != (s21_1.f (Int.toNat t13_3))) then k0 else (go (IntKind.wrap .i64 (t13_3 + 1)))))) else
  k1)
def F_slices_Equal_int64_int64 (fu : Nat) (s1_0 s2_1 : (Sl Int)) : Option (Bool) :=
 (bif (((s1_0.n : Nat) : Int) != ((s2_1.n : Nat) : Int)) then (some false) else (L (fun w0 go0 => F_slices_Equal_int64_int64_B0 fu s1_0 s2_1 ((s1_0.n : Nat) : Int) (some false) (some true) w0 go0) fu (0 : Int)))
def pc_c8 (fu : Nat) : Pc RT den := ⟨pcf0, fun _ => false, fun _ => false, pcd0, pcd0, pcd0, pcx0⟩
def msk_c8 (b : Nat) : List Nat := match b with | 0 => (rg 2 10 (rg 14 12 [])) | 100000 => (0 :: 1 :: 2 :: 3 :: (rg 5 21 [])) | _ => []
def ps_c8_0 : List (Pat RT) := (.flat (.rs .i64) :: .flat (.rs .i64) :: (fq 10 (.flat (.int .i64) :: .flat (.int .i64) :: (fq 12 []))))
def os_c8_0 : List (OP RT) := []
def conv_c8_0 (r : Raw den ps_c8_0 os_c8_0) : ((Sl Int) × (Sl Int) × Int) × (Int) := ((r.1.1, r.1.2.1, (e10 r.1).2.2.1), (e10 r.1).2.2.2.1)
def back_c8_0 (c : (Sl Int) × (Sl Int) × Int) (w : Int) : St RT den := ⟨((.rs c.1.z .i64 c.1.n c.1.f) :: (.rs c.2.1.z .i64 c.2.1.n c.2.1.f) :: (qs 10 ((ii c.2.2) :: (ii w) :: (qs 12 [])))), []⟩
def Bk_c8_0 {ρ : Type} (fu : Nat) (c : (Sl Int) × (Sl Int) × Int) (k : Ex → St RT den → Option ρ) (w : Int) (go : (Int) → Option ρ) : Option ρ := F_slices_Equal_int64_int64_B0 fu c.1 c.2.1 c.2.2 (k .ret ⟨(qs 4 ((.bool false) :: (qs 21 []))), []⟩) (k (.exit 0) ⟨(qs 26 []), []⟩) w go
def lp_c8 (fu : Nat) : Lp RT den (Bool) := ⟨fun b s k => match b with | 0 => handle ps_c8_0 os_c8_0 conv_c8_0 (Bk_c8_0 fu) fu s k | _ => none, inl0⟩
theorem ev_c8 (fu : Nat) (s1_0 s2_1 : (Sl Int)) : evFun E (pc_c8 fu) msk_c8 (lp_c8 fu) out_bo 42 [(.rs s1_0.z .i64 s1_0.n s1_0.f), (.rs s2_1.z .i64 s2_1.n s2_1.f)] = F_slices_Equal_int64_int64 fu s1_0 s2_1 := by kernel_rfl
noncomputable def body_c8 : Code := Tryz.f42.body.getD .skip
noncomputable def lc_c8_0 : Code := ((loops 0 body_c8).getD 0 (0, .skip)).2
theorem round_c8_0 (fu : Nat) : RoundOk E (pc_c8 fu) msk_c8 (lp_c8 fu) 0 lc_c8_0 back_c8_0 0 100000 0 (Bk_c8_0 fu) := fun it k c w => by kernel_rfl
theorem lpok_c8_0 (fu : Nat) : LpAt E (pc_c8 fu) msk_c8 (lp_c8 fu) 0 0 100000 0 lc_c8_0 :=
 handle_ok (ps := ps_c8_0) (os := os_c8_0) (conv := conv_c8_0) (B := Bk_c8_0 fu) (fu := fu) back_c8_0 (fun raw => by kernel_rfl) 0 (fun c w => by kernel_rfl) (round_c8_0 fu)
theorem lpok_c8 (fu : Nat) : LpOk E (pc_c8 fu) 0 msk_c8 (lp_c8 fu) (loops 0 body_c8) := lp_nil (loop_all 1 (by kernel_rfl) fun i hi => match i, hi with
 | 0, _ => by
  have h : (loops 0 body_c8).getD 0 (0, .skip) = (0, lc_c8_0) := by kernel_rfl
  rw [h]; exact lpok_c8_0 fu
 | i + 1, hi => absurd hi (by omega)) (by kernel_rfl)
def S_c8 (fu : Nat) (xs : List (D RT den)) : Option (Out RT den) := match xs with | [.rs za0_0 .i64 na0_0 fa0_0, .rs za1_0 .i64 na1_0 fa1_0] => some ⟨Bool, F_slices_Equal_int64_int64 fu (⟨za0_0, na0_0, fa0_0⟩ : (Sl Int)) (⟨za1_0, na1_0, fa1_0⟩ : (Sl Int)), enc_bo, fun _ => true⟩ | _ => none
theorem goodv_c8 (fu : Nat) (s1_0 s2_1 : (Sl Int)) (y : Bool) (hy : F_slices_Equal_int64_int64 fu s1_0 s2_1 = some y) : Vm.Good E Tryz.prog 42 [(.rs s1_0.z .i64 s1_0.n s1_0.f), (.rs s2_1.z .i64 s2_1.n s2_1.f)] (enc_bo y) :=
 fun_good E_ok (pc_good (pc := pc_c8 fu) hpc0 hpx0) (fn := Tryz.f42) (by kernel_rfl) (by kernel_rfl) (by kernel_rfl) (lpok_c8 fu) (fun d hd => out_bo_enc d _ hd) ((ev_c8 fu s1_0 s2_1).trans hy)
theorem good_c8 (fu : Nat) : GoodS E Tryz.prog 42 (S_c8 fu) := by
 intro xs o h y hy
 unfold S_c8 at h
 split at h
 ·rename_i za0_0 na0_0 fa0_0 za1_0 na1_0 fa1_0
  cases h
  exact goodv_c8 fu (⟨za0_0, na0_0, fa0_0⟩ : (Sl Int)) (⟨za1_0, na1_0, fa1_0⟩ : (Sl Int)) y hy
 ·cases h
def F_slices_EqualFunc_int64_int64_int64_int64_w_slices_Equal_int64_int64_B0 {ρ : Type} (fu : Nat) (s21_0 : (Sl (Sl Int))) (t15_1 : (Sl (Sl Int))) (t16_2 : Int) (k0 : Option ρ) (k1 : Option ρ) (t17_3 : Int) (go : Int → Option ρ) : Option ρ :=
 (bif (decide (t17_3 < t16_2)) then ((bif (decide (0 ≤ t17_3) && decide ((Int.toNat t17_3) < t15_1.n)) then some () else none : Option Unit).bind fun _ => ((bif (decide (0 ≤ t17_3) &&
  decide ((Int.toNat t17_3) < s21_0.n)) then some () else none : Option Unit).bind fun _ => ((F_slices_Equal_int64_int64 fu (t15_1.f (Int.toNat t17_3)) (s21_0.f (Int.toNat t17_3))).bind fun y325 =>
  (bif (!y325) then k0 else (go (IntKind.wrap .i64 (t17_3 + 1))))))) else k1)
def F_slices_EqualFunc_int64_int64_int64_int64_w_slices_Equal_int64_int64 (fu : Nat) (s1_0 : (Sl (Sl Int))) (s2_1 : (Sl (Sl Int))) : Option (Bool) :=
 (bif (((s1_0.n : Nat) : Int) != ((s2_1.n : Nat) : Int)) then (some false) else (L (fun w0 go0 => F_slices_EqualFunc_int64_int64_int64_int64_w_slices_Equal_int64_int64_B0 fu s2_1 s1_0 ((s1_0.n : Nat) : Int) (some false) (some true) w0 go0) fu (0 : Int)))
def pcf_c9 (fu f : Nat) (xs : List (D RT den)) : Option (Out RT den) := match f with | 42 => S_c8 fu xs | _ => none
def pc_c9 (fu : Nat) : Pc RT den := ⟨pcf_c9 fu, fun _ => false, fun _ => false, pcd0, pcd0, pcd0, pcx0⟩
def msk_c9 (b : Nat) : List Nat := match b with | 0 => (0 :: (rg 3 12 (rg 18 14 []))) | 100000 => (rg 0 6 (rg 7 25 [])) | _ => []
def ps_c9_0 : List (Pat RT) := (.flat .q :: .flat (.rs .sl_i64) :: .fn 42 [] :: (fq 12 (.flat (.rs .sl_i64) :: .flat (.int .i64) :: .flat (.int .i64) :: (fq 14 []))))
def os_c9_0 : List (OP RT) := []
def conv_c9_0 (r : Raw den ps_c9_0 os_c9_0) : ((Sl (Sl Int)) × (Sl (Sl Int)) × Int) × (Int) := ((r.1.2.1, (e5 (e10 r.1)).1, (e5 (e10 r.1)).2.1), (e5 (e10 r.1)).2.2.1)
def back_c9_0 (c : (Sl (Sl Int)) × (Sl (Sl Int)) × Int) (w : Int) : St RT den := ⟨(.q :: (.rs c.1.z .sl_i64 c.1.n c.1.f) :: (.fn 42 []) :: (qs 12 ((.rs c.2.1.z .sl_i64 c.2.1.n c.2.1.f) :: (ii c.2.2) :: (ii w) :: (qs 14 [])))), []⟩
def Bk_c9_0 {ρ : Type} (fu : Nat) (c : (Sl (Sl Int)) × (Sl (Sl Int)) × Int) (k : Ex → St RT den → Option ρ) (w : Int) (go : (Int) → Option ρ) : Option ρ := F_slices_EqualFunc_int64_int64_int64_int64_w_slices_Equal_int64_int64_B0 fu c.1 c.2.1 c.2.2 (k .ret ⟨(qs 6 ((.bool false) :: (qs 25 []))), []⟩) (k (.exit 0) ⟨(qs 32 []), []⟩) w go
def lp_c9 (fu : Nat) : Lp RT den (Bool) := ⟨fun b s k => match b with | 0 => handle ps_c9_0 os_c9_0 conv_c9_0 (Bk_c9_0 fu) fu s k | _ => none, inl0⟩
theorem ev_c9 (fu : Nat) (s1_0 : (Sl (Sl Int))) (s2_1 : (Sl (Sl Int))) : evFun E (pc_c9 fu) msk_c9 (lp_c9 fu) out_bo 40 [(.rs s1_0.z .sl_i64 s1_0.n s1_0.f), (.rs s2_1.z .sl_i64 s2_1.n s2_1.f), (.fn 42 [])] = F_slices_EqualFunc_int64_int64_int64_int64_w_slices_Equal_int64_int64 fu s1_0 s2_1 := by kernel_rfl
noncomputable def body_c9 : Code := Tryz.f40.body.getD .skip
noncomputable def lc_c9_0 : Code := ((loops 0 body_c9).getD 0 (0, .skip)).2
theorem round_c9_0 (fu : Nat) : RoundOk E (pc_c9 fu) msk_c9 (lp_c9 fu) 0 lc_c9_0 back_c9_0 0 100000 0 (Bk_c9_0 fu) := fun it k c w => by kernel_rfl
theorem lpok_c9_0 (fu : Nat) : LpAt E (pc_c9 fu) msk_c9 (lp_c9 fu) 0 0 100000 0 lc_c9_0 :=
 handle_ok (ps := ps_c9_0) (os := os_c9_0) (conv := conv_c9_0) (B := Bk_c9_0 fu) (fu := fu) back_c9_0 (fun raw => by kernel_rfl) 0 (fun c w => by kernel_rfl) (round_c9_0 fu)
theorem lpok_c9 (fu : Nat) : LpOk E (pc_c9 fu) 0 msk_c9 (lp_c9 fu) (loops 0 body_c9) := lp_nil (loop_all 1 (by kernel_rfl) fun i hi => match i, hi with
 | 0, _ => by
  have h : (loops 0 body_c9).getD 0 (0, .skip) = (0, lc_c9_0) := by kernel_rfl
  rw [h]; exact lpok_c9_0 fu
 | i + 1, hi => absurd hi (by omega)) (by kernel_rfl)
def S_c9 (fu : Nat) (xs : List (D RT den)) : Option (Out RT den) := match xs with | [.rs za0_0 .sl_i64 na0_0 fa0_0, .rs za1_0 .sl_i64 na1_0 fa1_0, .fn 42 []] => some ⟨Bool, F_slices_EqualFunc_int64_int64_int64_int64_w_slices_Equal_int64_int64 fu (⟨za0_0, na0_0, fa0_0⟩ : (Sl (Sl Int))) (⟨za1_0, na1_0, fa1_0⟩ : (Sl (Sl Int))), enc_bo, fun _ => true⟩ | _ => none
theorem hpc_c9 (fu : Nat) : HpcOk E Tryz.prog (pcf_c9 fu) := by
 intro f xs o h
 unfold pcf_c9 at h
 split at h
 ·exact good_c8 fu xs o h
 ·cases h
theorem goodv_c9 (fu : Nat) (s1_0 : (Sl (Sl Int))) (s2_1 : (Sl (Sl Int))) (y : Bool) (hy : F_slices_EqualFunc_int64_int64_int64_int64_w_slices_Equal_int64_int64 fu s1_0 s2_1 = some y) : Vm.Good E Tryz.prog 40 [(.rs s1_0.z .sl_i64 s1_0.n s1_0.f), (.rs s2_1.z .sl_i64 s2_1.n s2_1.f), (.fn 42 [])] (enc_bo y) :=
 fun_good E_ok (pc_good (pc := pc_c9 fu) (hpc_c9 fu) hpx0) (fn := Tryz.f40) (by kernel_rfl) (by kernel_rfl) (by kernel_rfl) (lpok_c9 fu) (fun d hd => out_bo_enc d _ hd) ((ev_c9 fu s1_0 s2_1).trans hy)
theorem good_c9 (fu : Nat) : GoodS E Tryz.prog 40 (S_c9 fu) := by
 intro xs o h y hy
 unfold S_c9 at h
 split at h
 ·rename_i za0_0 na0_0 fa0_0 za1_0 na1_0 fa1_0
  cases h
  exact goodv_c9 fu (⟨za0_0, na0_0, fa0_0⟩ : (Sl (Sl Int))) (⟨za1_0, na1_0, fa1_0⟩ : (Sl (Sl Int))) y hy
 ·cases h
def F_impl_PacketFault (fu : Nat) (p_0 : S_impl_Packet) : Option (Int) :=
 ((((F_impl_isAddress fu p_0.From).bind fun y327 => (bif (!y327) then (some true) else ((F_impl_isAddress fu p_0.To).bind fun y328 => (bif (!y328) then (some true) else
  ((F_impl_isProto fu p_0.Proto).bind fun y329 => (bif (!y329) then (some true) else ((F_impl_isPort fu p_0.FromP).bind fun y330 => (bif (!y330) then (some true) else
  ((F_impl_isPort fu p_0.ToP).bind fun y331 => (some (!y331))))))))))) : Option Bool).bind fun m332 => (bif m332 then (some 3) else (bif (decide (((p_0.Load.n : Nat) : Int) > 200)) then
  (some 2) else (some 0))))
def pcf_c10 (fu f : Nat) (xs : List (D RT den)) : Option (Out RT den) := match f with | 37 => S_b33 fu xs | 92 => S_b37 fu xs | 93 => S_b38 fu xs | _ => none
def pc_c10 (fu : Nat) : Pc RT den := ⟨pcf_c10 fu, fun _ => false, fun _ => false, pcd0, pcd0, pcd0, pcx0⟩
def msk_c10 (b : Nat) : List Nat := match b with | 200001 => [3] | _ => []
def lp_c10 (fu : Nat) : Lp RT den (Int) := ⟨fun b s k => none, inl0⟩
theorem ev_c10 (fu : Nat) (p_0 : S_impl_Packet) : evFun E (pc_c10 fu) msk_c10 (lp_c10 fu) out_i64 70 [(.agg [(ii p_0.From), (ii p_0.To), (ii p_0.Proto), (ii p_0.FromP), (ii p_0.ToP), (.rs p_0.Load.z .u8 p_0.Load.n p_0.Load.f)])] = F_impl_PacketFault fu p_0 := by kernel_rfl
noncomputable def body_c10 : Code := Tryz.f70.body.getD .skip
theorem lpok_c10 (fu : Nat) : LpOk E (pc_c10 fu) 0 msk_c10 (lp_c10 fu) (loops 0 body_c10) := lp_nil (loop_nil (by kernel_rfl)) (by kernel_rfl)
def S_c10 (fu : Nat) (xs : List (D RT den)) : Option (Out RT den) := match xs with | [.agg [.int .i64 a0_1, .int .i64 a0_2, .int .i64 a0_3, .int .i64 a0_4, .int .i64 a0_5, .rs za0_6 .u8 na0_6 fa0_6]] => some ⟨Int, F_impl_PacketFault fu (⟨a0_1, a0_2, a0_3, a0_4, a0_5, (⟨za0_6, na0_6, fa0_6⟩ : (Sl Int))⟩ : S_impl_Packet), enc_i64, fun _ => true⟩ | _ => none
theorem hpc_c10 (fu : Nat) : HpcOk E Tryz.prog (pcf_c10 fu) := by
 intro f xs o h
 unfold pcf_c10 at h
 split at h
 ·exact good_b33 fu xs o h
 ·exact good_b37 fu xs o h
 ·exact good_b38 fu xs o h
 ·cases h
theorem goodv_c10 (fu : Nat) (p_0 : S_impl_Packet) (y : Int) (hy : F_impl_PacketFault fu p_0 = some y) : Vm.Good E Tryz.prog 70 [(.agg [(ii p_0.From), (ii p_0.To), (ii p_0.Proto), (ii p_0.FromP), (ii p_0.ToP), (.rs p_0.Load.z .u8 p_0.Load.n p_0.Load.f)])] (enc_i64 y) :=
 fun_good E_ok (pc_good (pc := pc_c10 fu) (hpc_c10 fu) hpx0) (fn := Tryz.f70) (by kernel_rfl) (by kernel_rfl) (by kernel_rfl) (lpok_c10 fu) (fun d hd => out_i64_enc d _ hd) ((ev_c10 fu p_0).trans hy)
theorem good_c10 (fu : Nat) : GoodS E Tryz.prog 70 (S_c10 fu) := by
 intro xs o h y hy
 unfold S_c10 at h
 split at h
 ·rename_i a0_1 a0_2 a0_3 a0_4 a0_5 za0_6 na0_6 fa0_6
  cases h
  exact goodv_c10 fu (⟨a0_1, a0_2, a0_3, a0_4, a0_5, (⟨za0_6, na0_6, fa0_6⟩ : (Sl Int))⟩ : S_impl_Packet) y hy
 ·cases h
def F_impl_isFlow (fu : Nat) (f_0 : S_impl_Flow) : Option (Bool) :=
 ((F_impl_PacketFault fu (⟨f_0.From, f_0.To, f_0.Proto, f_0.FromP, f_0.ToP, (⟨(some true), 0, (fun _ => dflt .u8)⟩ : (Sl Int))⟩ : S_impl_Packet)).bind fun y326 => (some (y326 == 0)))
def pcf_c11 (fu f : Nat) (xs : List (D RT den)) : Option (Out RT den) := match f with | 70 => S_c10 fu xs | _ => none
def pc_c11 (fu : Nat) : Pc RT den := ⟨pcf_c11 fu, fun _ => false, fun _ => false, pcd0, pcd0, pcd0, pcx0⟩
def msk_c11 (b : Nat) : List Nat := []
def lp_c11 (fu : Nat) : Lp RT den (Bool) := ⟨fun b s k => none, inl0⟩
theorem ev_c11 (fu : Nat) (f_0 : S_impl_Flow) : evFun E (pc_c11 fu) msk_c11 (lp_c11 fu) out_bo 43 [(.agg [(ii f_0.From), (ii f_0.To), (ii f_0.Proto), (ii f_0.FromP), (ii f_0.ToP)])] = F_impl_isFlow fu f_0 := by kernel_rfl
noncomputable def body_c11 : Code := Tryz.f43.body.getD .skip
theorem lpok_c11 (fu : Nat) : LpOk E (pc_c11 fu) 0 msk_c11 (lp_c11 fu) (loops 0 body_c11) := lp_nil (loop_nil (by kernel_rfl)) (by kernel_rfl)
def S_c11 (fu : Nat) (xs : List (D RT den)) : Option (Out RT den) := match xs with | [.agg [.int .i64 a0_1, .int .i64 a0_2, .int .i64 a0_3, .int .i64 a0_4, .int .i64 a0_5]] => some ⟨Bool, F_impl_isFlow fu (⟨a0_1, a0_2, a0_3, a0_4, a0_5⟩ : S_impl_Flow), enc_bo, fun _ => true⟩ | _ => none
theorem hpc_c11 (fu : Nat) : HpcOk E Tryz.prog (pcf_c11 fu) := by
 intro f xs o h
 unfold pcf_c11 at h
 split at h
 ·exact good_c10 fu xs o h
 ·cases h
theorem goodv_c11 (fu : Nat) (f_0 : S_impl_Flow) (y : Bool) (hy : F_impl_isFlow fu f_0 = some y) : Vm.Good E Tryz.prog 43 [(.agg [(ii f_0.From), (ii f_0.To), (ii f_0.Proto), (ii f_0.FromP), (ii f_0.ToP)])] (enc_bo y) :=
 fun_good E_ok (pc_good (pc := pc_c11 fu) (hpc_c11 fu) hpx0) (fn := Tryz.f43) (by kernel_rfl) (by kernel_rfl) (by kernel_rfl) (lpok_c11 fu) (fun d hd => out_bo_enc d _ hd) ((ev_c11 fu f_0).trans hy)
theorem good_c11 (fu : Nat) : GoodS E Tryz.prog 43 (S_c11 fu) := by
 intro xs o h y hy
 unfold S_c11 at h
 split at h
 ·rename_i a0_1 a0_2 a0_3 a0_4 a0_5
  cases h
  exact goodv_c11 fu (⟨a0_1, a0_2, a0_3, a0_4, a0_5⟩ : S_impl_Flow) y hy
 ·cases h
def F_impl_Config_vip_c1 (fu : Nat) (v_0 : S_impl_Vip) (x_1_1 x_2_2 x_3_3 : Int) : Option (Bool) :=
 (((bif (v_0.Address == x_1_1) then (bif (v_0.Port == x_2_2) then (some (v_0.Proto == x_3_3)) else (some false)) else (some false)) : Option Bool).bind fun m341 => (some m341))
def pc_c12 (fu : Nat) : Pc RT den := ⟨pcf0, fun _ => false, fun _ => false, pcd0, pcd0, pcd0, pcx0⟩
def msk_c12 (b : Nat) : List Nat := match b with | 200001 => [5] | _ => []
def lp_c12 (fu : Nat) : Lp RT den (Bool) := ⟨fun b s k => none, inl0⟩
theorem ev_c12 (fu : Nat) (v_0 : S_impl_Vip) (x_1_1 x_2_2 x_3_3 : Int) : evFun E (pc_c12 fu) msk_c12 (lp_c12 fu) out_bo 119 [(.agg [(ii v_0.Address), (ii v_0.Port), (ii v_0.Proto), (.rs v_0.Names.z .i64 v_0.Names.n v_0.Names.f)]), (.rptr [(ii x_1_1)]), (.rptr [(ii x_2_2)]), (.rptr [(ii x_3_3)])] = F_impl_Config_vip_c1 fu v_0 x_1_1 x_2_2 x_3_3 := by kernel_rfl
noncomputable def body_c12 : Code := Tryz.f119.body.getD .skip
theorem lpok_c12 (fu : Nat) : LpOk E (pc_c12 fu) 0 msk_c12 (lp_c12 fu) (loops 0 body_c12) := lp_nil (loop_nil (by kernel_rfl)) (by kernel_rfl)
def S_c12 (fu : Nat) (xs : List (D RT den)) : Option (Out RT den) := match xs with | [.agg [.int .i64 a0_1, .int .i64 a0_2, .int .i64 a0_3, .rs za0_4 .i64 na0_4 fa0_4], .rptr [.int .i64 a1_0], .rptr [.int .i64 a2_0], .rptr [.int .i64 a3_0]] => some ⟨Bool, F_impl_Config_vip_c1 fu (⟨a0_1, a0_2, a0_3, (⟨za0_4, na0_4, fa0_4⟩ : (Sl Int))⟩ : S_impl_Vip) a1_0 a2_0 a3_0, enc_bo, fun _ => true⟩ | _ => none
theorem goodv_c12 (fu : Nat) (v_0 : S_impl_Vip) (x_1_1 x_2_2 x_3_3 : Int) (y : Bool) (hy : F_impl_Config_vip_c1 fu v_0 x_1_1 x_2_2 x_3_3 = some y) : Vm.Good E Tryz.prog 119 [(.agg [(ii v_0.Address), (ii v_0.Port), (ii v_0.Proto), (.rs v_0.Names.z .i64 v_0.Names.n v_0.Names.f)]), (.rptr [(ii x_1_1)]), (.rptr [(ii x_2_2)]), (.rptr [(ii x_3_3)])] (enc_bo y) :=
 fun_good E_ok (pc_good (pc := pc_c12 fu) hpc0 hpx0) (fn := Tryz.f119) (by kernel_rfl) (by kernel_rfl) (by kernel_rfl) (lpok_c12 fu) (fun d hd => out_bo_enc d _ hd) ((ev_c12 fu v_0 x_1_1 x_2_2 x_3_3).trans hy)
theorem good_c12 (fu : Nat) : GoodS E Tryz.prog 119 (S_c12 fu) := by
 intro xs o h y hy
 unfold S_c12 at h
 split at h
 ·rename_i a0_1 a0_2 a0_3 za0_4 na0_4 fa0_4 a1_0 a2_0 a3_0
  cases h
  exact goodv_c12 fu (⟨a0_1, a0_2, a0_3, (⟨za0_4, na0_4, fa0_4⟩ : (Sl Int))⟩ : S_impl_Vip) a1_0 a2_0 a3_0 y hy
 ·cases h
def F_slices_IndexFunc_impl_Vip_impl_Vip_w_impl_Config_vip_c1_B0 {ρ : Type} (fu : Nat) (s0_0 : (Sl S_impl_Vip)) (f1_1 f1_2 f1_3 t7_4 : Int) (k0 : Int → Option ρ) (k1 : Option ρ) (t8_5 : Int) (go : Int → Option ρ) : Option ρ :=
 (bif (decide (t8_5 < t7_4)) then ((bif (decide (0 ≤ t8_5) && decide ((Int.toNat t8_5) < s0_0.n)) then some () else none : Option Unit).bind fun _ => ((F_impl_Config_vip_c1 fu (s0_0.f (Int.toNat t8_5)) f1_1 f1_2 f1_3).bind fun y339 =>
  (bif y339 then (k0 t8_5) else (go (IntKind.wrap .i64 (t8_5 + 1)))))) else k1)
def F_slices_IndexFunc_impl_Vip_impl_Vip_w_impl_Config_vip_c1 (fu : Nat) (s_0 : (Sl S_impl_Vip)) (f_1_1 f_1_2 f_1_3 : Int) : Option (Int) :=
 (L (fun w0 go0 => F_slices_IndexFunc_impl_Vip_impl_Vip_w_impl_Config_vip_c1_B0 fu s_0 f_1_1 f_1_2 f_1_3 ((s_0.n : Nat) : Int) (fun z340 => (some z340)) (some (-1)) w0 go0) fu (0 : Int))
def pcf_c13 (fu f : Nat) (xs : List (D RT den)) : Option (Out RT den) := match f with | 119 => S_c12 fu xs | _ => none
def pc_c13 (fu : Nat) : Pc RT den := ⟨pcf_c13 fu, fun _ => false, fun _ => false, pcd0, pcd0, pcd0, pcx0⟩
def msk_c13 (b : Nat) : List Nat := match b with | 0 => (rg 2 5 (rg 9 10 [])) | 100000 => (0 :: 1 :: 2 :: 3 :: (rg 5 14 [])) | _ => []
def ps_c13_0 : List (Pat RT) := (.flat (.rs .impl_Vip) :: .fn 119 [.rptr [(.int .i64)], .rptr [(.int .i64)], .rptr [(.int .i64)]] :: (fq 5 (.flat (.int .i64) :: .flat (.int .i64) :: (fq 10 []))))
def os_c13_0 : List (OP RT) := []
def conv_c13_0 (r : Raw den ps_c13_0 os_c13_0) : (Yf0) × (Int) := ((r.1.1, r.1.2.1.1.1, r.1.2.1.2.1.1, r.1.2.1.2.2.1.1, (e5 r.1).2.2.1), (e5 r.1).2.2.2.1)
def back_c13_0 (c : Yf0) (w : Int) : St RT den := ⟨((.rs c.1.z .impl_Vip c.1.n c.1.f) :: (.fn 119 [(.rptr [(ii c.2.1)]), (.rptr [(ii c.2.2.1)]), (.rptr [(ii c.2.2.2.1)])]) :: (qs 5 ((ii c.2.2.2.2) :: (ii w) :: (qs 10 [])))), []⟩
def Bk_c13_0 {ρ : Type} (fu : Nat) (c : Yf0) (k : Ex → St RT den → Option ρ) (w : Int) (go : (Int) → Option ρ) : Option ρ := F_slices_IndexFunc_impl_Vip_impl_Vip_w_impl_Config_vip_c1_B0 fu c.1 c.2.1 c.2.2.1 c.2.2.2.1 c.2.2.2.2 (fun a0 => k .ret ⟨(qs 4 ((ii a0) :: (qs 14 []))), []⟩) (k (.exit 0) ⟨(qs 19 []), []⟩) w go
def lp_c13 (fu : Nat) : Lp RT den (Int) := ⟨fun b s k => match b with | 0 => handle ps_c13_0 os_c13_0 conv_c13_0 (Bk_c13_0 fu) fu s k | _ => none, inl0⟩
theorem ev_c13 (fu : Nat) (s_0 : (Sl S_impl_Vip)) (f_1_1 f_1_2 f_1_3 : Int) : evFun E (pc_c13 fu) msk_c13 (lp_c13 fu) out_i64 118 [(.rs s_0.z .impl_Vip s_0.n s_0.f), (.fn 119 [(.rptr [(ii f_1_1)]), (.rptr [(ii f_1_2)]), (.rptr [(ii f_1_3)])])] = F_slices_IndexFunc_impl_Vip_impl_Vip_w_impl_Config_vip_c1 fu s_0 f_1_1 f_1_2 f_1_3 := by kernel_rfl
noncomputable def body_c13 : Code := Tryz.f118.body.getD .skip
noncomputable def lc_c13_0 : Code := ((loops 0 body_c13).getD 0 (0, .skip)).2
theorem round_c13_0 (fu : Nat) : RoundOk E (pc_c13 fu) msk_c13 (lp_c13 fu) 0 lc_c13_0 back_c13_0 0 100000 0 (Bk_c13_0 fu) := fun it k c w => by kernel_rfl
theorem lpok_c13_0 (fu : Nat) : LpAt E (pc_c13 fu) msk_c13 (lp_c13 fu) 0 0 100000 0 lc_c13_0 :=
 handle_ok (ps := ps_c13_0) (os := os_c13_0) (conv := conv_c13_0) (B := Bk_c13_0 fu) (fu := fu) back_c13_0 (fun raw => by kernel_rfl) 0 (fun c w => by kernel_rfl) (round_c13_0 fu)
theorem lpok_c13 (fu : Nat) : LpOk E (pc_c13 fu) 0 msk_c13 (lp_c13 fu) (loops 0 body_c13) := lp_nil (loop_all 1 (by kernel_rfl) fun i hi => match i, hi with
 | 0, _ => by
  have h : (loops 0 body_c13).getD 0 (0, .skip) = (0, lc_c13_0) := by kernel_rfl
  rw [h]; exact lpok_c13_0 fu
 | i + 1, hi => absurd hi (by omega)) (by kernel_rfl)
def S_c13 (fu : Nat) (xs : List (D RT den)) : Option (Out RT den) := match xs with | [.rs za0_0 .impl_Vip na0_0 fa0_0, .fn 119 [.rptr [.int .i64 a1_0], .rptr [.int .i64 a1_1], .rptr [.int .i64 a1_2]]] => some ⟨Int, F_slices_IndexFunc_impl_Vip_impl_Vip_w_impl_Config_vip_c1 fu (⟨za0_0, na0_0, fa0_0⟩ : (Sl S_impl_Vip)) a1_0 a1_1 a1_2, enc_i64, fun _ => true⟩ | _ => none
theorem hpc_c13 (fu : Nat) : HpcOk E Tryz.prog (pcf_c13 fu) := by
 intro f xs o h
 unfold pcf_c13 at h
 split at h
 ·exact good_c12 fu xs o h
 ·cases h
theorem goodv_c13 (fu : Nat) (s_0 : (Sl S_impl_Vip)) (f_1_1 f_1_2 f_1_3 y : Int) (hy : F_slices_IndexFunc_impl_Vip_impl_Vip_w_impl_Config_vip_c1 fu s_0 f_1_1 f_1_2 f_1_3 = some y) : Vm.Good E Tryz.prog 118 [(.rs s_0.z .impl_Vip s_0.n s_0.f), (.fn 119 [(.rptr [(ii f_1_1)]), (.rptr [(ii f_1_2)]), (.rptr [(ii f_1_3)])])] (enc_i64 y) :=
 fun_good E_ok (pc_good (pc := pc_c13 fu) (hpc_c13 fu) hpx0) (fn := Tryz.f118) (by kernel_rfl) (by kernel_rfl) (by kernel_rfl) (lpok_c13 fu) (fun d hd => out_i64_enc d _ hd) ((ev_c13 fu s_0 f_1_1 f_1_2 f_1_3).trans hy)
theorem good_c13 (fu : Nat) : GoodS E Tryz.prog 118 (S_c13 fu) := by
 intro xs o h y hy
 unfold S_c13 at h
 split at h
 ·rename_i za0_0 na0_0 fa0_0 a1_0 a1_1 a1_2
  cases h
  exact goodv_c13 fu (⟨za0_0, na0_0, fa0_0⟩ : (Sl S_impl_Vip)) a1_0 a1_1 a1_2 y hy
 ·cases h
def F_impl_Config_vip (fu : Nat) (c_0 : S_impl_Config) (address_1 port_2 proto_3 : Int) : Option (Int) :=
 ((F_slices_IndexFunc_impl_Vip_impl_Vip_w_impl_Config_vip_c1 fu c_0.Vips address_1 port_2 proto_3).bind fun y338 => (some y338))
def pcf_c14 (fu f : Nat) (xs : List (D RT den)) : Option (Out RT den) := match f with | 118 => S_c13 fu xs | _ => none
def pc_c14 (fu : Nat) : Pc RT den := ⟨pcf_c14 fu, fun _ => false, fun _ => false, pcd0, pcd0, pcd0, pcx0⟩
def msk_c14 (b : Nat) : List Nat := []
def lp_c14 (fu : Nat) : Lp RT den (Int) := ⟨fun b s k => none, inl0⟩
theorem ev_c14 (fu : Nat) (c_0 : S_impl_Config) (address_1 port_2 proto_3 : Int) : evFun E (pc_c14 fu) msk_c14 (lp_c14 fu) out_i64 100 [(.rptr [(ii c_0.Version), (.rs c_0.Backends.z .impl_Backend c_0.Backends.n c_0.Backends.f), (.rs c_0.Vips.z .impl_Vip c_0.Vips.n c_0.Vips.f)]), (ii address_1), (ii port_2), (ii proto_3)] = F_impl_Config_vip fu c_0 address_1 port_2 proto_3 := by kernel_rfl
noncomputable def body_c14 : Code := Tryz.f100.body.getD .skip
theorem lpok_c14 (fu : Nat) : LpOk E (pc_c14 fu) 0 msk_c14 (lp_c14 fu) (loops 0 body_c14) := lp_nil (loop_nil (by kernel_rfl)) (by kernel_rfl)
def S_c14 (fu : Nat) (xs : List (D RT den)) : Option (Out RT den) := match xs with | [.rptr (.int .i64 a0_1 :: .rs za0_2 .impl_Backend na0_2 fa0_2 :: .rs za0_3 .impl_Vip na0_3 fa0_3 :: ra0), .int .i64 a1_0, .int .i64 a2_0, .int .i64 a3_0] => some ⟨Int, F_impl_Config_vip fu (⟨a0_1, (⟨za0_2, na0_2, fa0_2⟩ : (Sl S_impl_Backend)), (⟨za0_3, na0_3, fa0_3⟩ : (Sl S_impl_Vip))⟩ : S_impl_Config) a1_0 a2_0 a3_0, enc_i64, fun _ => true⟩ | _ => none
theorem hpc_c14 (fu : Nat) : HpcOk E Tryz.prog (pcf_c14 fu) := by
 intro f xs o h
 unfold pcf_c14 at h
 split at h
 ·exact good_c13 fu xs o h
 ·cases h
theorem goodv_c14 (fu : Nat) (c_0 : S_impl_Config) (address_1 port_2 proto_3 y : Int) (hy : F_impl_Config_vip fu c_0 address_1 port_2 proto_3 = some y) : Vm.Good E Tryz.prog 100 [(.rptr [(ii c_0.Version), (.rs c_0.Backends.z .impl_Backend c_0.Backends.n c_0.Backends.f), (.rs c_0.Vips.z .impl_Vip c_0.Vips.n c_0.Vips.f)]), (ii address_1), (ii port_2), (ii proto_3)] (enc_i64 y) :=
 fun_good E_ok (pc_good (pc := pc_c14 fu) (hpc_c14 fu) hpx0) (fn := Tryz.f100) (by kernel_rfl) (by kernel_rfl) (by kernel_rfl) (lpok_c14 fu) (fun d hd => out_i64_enc d _ hd) ((ev_c14 fu c_0 address_1 port_2 proto_3).trans hy)
theorem good_c14 (fu : Nat) : GoodS E Tryz.prog 100 (S_c14 fu) := by
 intro xs o h y hy
 unfold S_c14 at h
 split at h
 ·rename_i a0_1 za0_2 na0_2 fa0_2 za0_3 na0_3 fa0_3 ra0 a1_0 a2_0 a3_0
  cases h
  exact (goodv_c14 fu (⟨a0_1, (⟨za0_2, na0_2, fa0_2⟩ : (Sl S_impl_Backend)), (⟨za0_3, na0_3, fa0_3⟩ : (Sl S_impl_Vip))⟩ : S_impl_Config) a1_0 a2_0 a3_0 y hy).sub ⟨Sub.of_eq ra0 rfl, .refl _, .refl _, .refl _, trivial⟩
 ·cases h
def F_impl_Config_vipOf (fu : Nat) (c_0 : S_impl_Config) (f_1 : S_impl_Flow) : Option (Int) :=
 ((F_impl_Config_vip fu c_0 f_1.To f_1.ToP f_1.Proto).bind fun y337 => (some y337))
def pcf_c15 (fu f : Nat) (xs : List (D RT den)) : Option (Out RT den) := match f with | 100 => S_c14 fu xs | _ => none
def pc_c15 (fu : Nat) : Pc RT den := ⟨pcf_c15 fu, fun _ => false, fun _ => false, pcd0, pcd0, pcd0, pcx0⟩
def msk_c15 (b : Nat) : List Nat := []
def lp_c15 (fu : Nat) : Lp RT den (Int) := ⟨fun b s k => none, inl0⟩
theorem ev_c15 (fu : Nat) (c_0 : S_impl_Config) (f_1 : S_impl_Flow) : evFun E (pc_c15 fu) msk_c15 (lp_c15 fu) out_i64 71 [(.rptr [(ii c_0.Version), (.rs c_0.Backends.z .impl_Backend c_0.Backends.n c_0.Backends.f), (.rs c_0.Vips.z .impl_Vip c_0.Vips.n c_0.Vips.f)]), (.agg [(ii f_1.From), (ii f_1.To), (ii f_1.Proto), (ii f_1.FromP), (ii f_1.ToP)])] = F_impl_Config_vipOf fu c_0 f_1 := by kernel_rfl
noncomputable def body_c15 : Code := Tryz.f71.body.getD .skip
theorem lpok_c15 (fu : Nat) : LpOk E (pc_c15 fu) 0 msk_c15 (lp_c15 fu) (loops 0 body_c15) := lp_nil (loop_nil (by kernel_rfl)) (by kernel_rfl)
def S_c15 (fu : Nat) (xs : List (D RT den)) : Option (Out RT den) := match xs with | [.rptr (.int .i64 a0_1 :: .rs za0_2 .impl_Backend na0_2 fa0_2 :: .rs za0_3 .impl_Vip na0_3 fa0_3 :: ra0), .agg [.int .i64 a1_1, .int .i64 a1_2, .int .i64 a1_3, .int .i64 a1_4, .int .i64 a1_5]] => some ⟨Int, F_impl_Config_vipOf fu (⟨a0_1, (⟨za0_2, na0_2, fa0_2⟩ : (Sl S_impl_Backend)), (⟨za0_3, na0_3, fa0_3⟩ : (Sl S_impl_Vip))⟩ : S_impl_Config) (⟨a1_1, a1_2, a1_3, a1_4, a1_5⟩ : S_impl_Flow), enc_i64, fun _ => true⟩ | _ => none
theorem hpc_c15 (fu : Nat) : HpcOk E Tryz.prog (pcf_c15 fu) := by
 intro f xs o h
 unfold pcf_c15 at h
 split at h
 ·exact good_c14 fu xs o h
 ·cases h
theorem goodv_c15 (fu : Nat) (c_0 : S_impl_Config) (f_1 : S_impl_Flow) (y : Int) (hy : F_impl_Config_vipOf fu c_0 f_1 = some y) : Vm.Good E Tryz.prog 71 [(.rptr [(ii c_0.Version), (.rs c_0.Backends.z .impl_Backend c_0.Backends.n c_0.Backends.f), (.rs c_0.Vips.z .impl_Vip c_0.Vips.n c_0.Vips.f)]), (.agg [(ii f_1.From), (ii f_1.To), (ii f_1.Proto), (ii f_1.FromP), (ii f_1.ToP)])] (enc_i64 y) :=
 fun_good E_ok (pc_good (pc := pc_c15 fu) (hpc_c15 fu) hpx0) (fn := Tryz.f71) (by kernel_rfl) (by kernel_rfl) (by kernel_rfl) (lpok_c15 fu) (fun d hd => out_i64_enc d _ hd) ((ev_c15 fu c_0 f_1).trans hy)
theorem good_c15 (fu : Nat) : GoodS E Tryz.prog 71 (S_c15 fu) := by
 intro xs o h y hy
 unfold S_c15 at h
 split at h
 ·rename_i a0_1 za0_2 na0_2 fa0_2 za0_3 na0_3 fa0_3 ra0 a1_1 a1_2 a1_3 a1_4 a1_5
  cases h
  exact (goodv_c15 fu (⟨a0_1, (⟨za0_2, na0_2, fa0_2⟩ : (Sl S_impl_Backend)), (⟨za0_3, na0_3, fa0_3⟩ : (Sl S_impl_Vip))⟩ : S_impl_Config) (⟨a1_1, a1_2, a1_3, a1_4, a1_5⟩ : S_impl_Flow) y hy).sub ⟨Sub.of_eq ra0 rfl, .refl _, trivial⟩
 ·cases h
def F_slices_Index_int64_int64_B0 {ρ : Type} (fu : Nat) (s0_0 : (Sl Int)) (v1_1 t7_2 : Int) (k0 : Int → Option ρ) (k1 : Option ρ) (t8_3 : Int) (go : Int → Option ρ) : Option ρ :=
 (bif (decide (t8_3 < t7_2)) then ((bif (decide (0 ≤ t8_3) && decide ((Int.toNat t8_3) < s0_0.n)) then some () else none : Option Unit).bind fun _ => (bif (v1_1 == (s0_0.f (Int.toNat t8_3))) then
  (k0 t8_3) else (go (IntKind.wrap .i64 (t8_3 + 1))))) else k1)
def F_slices_Index_int64_int64 (fu : Nat) (s_0 : (Sl Int)) (v_1 : Int) : Option (Int) :=
 (L (fun w0 go0 => F_slices_Index_int64_int64_B0 fu s_0 v_1 ((s_0.n : Nat) : Int) (fun z343 => (some z343)) (some (-1)) w0 go0) fu (0 : Int))
def pc_c16 (fu : Nat) : Pc RT den := ⟨pcf0, fun _ => false, fun _ => false, pcd0, pcd0, pcd0, pcx0⟩
def msk_c16 (b : Nat) : List Nat := match b with | 0 => (rg 2 5 (rg 9 10 [])) | 100000 => (0 :: 1 :: 2 :: 3 :: (rg 5 14 [])) | _ => []
def ps_c16_0 : List (Pat RT) := (.flat (.rs .i64) :: .flat (.int .i64) :: (fq 5 (.flat (.int .i64) :: .flat (.int .i64) :: (fq 10 []))))
def os_c16_0 : List (OP RT) := []
def conv_c16_0 (r : Raw den ps_c16_0 os_c16_0) : ((Sl Int) × Int × Int) × (Int) := ((r.1.1, r.1.2.1, (e5 r.1).2.2.1), (e5 r.1).2.2.2.1)
def back_c16_0 (c : (Sl Int) × Int × Int) (w : Int) : St RT den := ⟨((.rs c.1.z .i64 c.1.n c.1.f) :: (ii c.2.1) :: (qs 5 ((ii c.2.2) :: (ii w) :: (qs 10 [])))), []⟩
def Bk_c16_0 {ρ : Type} (fu : Nat) (c : (Sl Int) × Int × Int) (k : Ex → St RT den → Option ρ) (w : Int) (go : (Int) → Option ρ) : Option ρ := F_slices_Index_int64_int64_B0 fu c.1 c.2.1 c.2.2 (fun a0 => k .ret ⟨(qs 4 ((ii a0) :: (qs 14 []))), []⟩) (k (.exit 0) ⟨(qs 19 []), []⟩) w go
def lp_c16 (fu : Nat) : Lp RT den (Int) := ⟨fun b s k => match b with | 0 => handle ps_c16_0 os_c16_0 conv_c16_0 (Bk_c16_0 fu) fu s k | _ => none, inl0⟩
theorem ev_c16 (fu : Nat) (s_0 : (Sl Int)) (v_1 : Int) : evFun E (pc_c16 fu) msk_c16 (lp_c16 fu) out_i64 103 [(.rs s_0.z .i64 s_0.n s_0.f), (ii v_1)] = F_slices_Index_int64_int64 fu s_0 v_1 := by kernel_rfl
noncomputable def body_c16 : Code := Tryz.f103.body.getD .skip
noncomputable def lc_c16_0 : Code := ((loops 0 body_c16).getD 0 (0, .skip)).2
theorem round_c16_0 (fu : Nat) : RoundOk E (pc_c16 fu) msk_c16 (lp_c16 fu) 0 lc_c16_0 back_c16_0 0 100000 0 (Bk_c16_0 fu) := fun it k c w => by kernel_rfl
theorem lpok_c16_0 (fu : Nat) : LpAt E (pc_c16 fu) msk_c16 (lp_c16 fu) 0 0 100000 0 lc_c16_0 :=
 handle_ok (ps := ps_c16_0) (os := os_c16_0) (conv := conv_c16_0) (B := Bk_c16_0 fu) (fu := fu) back_c16_0 (fun raw => by kernel_rfl) 0 (fun c w => by kernel_rfl) (round_c16_0 fu)
theorem lpok_c16 (fu : Nat) : LpOk E (pc_c16 fu) 0 msk_c16 (lp_c16 fu) (loops 0 body_c16) := lp_nil (loop_all 1 (by kernel_rfl) fun i hi => match i, hi with
 | 0, _ => by
  have h : (loops 0 body_c16).getD 0 (0, .skip) = (0, lc_c16_0) := by kernel_rfl
  rw [h]; exact lpok_c16_0 fu
 | i + 1, hi => absurd hi (by omega)) (by kernel_rfl)
def S_c16 (fu : Nat) (xs : List (D RT den)) : Option (Out RT den) := match xs with | [.rs za0_0 .i64 na0_0 fa0_0, .int .i64 a1_0] => some ⟨Int, F_slices_Index_int64_int64 fu (⟨za0_0, na0_0, fa0_0⟩ : (Sl Int)) a1_0, enc_i64, fun _ => true⟩ | _ => none
theorem goodv_c16 (fu : Nat) (s_0 : (Sl Int)) (v_1 y : Int) (hy : F_slices_Index_int64_int64 fu s_0 v_1 = some y) : Vm.Good E Tryz.prog 103 [(.rs s_0.z .i64 s_0.n s_0.f), (ii v_1)] (enc_i64 y) :=
 fun_good E_ok (pc_good (pc := pc_c16 fu) hpc0 hpx0) (fn := Tryz.f103) (by kernel_rfl) (by kernel_rfl) (by kernel_rfl) (lpok_c16 fu) (fun d hd => out_i64_enc d _ hd) ((ev_c16 fu s_0 v_1).trans hy)
theorem good_c16 (fu : Nat) : GoodS E Tryz.prog 103 (S_c16 fu) := by
 intro xs o h y hy
 unfold S_c16 at h
 split at h
 ·rename_i za0_0 na0_0 fa0_0 a1_0
  cases h
  exact goodv_c16 fu (⟨za0_0, na0_0, fa0_0⟩ : (Sl Int)) a1_0 y hy
 ·cases h
def F_slices_Contains_int64_int64 (fu : Nat) (s_0 : (Sl Int)) (v_1 : Int) : Option (Bool) :=
 ((F_slices_Index_int64_int64 fu s_0 v_1).bind fun y342 => (some (decide (y342 ≥ 0))))
def pcf_c17 (fu f : Nat) (xs : List (D RT den)) : Option (Out RT den) := match f with | 103 => S_c16 fu xs | _ => none
def pc_c17 (fu : Nat) : Pc RT den := ⟨pcf_c17 fu, fun _ => false, fun _ => false, pcd0, pcd0, pcd0, pcx0⟩
def msk_c17 (b : Nat) : List Nat := []
def lp_c17 (fu : Nat) : Lp RT den (Bool) := ⟨fun b s k => none, inl0⟩
theorem ev_c17 (fu : Nat) (s_0 : (Sl Int)) (v_1 : Int) : evFun E (pc_c17 fu) msk_c17 (lp_c17 fu) out_bo 73 [(.rs s_0.z .i64 s_0.n s_0.f), (ii v_1)] = F_slices_Contains_int64_int64 fu s_0 v_1 := by kernel_rfl
noncomputable def body_c17 : Code := Tryz.f73.body.getD .skip
theorem lpok_c17 (fu : Nat) : LpOk E (pc_c17 fu) 0 msk_c17 (lp_c17 fu) (loops 0 body_c17) := lp_nil (loop_nil (by kernel_rfl)) (by kernel_rfl)
def S_c17 (fu : Nat) (xs : List (D RT den)) : Option (Out RT den) := match xs with | [.rs za0_0 .i64 na0_0 fa0_0, .int .i64 a1_0] => some ⟨Bool, F_slices_Contains_int64_int64 fu (⟨za0_0, na0_0, fa0_0⟩ : (Sl Int)) a1_0, enc_bo, fun _ => true⟩ | _ => none
theorem hpc_c17 (fu : Nat) : HpcOk E Tryz.prog (pcf_c17 fu) := by
 intro f xs o h
 unfold pcf_c17 at h
 split at h
 ·exact good_c16 fu xs o h
 ·cases h
theorem goodv_c17 (fu : Nat) (s_0 : (Sl Int)) (v_1 : Int) (y : Bool) (hy : F_slices_Contains_int64_int64 fu s_0 v_1 = some y) : Vm.Good E Tryz.prog 73 [(.rs s_0.z .i64 s_0.n s_0.f), (ii v_1)] (enc_bo y) :=
 fun_good E_ok (pc_good (pc := pc_c17 fu) (hpc_c17 fu) hpx0) (fn := Tryz.f73) (by kernel_rfl) (by kernel_rfl) (by kernel_rfl) (lpok_c17 fu) (fun d hd => out_bo_enc d _ hd) ((ev_c17 fu s_0 v_1).trans hy)
theorem good_c17 (fu : Nat) : GoodS E Tryz.prog 73 (S_c17 fu) := by
 intro xs o h y hy
 unfold S_c17 at h
 split at h
 ·rename_i za0_0 na0_0 fa0_0 a1_0
  cases h
  exact goodv_c17 fu (⟨za0_0, na0_0, fa0_0⟩ : (Sl Int)) a1_0 y hy
 ·cases h
def F_impl_Config_serves (fu : Nat) (c_0 : S_impl_Config) (f_1 : S_impl_Flow) (name_2 : Int) : Option (Bool) :=
 ((F_impl_Config_vipOf fu c_0 f_1).bind fun y333 => ((F_impl_Config_backend fu c_0 name_2).bind fun y334 => (((bif (decide (y333 ≥ 0)) then (bif (decide (y334 ≥ 0)) then ((bif (decide (0 ≤ y333) &&
  decide ((Int.toNat y333) < c_0.Vips.n)) then some () else none : Option Unit).bind fun _ => ((F_slices_Contains_int64_int64 fu (c_0.Vips.f (Int.toNat y333)).Names name_2).bind fun y335 =>
  (bif y335 then ((bif (decide (0 ≤ y334) && decide ((Int.toNat y334) < c_0.Backends.n)) then some () else none : Option Unit).bind fun _ => (some ((c_0.Backends.f (Int.toNat y334)).Stage != 3))) else
  (some false)))) else (some false)) else (some false)) : Option Bool).bind fun m336 => (some m336))))
def pcf_c18 (fu f : Nat) (xs : List (D RT den)) : Option (Out RT den) := match f with | 71 => S_c15 fu xs | 72 => S_b20 fu xs | 73 => S_c17 fu xs | _ => none
def pc_c18 (fu : Nat) : Pc RT den := ⟨pcf_c18 fu, fun _ => false, fun _ => false, pcd0, pcd0, pcd0, pcx0⟩
def msk_c18 (b : Nat) : List Nat := match b with | 200002 => [6] | _ => []
def lp_c18 (fu : Nat) : Lp RT den (Bool) := ⟨fun b s k => none, inl0⟩
theorem ev_c18 (fu : Nat) (c_0 : S_impl_Config) (f_1 : S_impl_Flow) (name_2 : Int) : evFun E (pc_c18 fu) msk_c18 (lp_c18 fu) out_bo 44 [(.rptr [(ii c_0.Version), (.rs c_0.Backends.z .impl_Backend c_0.Backends.n c_0.Backends.f), (.rs c_0.Vips.z .impl_Vip c_0.Vips.n c_0.Vips.f)]), (.agg [(ii f_1.From), (ii f_1.To), (ii f_1.Proto), (ii f_1.FromP), (ii f_1.ToP)]), (ii name_2)] = F_impl_Config_serves fu c_0 f_1 name_2 := by kernel_rfl
noncomputable def body_c18 : Code := Tryz.f44.body.getD .skip
theorem lpok_c18 (fu : Nat) : LpOk E (pc_c18 fu) 0 msk_c18 (lp_c18 fu) (loops 0 body_c18) := lp_nil (loop_nil (by kernel_rfl)) (by kernel_rfl)
def S_c18 (fu : Nat) (xs : List (D RT den)) : Option (Out RT den) := match xs with | [.rptr (.int .i64 a0_1 :: .rs za0_2 .impl_Backend na0_2 fa0_2 :: .rs za0_3 .impl_Vip na0_3 fa0_3 :: ra0), .agg [.int .i64 a1_1, .int .i64 a1_2, .int .i64 a1_3, .int .i64 a1_4, .int .i64 a1_5], .int .i64 a2_0] => some ⟨Bool, F_impl_Config_serves fu (⟨a0_1, (⟨za0_2, na0_2, fa0_2⟩ : (Sl S_impl_Backend)), (⟨za0_3, na0_3, fa0_3⟩ : (Sl S_impl_Vip))⟩ : S_impl_Config) (⟨a1_1, a1_2, a1_3, a1_4, a1_5⟩ : S_impl_Flow) a2_0, enc_bo, fun _ => true⟩ | _ => none
theorem hpc_c18 (fu : Nat) : HpcOk E Tryz.prog (pcf_c18 fu) := by
 intro f xs o h
 unfold pcf_c18 at h
 split at h
 ·exact good_c15 fu xs o h
 ·exact good_b20 fu xs o h
 ·exact good_c17 fu xs o h
 ·cases h
theorem goodv_c18 (fu : Nat) (c_0 : S_impl_Config) (f_1 : S_impl_Flow) (name_2 : Int) (y : Bool) (hy : F_impl_Config_serves fu c_0 f_1 name_2 = some y) : Vm.Good E Tryz.prog 44 [(.rptr [(ii c_0.Version), (.rs c_0.Backends.z .impl_Backend c_0.Backends.n c_0.Backends.f), (.rs c_0.Vips.z .impl_Vip c_0.Vips.n c_0.Vips.f)]), (.agg [(ii f_1.From), (ii f_1.To), (ii f_1.Proto), (ii f_1.FromP), (ii f_1.ToP)]), (ii name_2)] (enc_bo y) :=
 fun_good E_ok (pc_good (pc := pc_c18 fu) (hpc_c18 fu) hpx0) (fn := Tryz.f44) (by kernel_rfl) (by kernel_rfl) (by kernel_rfl) (lpok_c18 fu) (fun d hd => out_bo_enc d _ hd) ((ev_c18 fu c_0 f_1 name_2).trans hy)
theorem good_c18 (fu : Nat) : GoodS E Tryz.prog 44 (S_c18 fu) := by
 intro xs o h y hy
 unfold S_c18 at h
 split at h
 ·rename_i a0_1 za0_2 na0_2 fa0_2 za0_3 na0_3 fa0_3 ra0 a1_1 a1_2 a1_3 a1_4 a1_5 a2_0
  cases h
  exact (goodv_c18 fu (⟨a0_1, (⟨za0_2, na0_2, fa0_2⟩ : (Sl S_impl_Backend)), (⟨za0_3, na0_3, fa0_3⟩ : (Sl S_impl_Vip))⟩ : S_impl_Config) (⟨a1_1, a1_2, a1_3, a1_4, a1_5⟩ : S_impl_Flow) a2_0 y hy).sub ⟨Sub.of_eq ra0 rfl, .refl _, .refl _, trivial⟩
 ·cases h
def F_impl_MuxFault_c1 (fu : Nat) (o_0 : S_impl_Held) (x_1_1 x_1_2 x_1_3 x_1_4 x_1_5 x_1_6 x_1_7 : Int) : Option (Bool) :=
 (some ((o_0.Flow.From == x_1_1) && ((o_0.Flow.To == x_1_2) && ((o_0.Flow.Proto == x_1_3) && ((o_0.Flow.FromP == x_1_4) && ((o_0.Flow.ToP == x_1_5) && true))))))
def pc_c19 (fu : Nat) : Pc RT den := ⟨pcf0, fun _ => false, fun _ => false, pcd0, pcd0, pcd0, pcx0⟩
def msk_c19 (b : Nat) : List Nat := []
def lp_c19 (fu : Nat) : Lp RT den (Bool) := ⟨fun b s k => none, inl0⟩
theorem ev_c19 (fu : Nat) (o_0 : S_impl_Held) (x_1_1 x_1_2 x_1_3 x_1_4 x_1_5 x_1_6 x_1_7 : Int) : evFun E (pc_c19 fu) msk_c19 (lp_c19 fu) out_bo 46 [(.agg [(ii o_0.Flow.From), (ii o_0.Flow.To), (ii o_0.Flow.Proto), (ii o_0.Flow.FromP), (ii o_0.Flow.ToP), (ii o_0.Name), (ii o_0.Seen)]), (.rptr [(ii x_1_1), (ii x_1_2), (ii x_1_3), (ii x_1_4), (ii x_1_5), (ii x_1_6), (ii x_1_7)])] = F_impl_MuxFault_c1 fu o_0 x_1_1 x_1_2 x_1_3 x_1_4 x_1_5 x_1_6 x_1_7 := by kernel_rfl
noncomputable def body_c19 : Code := Tryz.f46.body.getD .skip
theorem lpok_c19 (fu : Nat) : LpOk E (pc_c19 fu) 0 msk_c19 (lp_c19 fu) (loops 0 body_c19) := lp_nil (loop_nil (by kernel_rfl)) (by kernel_rfl)
def S_c19 (fu : Nat) (xs : List (D RT den)) : Option (Out RT den) := match xs with | [.agg [.int .i64 a0_2, .int .i64 a0_3, .int .i64 a0_4, .int .i64 a0_5, .int .i64 a0_6, .int .i64 a0_7, .int .i64 a0_8], .rptr [.int .i64 a1_0, .int .i64 a1_1, .int .i64 a1_2, .int .i64 a1_3, .int .i64 a1_4, .int .i64 a1_5, .int .i64 a1_6]] => some ⟨Bool, F_impl_MuxFault_c1 fu (⟨(⟨a0_2, a0_3, a0_4, a0_5, a0_6⟩ : S_impl_Flow), a0_7, a0_8⟩ : S_impl_Held) a1_0 a1_1 a1_2 a1_3 a1_4 a1_5 a1_6, enc_bo, fun _ => true⟩ | _ => none
theorem goodv_c19 (fu : Nat) (o_0 : S_impl_Held) (x_1_1 x_1_2 x_1_3 x_1_4 x_1_5 x_1_6 x_1_7 : Int) (y : Bool) (hy : F_impl_MuxFault_c1 fu o_0 x_1_1 x_1_2 x_1_3 x_1_4 x_1_5 x_1_6 x_1_7 = some y) : Vm.Good E Tryz.prog 46 [(.agg [(ii o_0.Flow.From), (ii o_0.Flow.To), (ii o_0.Flow.Proto), (ii o_0.Flow.FromP), (ii o_0.Flow.ToP), (ii o_0.Name), (ii o_0.Seen)]), (.rptr [(ii x_1_1), (ii x_1_2), (ii x_1_3), (ii x_1_4), (ii x_1_5), (ii x_1_6), (ii x_1_7)])] (enc_bo y) :=
 fun_good E_ok (pc_good (pc := pc_c19 fu) hpc0 hpx0) (fn := Tryz.f46) (by kernel_rfl) (by kernel_rfl) (by kernel_rfl) (lpok_c19 fu) (fun d hd => out_bo_enc d _ hd) ((ev_c19 fu o_0 x_1_1 x_1_2 x_1_3 x_1_4 x_1_5 x_1_6 x_1_7).trans hy)
theorem good_c19 (fu : Nat) : GoodS E Tryz.prog 46 (S_c19 fu) := by
 intro xs o h y hy
 unfold S_c19 at h
 split at h
 ·rename_i a0_2 a0_3 a0_4 a0_5 a0_6 a0_7 a0_8 a1_0 a1_1 a1_2 a1_3 a1_4 a1_5 a1_6
  cases h
  exact goodv_c19 fu (⟨(⟨a0_2, a0_3, a0_4, a0_5, a0_6⟩ : S_impl_Flow), a0_7, a0_8⟩ : S_impl_Held) a1_0 a1_1 a1_2 a1_3 a1_4 a1_5 a1_6 y hy
 ·cases h
def F_slices_IndexFunc_impl_Held_impl_Held_w_impl_MuxFault_c1_B0 {ρ : Type} (fu : Nat) (s0_0 : (Sl S_impl_Held)) (f1_1 f1_2 f1_3 f1_4 f1_5 f1_6 f1_7 t7_8 : Int) (k0 : Int → Option ρ) (k1 : Option ρ) (t8_9 : Int) (go : Int → Option ρ) : Option ρ :=
 (bif (decide (t8_9 < t7_8)) then ((bif (decide (0 ≤ t8_9) && decide ((Int.toNat t8_9) < s0_0.n)) then some () else none : Option Unit).bind fun _ => ((F_impl_MuxFault_c1 fu (s0_0.f (Int.toNat t8_9)) f1_1 f1_2 f1_3 f1_4 f1_5 f1_6 f1_7).bind fun y345 =>
  (bif y345 then (k0 t8_9) else (go (IntKind.wrap .i64 (t8_9 + 1)))))) else k1)
def F_slices_IndexFunc_impl_Held_impl_Held_w_impl_MuxFault_c1 (fu : Nat) (s_0 : (Sl S_impl_Held)) (f_1_1 f_1_2 f_1_3 f_1_4 f_1_5 f_1_6 f_1_7 : Int) : Option (Int) :=
 (L (fun w0 go0 => F_slices_IndexFunc_impl_Held_impl_Held_w_impl_MuxFault_c1_B0 fu s_0 f_1_1 f_1_2 f_1_3 f_1_4 f_1_5 f_1_6 f_1_7 ((s_0.n : Nat) : Int) (fun z346 => (some z346)) (some (-1)) w0 go0) fu (0 : Int))
def pcf_c20 (fu f : Nat) (xs : List (D RT den)) : Option (Out RT den) := match f with | 46 => S_c19 fu xs | _ => none
def pc_c20 (fu : Nat) : Pc RT den := ⟨pcf_c20 fu, fun _ => false, fun _ => false, pcd0, pcd0, pcd0, pcx0⟩
def msk_c20 (b : Nat) : List Nat := match b with | 0 => (rg 2 5 (rg 9 10 [])) | 100000 => (0 :: 1 :: 2 :: 3 :: (rg 5 14 [])) | _ => []
def ps_c20_0 : List (Pat RT) := (.flat (.rs .impl_Held) :: .fn 46 [.rptr [(.int .i64), (.int .i64), (.int .i64), (.int .i64), (.int .i64), (.int .i64), (.int .i64)]] :: (fq 5 (.flat (.int .i64) :: .flat (.int .i64) :: (fq 10 []))))
def os_c20_0 : List (OP RT) := []
def conv_c20_0 (r : Raw den ps_c20_0 os_c20_0) : (Yf1) × (Int) := ((r.1.1, r.1.2.1.1.1, r.1.2.1.1.2.1, r.1.2.1.1.2.2.1, r.1.2.1.1.2.2.2.1, r.1.2.1.1.2.2.2.2.1, (e5 r.1.2.1.1).1, (e5 r.1.2.1.1).2.1, (e5 r.1).2.2.1), (e5 r.1).2.2.2.1)
def back_c20_0 (c : Yf1) (w : Int) : St RT den := ⟨((.rs c.1.z .impl_Held c.1.n c.1.f) :: (.fn 46 [(.rptr [(ii c.2.1), (ii c.2.2.1), (ii c.2.2.2.1), (ii c.2.2.2.2.1), (ii (e5 c).1), (ii (e5 c).2.1), (ii (e5 c).2.2.1)])]) :: (qs 5 ((ii (e5 c).2.2.2) :: (ii w) :: (qs 10 [])))), []⟩
def Bk_c20_0 {ρ : Type} (fu : Nat) (c : Yf1) (k : Ex → St RT den → Option ρ) (w : Int) (go : (Int) → Option ρ) : Option ρ := F_slices_IndexFunc_impl_Held_impl_Held_w_impl_MuxFault_c1_B0 fu c.1 c.2.1 c.2.2.1 c.2.2.2.1 c.2.2.2.2.1 (e5 c).1 (e5 c).2.1 (e5 c).2.2.1 (e5 c).2.2.2 (fun a0 => k .ret ⟨(qs 4 ((ii a0) :: (qs 14 []))), []⟩) (k (.exit 0) ⟨(qs 19 []), []⟩) w go
def lp_c20 (fu : Nat) : Lp RT den (Int) := ⟨fun b s k => match b with | 0 => handle ps_c20_0 os_c20_0 conv_c20_0 (Bk_c20_0 fu) fu s k | _ => none, inl0⟩
theorem ev_c20 (fu : Nat) (s_0 : (Sl S_impl_Held)) (f_1_1 f_1_2 f_1_3 f_1_4 f_1_5 f_1_6 f_1_7 : Int) : evFun E (pc_c20 fu) msk_c20 (lp_c20 fu) out_i64 74 [(.rs s_0.z .impl_Held s_0.n s_0.f), (.fn 46 [(.rptr [(ii f_1_1), (ii f_1_2), (ii f_1_3), (ii f_1_4), (ii f_1_5), (ii f_1_6), (ii f_1_7)])])] = F_slices_IndexFunc_impl_Held_impl_Held_w_impl_MuxFault_c1 fu s_0 f_1_1 f_1_2 f_1_3 f_1_4 f_1_5 f_1_6 f_1_7 := by kernel_rfl
noncomputable def body_c20 : Code := Tryz.f74.body.getD .skip
noncomputable def lc_c20_0 : Code := ((loops 0 body_c20).getD 0 (0, .skip)).2
theorem round_c20_0 (fu : Nat) : RoundOk E (pc_c20 fu) msk_c20 (lp_c20 fu) 0 lc_c20_0 back_c20_0 0 100000 0 (Bk_c20_0 fu) := fun it k c w => by kernel_rfl
theorem lpok_c20_0 (fu : Nat) : LpAt E (pc_c20 fu) msk_c20 (lp_c20 fu) 0 0 100000 0 lc_c20_0 :=
 handle_ok (ps := ps_c20_0) (os := os_c20_0) (conv := conv_c20_0) (B := Bk_c20_0 fu) (fu := fu) back_c20_0 (fun raw => by kernel_rfl) 0 (fun c w => by kernel_rfl) (round_c20_0 fu)
theorem lpok_c20 (fu : Nat) : LpOk E (pc_c20 fu) 0 msk_c20 (lp_c20 fu) (loops 0 body_c20) := lp_nil (loop_all 1 (by kernel_rfl) fun i hi => match i, hi with
 | 0, _ => by
  have h : (loops 0 body_c20).getD 0 (0, .skip) = (0, lc_c20_0) := by kernel_rfl
  rw [h]; exact lpok_c20_0 fu
 | i + 1, hi => absurd hi (by omega)) (by kernel_rfl)
def S_c20 (fu : Nat) (xs : List (D RT den)) : Option (Out RT den) := match xs with | [.rs za0_0 .impl_Held na0_0 fa0_0, .fn 46 [.rptr [.int .i64 a1_0, .int .i64 a1_1, .int .i64 a1_2, .int .i64 a1_3, .int .i64 a1_4, .int .i64 a1_5, .int .i64 a1_6]]] => some ⟨Int, F_slices_IndexFunc_impl_Held_impl_Held_w_impl_MuxFault_c1 fu (⟨za0_0, na0_0, fa0_0⟩ : (Sl S_impl_Held)) a1_0 a1_1 a1_2 a1_3 a1_4 a1_5 a1_6, enc_i64, fun _ => true⟩ | _ => none
theorem hpc_c20 (fu : Nat) : HpcOk E Tryz.prog (pcf_c20 fu) := by
 intro f xs o h
 unfold pcf_c20 at h
 split at h
 ·exact good_c19 fu xs o h
 ·cases h
theorem goodv_c20 (fu : Nat) (s_0 : (Sl S_impl_Held)) (f_1_1 f_1_2 f_1_3 f_1_4 f_1_5 f_1_6 f_1_7 y : Int) (hy : F_slices_IndexFunc_impl_Held_impl_Held_w_impl_MuxFault_c1 fu s_0 f_1_1 f_1_2 f_1_3 f_1_4 f_1_5 f_1_6 f_1_7 = some y) : Vm.Good E Tryz.prog 74 [(.rs s_0.z .impl_Held s_0.n s_0.f), (.fn 46 [(.rptr [(ii f_1_1), (ii f_1_2), (ii f_1_3), (ii f_1_4), (ii f_1_5), (ii f_1_6), (ii f_1_7)])])] (enc_i64 y) :=
 fun_good E_ok (pc_good (pc := pc_c20 fu) (hpc_c20 fu) hpx0) (fn := Tryz.f74) (by kernel_rfl) (by kernel_rfl) (by kernel_rfl) (lpok_c20 fu) (fun d hd => out_i64_enc d _ hd) ((ev_c20 fu s_0 f_1_1 f_1_2 f_1_3 f_1_4 f_1_5 f_1_6 f_1_7).trans hy)
theorem good_c20 (fu : Nat) : GoodS E Tryz.prog 74 (S_c20 fu) := by
 intro xs o h y hy
 unfold S_c20 at h
 split at h
 ·rename_i za0_0 na0_0 fa0_0 a1_0 a1_1 a1_2 a1_3 a1_4 a1_5 a1_6
  cases h
  exact goodv_c20 fu (⟨za0_0, na0_0, fa0_0⟩ : (Sl S_impl_Held)) a1_0 a1_1 a1_2 a1_3 a1_4 a1_5 a1_6 y hy
 ·cases h
def F_slices_ContainsFunc_impl_Held_impl_Held_w_impl_MuxFault_c1 (fu : Nat) (s_0 : (Sl S_impl_Held)) (f_1_1 f_1_2 f_1_3 f_1_4 f_1_5 f_1_6 f_1_7 : Int) : Option (Bool) :=
 ((F_slices_IndexFunc_impl_Held_impl_Held_w_impl_MuxFault_c1 fu s_0 f_1_1 f_1_2 f_1_3 f_1_4 f_1_5 f_1_6 f_1_7).bind fun y344 => (some (decide (y344 ≥ 0))))
def pcf_c21 (fu f : Nat) (xs : List (D RT den)) : Option (Out RT den) := match f with | 74 => S_c20 fu xs | _ => none
def pc_c21 (fu : Nat) : Pc RT den := ⟨pcf_c21 fu, fun _ => false, fun _ => false, pcd0, pcd0, pcd0, pcx0⟩
def msk_c21 (b : Nat) : List Nat := []
def lp_c21 (fu : Nat) : Lp RT den (Bool) := ⟨fun b s k => none, inl0⟩
theorem ev_c21 (fu : Nat) (s_0 : (Sl S_impl_Held)) (f_1_1 f_1_2 f_1_3 f_1_4 f_1_5 f_1_6 f_1_7 : Int) : evFun E (pc_c21 fu) msk_c21 (lp_c21 fu) out_bo 45 [(.rs s_0.z .impl_Held s_0.n s_0.f), (.fn 46 [(.rptr [(ii f_1_1), (ii f_1_2), (ii f_1_3), (ii f_1_4), (ii f_1_5), (ii f_1_6), (ii f_1_7)])])] = F_slices_ContainsFunc_impl_Held_impl_Held_w_impl_MuxFault_c1 fu s_0 f_1_1 f_1_2 f_1_3 f_1_4 f_1_5 f_1_6 f_1_7 := by kernel_rfl
noncomputable def body_c21 : Code := Tryz.f45.body.getD .skip
theorem lpok_c21 (fu : Nat) : LpOk E (pc_c21 fu) 0 msk_c21 (lp_c21 fu) (loops 0 body_c21) := lp_nil (loop_nil (by kernel_rfl)) (by kernel_rfl)
def S_c21 (fu : Nat) (xs : List (D RT den)) : Option (Out RT den) := match xs with | [.rs za0_0 .impl_Held na0_0 fa0_0, .fn 46 [.rptr [.int .i64 a1_0, .int .i64 a1_1, .int .i64 a1_2, .int .i64 a1_3, .int .i64 a1_4, .int .i64 a1_5, .int .i64 a1_6]]] => some ⟨Bool, F_slices_ContainsFunc_impl_Held_impl_Held_w_impl_MuxFault_c1 fu (⟨za0_0, na0_0, fa0_0⟩ : (Sl S_impl_Held)) a1_0 a1_1 a1_2 a1_3 a1_4 a1_5 a1_6, enc_bo, fun _ => true⟩ | _ => none
theorem hpc_c21 (fu : Nat) : HpcOk E Tryz.prog (pcf_c21 fu) := by
 intro f xs o h
 unfold pcf_c21 at h
 split at h
 ·exact good_c20 fu xs o h
 ·cases h
theorem goodv_c21 (fu : Nat) (s_0 : (Sl S_impl_Held)) (f_1_1 f_1_2 f_1_3 f_1_4 f_1_5 f_1_6 f_1_7 : Int) (y : Bool) (hy : F_slices_ContainsFunc_impl_Held_impl_Held_w_impl_MuxFault_c1 fu s_0 f_1_1 f_1_2 f_1_3 f_1_4 f_1_5 f_1_6 f_1_7 = some y) : Vm.Good E Tryz.prog 45 [(.rs s_0.z .impl_Held s_0.n s_0.f), (.fn 46 [(.rptr [(ii f_1_1), (ii f_1_2), (ii f_1_3), (ii f_1_4), (ii f_1_5), (ii f_1_6), (ii f_1_7)])])] (enc_bo y) :=
 fun_good E_ok (pc_good (pc := pc_c21 fu) (hpc_c21 fu) hpx0) (fn := Tryz.f45) (by kernel_rfl) (by kernel_rfl) (by kernel_rfl) (lpok_c21 fu) (fun d hd => out_bo_enc d _ hd) ((ev_c21 fu s_0 f_1_1 f_1_2 f_1_3 f_1_4 f_1_5 f_1_6 f_1_7).trans hy)
theorem good_c21 (fu : Nat) : GoodS E Tryz.prog 45 (S_c21 fu) := by
 intro xs o h y hy
 unfold S_c21 at h
 split at h
 ·rename_i za0_0 na0_0 fa0_0 a1_0 a1_1 a1_2 a1_3 a1_4 a1_5 a1_6
  cases h
  exact goodv_c21 fu (⟨za0_0, na0_0, fa0_0⟩ : (Sl S_impl_Held)) a1_0 a1_1 a1_2 a1_3 a1_4 a1_5 a1_6 y hy
 ·cases h
end Go.Proofs.YtcmfekgdlaffkaaGreatDoor.Px
