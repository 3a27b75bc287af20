/- The functions' evaluated forms, each a proved summary. Conditions: none. -/
import Derived.Test.YtcmfekgdlaffkaaPmF2
namespace Go.Proofs.Ytcmfekgdlaffkaa.Pm
open Go Go.RowKit Go.Proofs Vm
set_option linter.unusedVariables false
set_option linter.unusedSimpArgs false
set_option maxRecDepth 100000
abbrev Yd0 : Type := (Sl S_impl_Vip) × Int × Int × (Sl S_impl_Backend) × (Sl S_impl_Vip)
abbrev Yd1 : Type := (Sl S_impl_Backend) × Int × Int × (Sl S_impl_Backend) × (Sl S_impl_Vip)
abbrev Yd2 : Type := (Sl S_impl_Vip) × Int × Int × Int × (Sl S_impl_Backend) × (Sl S_impl_Vip) × Int × Int × Int × (Sl Int)
abbrev Yd3 : Type := (Sl Int) × Int × (Sl S_impl_Backend) × (Sl S_impl_Vip) × Int × Int × Int × Int × Int × (Sl Int) × Int × (Sl Int) × Int
def F_impl_ConfigFault_B1 {ρ : Type} (fu : Nat) (t25_0 : (Sl S_impl_Backend)) (t26_1 o0_3 : Int) (o0_4 : (Sl S_impl_Backend)) (o0_5 : (Sl S_impl_Vip)) (k0 : Int → Int → Int → Int → Bool → Option ρ) (k1 : Int → Int → Int → Int → Bool → Option ρ) (k2 : Option ρ) (t27_2 : Int) (go : Int → Option ρ) : Option ρ :=
 (bif (decide (t27_2 < t26_1)) then ((bif (decide (0 ≤ t27_2) && decide ((Int.toNat t27_2) < t25_0.n)) then some () else none : Option Unit).bind fun _ => ((F_impl_isBackend fu (t25_0.f (Int.toNat t27_2))).bind fun y180 =>
  (bif (!y180) then (k0 (t25_0.f (Int.toNat t27_2)).Name (t25_0.f (Int.toNat t27_2)).Address (t25_0.f (Int.toNat t27_2)).Weight (t25_0.f (Int.toNat t27_2)).Stage (t25_0.f (Int.toNat t27_2)).Up) else
  (((bif (decide (t27_2 > 0)) then ((bif (decide (0 ≤ (IntKind.wrap .i64 (t27_2 - 1))) && decide ((Int.toNat (IntKind.wrap .i64 (t27_2 - 1))) < o0_4.n)) then some () else none : Option Unit).bind fun _ =>
  (some (decide ((t25_0.f (Int.toNat t27_2)).Name ≤ (o0_4.f (Int.toNat (IntKind.wrap .i64 (t27_2 - 1)))).Name)))) else (some false)) : Option Bool).bind fun m181 => (bif m181 then
  (k1 (t25_0.f (Int.toNat t27_2)).Name (t25_0.f (Int.toNat t27_2)).Address (t25_0.f (Int.toNat t27_2)).Weight (t25_0.f (Int.toNat t27_2)).Stage (t25_0.f (Int.toNat t27_2)).Up) else
  (go (IntKind.wrap .i64 (t27_2 + 1)))))))) else k2)
def F_impl_ConfigFault_B5 {ρ : Type} (fu : Nat) (t51_1 : (Sl S_impl_Vip)) (t52_2 t53_3 o0_4 : Int) (o0_5 : (Sl S_impl_Backend)) (o0_6 : (Sl S_impl_Vip)) (o1_7 o1_8 o1_9 : Int) (o1_10 : (Sl Int)) (k0 : Option ρ) (k1 : Option ρ) (k7_0 : Int) (go : Int → Option ρ) : Option ρ :=
 (bif (decide (k7_0 < ((o1_10.n : Nat) : Int))) then ((bif (decide (0 ≤ k7_0) && decide ((Int.toNat k7_0) < o1_10.n)) then some () else none : Option Unit).bind fun _ => ((bif (decide (0 ≤ (IntKind.wrap .i64 (k7_0 - 1))) &&
  decide ((Int.toNat (IntKind.wrap .i64 (k7_0 - 1))) < o1_10.n)) then some () else none : Option Unit).bind fun _ => (bif (decide ((o1_10.f (Int.toNat k7_0)) ≤ (o1_10.f (Int.toNat (IntKind.wrap .i64 (k7_0 - 1)))))) then
  k0 else (go (IntKind.wrap .i64 (k7_0 + 1)))))) else k1)
def F_impl_ConfigFault_B3 {ρ : Type} (fu : Nat) (t51_0 : (Sl S_impl_Vip)) (t52_1 o0_3 : Int) (o0_4 : (Sl S_impl_Backend)) (o0_5 : (Sl S_impl_Vip)) (k0 : Int → Int → Int → (Sl Int) → Option ρ) (k1 : Int → Int → Int → (Sl Int) → Option ρ) (k2 : Int → Int → Int → (Sl Int) → Option ρ) (k3 : Option ρ) (t53_2 : Int) (go : Int → Option ρ) : Option ρ :=
 (bif (decide (t53_2 < t52_1)) then ((bif (decide (0 ≤ t53_2) && decide ((Int.toNat t53_2) < t51_0.n)) then some () else none : Option Unit).bind fun _ => ((((F_impl_isAddress fu (t51_0.f (Int.toNat t53_2)).Address).bind fun y192 =>
  (bif (!y192) then (some true) else ((F_impl_isPort fu (t51_0.f (Int.toNat t53_2)).Port).bind fun y193 => (bif (!y193) then (some true) else ((F_impl_isProto fu (t51_0.f (Int.toNat t53_2)).Proto).bind fun y194 =>
  (some (!y194))))))) : Option Bool).bind fun m195 => (bif m195 then (k0 (t51_0.f (Int.toNat t53_2)).Address (t51_0.f (Int.toNat t53_2)).Port (t51_0.f (Int.toNat t53_2)).Proto (t51_0.f (Int.toNat t53_2)).Names) else
  (((bif (decide (t53_2 > 0)) then ((bif (decide (0 ≤ (IntKind.wrap .i64 (t53_2 - 1))) && decide ((Int.toNat (IntKind.wrap .i64 (t53_2 - 1))) < o0_5.n)) then some () else none : Option Unit).bind fun _ =>
  ((F_impl_compareVip fu (o0_5.f (Int.toNat (IntKind.wrap .i64 (t53_2 - 1)))) (t51_0.f (Int.toNat t53_2))).bind fun y196 => (some (decide (y196 ≥ 0))))) else (some false)) : Option Bool).bind fun m197 =>
  (bif m197 then (k1 (t51_0.f (Int.toNat t53_2)).Address (t51_0.f (Int.toNat t53_2)).Port (t51_0.f (Int.toNat t53_2)).Proto (t51_0.f (Int.toNat t53_2)).Names) else
  ((F_slices_ContainsFunc_int64_int64_w_impl_ConfigFault_c1 fu (t51_0.f (Int.toNat t53_2)).Names o0_3 o0_4 o0_5).bind fun y198 => (bif y198 then (k2 (t51_0.f (Int.toNat t53_2)).Address (t51_0.f (Int.toNat t53_2)).Port (t51_0.f (Int.toNat t53_2)).Proto (t51_0.f (Int.toNat t53_2)).Names) else
  (L (fun w5 go5 => F_impl_ConfigFault_B5 fu t51_0 t52_1 t53_2 o0_3 o0_4 o0_5 ((t51_0.f (Int.toNat t53_2)).Address) ((t51_0.f (Int.toNat t53_2)).Port) ((t51_0.f (Int.toNat t53_2)).Proto) ((t51_0.f (Int.toNat t53_2)).Names) ((k1 (t51_0.f (Int.toNat t53_2)).Address (t51_0.f (Int.toNat t53_2)).Port (t51_0.f (Int.toNat t53_2)).Proto (t51_0.f (Int.toNat t53_2)).Names)) ((go (IntKind.wrap .i64 (t53_2 + 1)))) w5 go5) fu (1 : Int))))))))) else
  k3)
def F_impl_ConfigFault (fu : Nat) (c_0 : S_impl_Config) : Option (Int) :=
 ((F_impl_in fu c_0.Version 0 1000000).bind fun y178 => (bif (!y178) then (some 3) else (((bif (decide (((c_0.Backends.n : Nat) : Int) > 8)) then (some true) else (some (decide (((c_0.Vips.n : Nat) : Int) > 4)))) : Option Bool).bind fun m179 =>
  (bif m179 then (some 2) else (L (fun w1 go1 => F_impl_ConfigFault_B1 fu c_0.Backends ((c_0.Backends.n : Nat) : Int) c_0.Version c_0.Backends c_0.Vips (fun z182 z183 z184 z185 z186 =>
  (some 3)) (fun z187 z188 z189 z190 z191 => (some 1)) (L (fun w3 go3 => F_impl_ConfigFault_B3 fu c_0.Vips ((c_0.Vips.n : Nat) : Int) c_0.Version c_0.Backends c_0.Vips (fun z199 z200 z201 z202 =>
  (some 3)) (fun z203 z204 z205 z206 => (some 1)) (fun z207 z208 z209 z210 => (some 4)) (some 0) w3 go3) fu (0 : Int)) w1 go1) fu (0 : Int))))))
def pcf_b20 (fu f : Nat) (xs : List (D RT den)) : Option (Out RT den) := match f with | 63 => S_b7 fu xs | 66 => S_b19 fu xs | 77 => S_a35 fu xs | 78 => S_b8 fu xs | 79 => S_b9 fu xs | 80 => S_a39 fu xs | 81 => S_b13 fu xs | _ => none
def pc_b20 (fu : Nat) : Pc RT den := ⟨pcf_b20 fu, fun _ => false, fun _ => false, pcd0, pcd0, pcd0, pcx0⟩
def msk_b20 (b : Nat) : List Nat := match b with | 1 => (0 :: (rg 2 23 (rg 28 83 []))) | 100001 => (0 :: (rg 3 108 [])) | 3 => (0 :: (rg 2 49 (rg 54 57 []))) | 100003 => (0 :: 1 :: (rg 3 108 [])) | 5 => (0 :: 2 :: 3 :: 4 :: 5 :: (rg 8 43 (rg 54 57 []))) | 100005 => (0 :: (rg 3 48 (rg 54 57 []))) | 200003 => [13] | 200010 => [48] | 200016 => [73] | 200018 => [86] | _ => []
def ps_b20_1 : List (Pat RT) := (.flat .q :: .flat (.ref 0 0) :: (fq 23 (.flat (.rs .impl_Backend) :: .flat (.int .i64) :: .flat (.int .i64) :: (fq 83 []))))
def os_b20_1 : List (OP RT) := [.box false [(.int .i64), (.rs .impl_Backend), (.rs .impl_Vip)]]
def conv_b20_1 (r : Raw den ps_b20_1 os_b20_1) : (Yd1) × (Int) := (((e5 (e20 r.1)).1, (e5 (e20 r.1)).2.1, r.2.1.1, r.2.1.2.1, r.2.1.2.2.1), (e5 (e20 r.1)).2.2.1)
def back_b20_1 (c : Yd1) (w : Int) : St RT den := ⟨(.q :: (.ref 0 0) :: (qs 23 ((.rs c.1.z .impl_Backend c.1.n c.1.f) :: (ii c.2.1) :: (ii w) :: (qs 83 [])))), [(.box false [(ii c.2.2.1), (.rs c.2.2.2.1.z .impl_Backend c.2.2.2.1.n c.2.2.2.1.f), (.rs c.2.2.2.2.z .impl_Vip c.2.2.2.2.n c.2.2.2.2.f)])]⟩
def Bk_b20_1 {ρ : Type} (fu : Nat) (c : Yd1) (k : Ex → St RT den → Option ρ) (w : Int) (go : (Int) → Option ρ) : Option ρ := F_impl_ConfigFault_B1 fu c.1 c.2.1 c.2.2.1 c.2.2.2.1 c.2.2.2.2 (fun a0 a1 a2 a3 a4 => k .ret ⟨(.q :: (.ref 0 0) :: (ii 3) :: (qs 108 [])), [(.box false [(ii c.2.2.1), (.rs c.2.2.2.1.z .impl_Backend c.2.2.2.1.n c.2.2.2.1.f), (.rs c.2.2.2.2.z .impl_Vip c.2.2.2.2.n c.2.2.2.2.f)]), (.box false [(ii a0), (ii a1), (ii a2), (ii a3), (.bool a4)])]⟩) (fun a0 a1 a2 a3 a4 => k .ret ⟨(.q :: (.ref 0 0) :: (ii 1) :: (qs 108 [])), [(.box false [(ii c.2.2.1), (.rs c.2.2.2.1.z .impl_Backend c.2.2.2.1.n c.2.2.2.1.f), (.rs c.2.2.2.2.z .impl_Vip c.2.2.2.2.n c.2.2.2.2.f)]), (.box false [(ii a0), (ii a1), (ii a2), (ii a3), (.bool a4)])]⟩) (k (.exit 1) ⟨(.q :: (.ref 0 0) :: (qs 109 [])), [(.box false [(ii c.2.2.1), (.rs c.2.2.2.1.z .impl_Backend c.2.2.2.1.n c.2.2.2.1.f), (.rs c.2.2.2.2.z .impl_Vip c.2.2.2.2.n c.2.2.2.2.f)])]⟩) w go
def ps_b20_5 : List (Pat RT) := (.flat .q :: .flat (.ref 0 0) :: (fq 4 (.flat (.ref 1 0) :: .flat (.int .i64) :: (fq 43 (.flat (.rs .impl_Vip) :: .flat (.int .i64) :: .flat (.int .i64) :: (fq 57 []))))))
def os_b20_5 : List (OP RT) := [.box false [(.int .i64), (.rs .impl_Backend), (.rs .impl_Vip)], .box false [(.int .i64), (.int .i64), (.int .i64), (.rs .i64)]]
def conv_b20_5 (r : Raw den ps_b20_5 os_b20_5) : (Yd2) × (Int) := (((e10 (e40 r.1)).2.1, (e10 (e40 r.1)).2.2.1, (e10 (e40 r.1)).2.2.2.1, r.2.1.1, r.2.1.2.1, r.2.1.2.2.1, r.2.2.1.1, r.2.2.1.2.1, r.2.2.1.2.2.1, r.2.2.1.2.2.2.1), (e5 r.1).2.2.1)
def back_b20_5 (c : Yd2) (w : Int) : St RT den := ⟨(.q :: (.ref 0 0) :: (qs 4 ((.ref 1 0) :: (ii w) :: (qs 43 ((.rs c.1.z .impl_Vip c.1.n c.1.f) :: (ii c.2.1) :: (ii c.2.2.1) :: (qs 57 [])))))), [(.box false [(ii c.2.2.2.1), (.rs c.2.2.2.2.1.z .impl_Backend c.2.2.2.2.1.n c.2.2.2.2.1.f), (.rs (e5 c).1.z .impl_Vip (e5 c).1.n (e5 c).1.f)]), (.box false [(ii (e5 c).2.1), (ii (e5 c).2.2.1), (ii (e5 c).2.2.2.1), (.rs (e5 c).2.2.2.2.z .i64 (e5 c).2.2.2.2.n (e5 c).2.2.2.2.f)])]⟩
def Bk_b20_5 {ρ : Type} (fu : Nat) (c : Yd2) (k : Ex → St RT den → Option ρ) (w : Int) (go : (Int) → Option ρ) : Option ρ := F_impl_ConfigFault_B5 fu c.1 c.2.1 c.2.2.1 c.2.2.2.1 c.2.2.2.2.1 (e5 c).1 (e5 c).2.1 (e5 c).2.2.1 (e5 c).2.2.2.1 (e5 c).2.2.2.2 (k .ret ⟨(.q :: (.ref 0 0) :: (ii 1) :: (qs 48 ((.rs c.1.z .impl_Vip c.1.n c.1.f) :: (ii c.2.1) :: (ii c.2.2.1) :: (qs 57 [])))), [(.box false [(ii c.2.2.2.1), (.rs c.2.2.2.2.1.z .impl_Backend c.2.2.2.2.1.n c.2.2.2.2.1.f), (.rs (e5 c).1.z .impl_Vip (e5 c).1.n (e5 c).1.f)]), (.box false [(ii (e5 c).2.1), (ii (e5 c).2.2.1), (ii (e5 c).2.2.2.1), (.rs (e5 c).2.2.2.2.z .i64 (e5 c).2.2.2.2.n (e5 c).2.2.2.2.f)])]⟩) (k (.exit 5) ⟨(.q :: (.ref 0 0) :: (qs 49 ((.rs c.1.z .impl_Vip c.1.n c.1.f) :: (ii c.2.1) :: (ii c.2.2.1) :: (qs 57 [])))), [(.box false [(ii c.2.2.2.1), (.rs c.2.2.2.2.1.z .impl_Backend c.2.2.2.2.1.n c.2.2.2.2.1.f), (.rs (e5 c).1.z .impl_Vip (e5 c).1.n (e5 c).1.f)]), (.box false [(ii (e5 c).2.1), (ii (e5 c).2.2.1), (ii (e5 c).2.2.2.1), (.rs (e5 c).2.2.2.2.z .i64 (e5 c).2.2.2.2.n (e5 c).2.2.2.2.f)])]⟩) w go
def ps_b20_3 : List (Pat RT) := (.flat .q :: .flat (.ref 0 0) :: (fq 49 (.flat (.rs .impl_Vip) :: .flat (.int .i64) :: .flat (.int .i64) :: (fq 57 []))))
def os_b20_3 : List (OP RT) := [.box false [(.int .i64), (.rs .impl_Backend), (.rs .impl_Vip)]]
def conv_b20_3 (r : Raw den ps_b20_3 os_b20_3) : (Yd0) × (Int) := (((e10 (e40 r.1)).2.1, (e10 (e40 r.1)).2.2.1, r.2.1.1, r.2.1.2.1, r.2.1.2.2.1), (e10 (e40 r.1)).2.2.2.1)
def back_b20_3 (c : Yd0) (w : Int) : St RT den := ⟨(.q :: (.ref 0 0) :: (qs 49 ((.rs c.1.z .impl_Vip c.1.n c.1.f) :: (ii c.2.1) :: (ii w) :: (qs 57 [])))), [(.box false [(ii c.2.2.1), (.rs c.2.2.2.1.z .impl_Backend c.2.2.2.1.n c.2.2.2.1.f), (.rs c.2.2.2.2.z .impl_Vip c.2.2.2.2.n c.2.2.2.2.f)])]⟩
def Bk_b20_3 {ρ : Type} (fu : Nat) (c : Yd0) (k : Ex → St RT den → Option ρ) (w : Int) (go : (Int) → Option ρ) : Option ρ := F_impl_ConfigFault_B3 fu c.1 c.2.1 c.2.2.1 c.2.2.2.1 c.2.2.2.2 (fun a0 a1 a2 a3 => k .ret ⟨(.q :: .q :: (ii 3) :: (qs 108 [])), [(.box false [(ii c.2.2.1), (.rs c.2.2.2.1.z .impl_Backend c.2.2.2.1.n c.2.2.2.1.f), (.rs c.2.2.2.2.z .impl_Vip c.2.2.2.2.n c.2.2.2.2.f)]), (.box false [(ii a0), (ii a1), (ii a2), (.rs a3.z .i64 a3.n a3.f)])]⟩) (fun a0 a1 a2 a3 => k .ret ⟨(.q :: .q :: (ii 1) :: (qs 108 [])), [(.box false [(ii c.2.2.1), (.rs c.2.2.2.1.z .impl_Backend c.2.2.2.1.n c.2.2.2.1.f), (.rs c.2.2.2.2.z .impl_Vip c.2.2.2.2.n c.2.2.2.2.f)]), (.box false [(ii a0), (ii a1), (ii a2), (.rs a3.z .i64 a3.n a3.f)])]⟩) (fun a0 a1 a2 a3 => k .ret ⟨(.q :: .q :: (ii 4) :: (qs 108 [])), [(.box false [(ii c.2.2.1), (.rs c.2.2.2.1.z .impl_Backend c.2.2.2.1.n c.2.2.2.1.f), (.rs c.2.2.2.2.z .impl_Vip c.2.2.2.2.n c.2.2.2.2.f)]), (.box false [(ii a0), (ii a1), (ii a2), (.rs a3.z .i64 a3.n a3.f)])]⟩) (k (.exit 3) ⟨(qs 111 []), [(.box false [(ii c.2.2.1), (.rs c.2.2.2.1.z .impl_Backend c.2.2.2.1.n c.2.2.2.1.f), (.rs c.2.2.2.2.z .impl_Vip c.2.2.2.2.n c.2.2.2.2.f)])]⟩) w go
def lp_b20 (fu : Nat) : Lp RT den (Int) := ⟨fun b s k => match b with | 1 => handle ps_b20_1 os_b20_1 conv_b20_1 (Bk_b20_1 fu) fu s k | 3 => handle ps_b20_3 os_b20_3 conv_b20_3 (Bk_b20_3 fu) fu s k | 5 => handle ps_b20_5 os_b20_5 conv_b20_5 (Bk_b20_5 fu) fu s k | _ => none, inl0⟩
theorem ev_b20 (fu : Nat) (c_0 : S_impl_Config) : evFun E (pc_b20 fu) msk_b20 (lp_b20 fu) out_i64 35 [(.agg [(ii c_0.Version), (.rs c_0.Backends.z .impl_Backend c_0.Backends.n c_0.Backends.f), (.rs c_0.Vips.z .impl_Vip c_0.Vips.n c_0.Vips.f)])] = F_impl_ConfigFault fu c_0 := by kernel_rfl
noncomputable def body_b20 : Code := Try.f35.body.getD .skip
noncomputable def lc_b20_1 : Code := ((loops 0 body_b20).getD 0 (0, .skip)).2
theorem round_b20_1 (fu : Nat) : RoundOk E (pc_b20 fu) msk_b20 (lp_b20 fu) 1 lc_b20_1 back_b20_1 1 100001 1 (Bk_b20_1 fu) := fun it k c w => by kernel_rfl
theorem lpok_b20_1 (fu : Nat) : LpAt E (pc_b20 fu) msk_b20 (lp_b20 fu) 1 1 100001 1 lc_b20_1 :=
 handle_ok (ps := ps_b20_1) (os := os_b20_1) (conv := conv_b20_1) (B := Bk_b20_1 fu) (fu := fu) back_b20_1 (fun raw => by kernel_rfl) 1 (fun c w => by kernel_rfl) (round_b20_1 fu)
noncomputable def lc_b20_3 : Code := ((loops 0 body_b20).getD 1 (0, .skip)).2
theorem round_b20_3 (fu : Nat) : RoundOk E (pc_b20 fu) msk_b20 (lp_b20 fu) 3 lc_b20_3 back_b20_3 3 100003 1 (Bk_b20_3 fu) := fun it k c w => by kernel_rfl
theorem lpok_b20_3 (fu : Nat) : LpAt E (pc_b20 fu) msk_b20 (lp_b20 fu) 3 3 100003 3 lc_b20_3 :=
 handle_ok (ps := ps_b20_3) (os := os_b20_3) (conv := conv_b20_3) (B := Bk_b20_3 fu) (fu := fu) back_b20_3 (fun raw => by kernel_rfl) 1 (fun c w => by kernel_rfl) (round_b20_3 fu)
noncomputable def lc_b20_5 : Code := ((loops 0 body_b20).getD 2 (0, .skip)).2
theorem round_b20_5 (fu : Nat) : RoundOk E (pc_b20 fu) msk_b20 (lp_b20 fu) 5 lc_b20_5 back_b20_5 5 100005 2 (Bk_b20_5 fu) := fun it k c w => by kernel_rfl
theorem lpok_b20_5 (fu : Nat) : LpAt E (pc_b20 fu) msk_b20 (lp_b20 fu) 5 5 100005 5 lc_b20_5 :=
 handle_ok (ps := ps_b20_5) (os := os_b20_5) (conv := conv_b20_5) (B := Bk_b20_5 fu) (fu := fu) back_b20_5 (fun raw => by kernel_rfl) 2 (fun c w => by kernel_rfl) (round_b20_5 fu)
theorem lpok_b20 (fu : Nat) : LpOk E (pc_b20 fu) 0 msk_b20 (lp_b20 fu) (loops 0 body_b20) := lp_nil (loop_all 3 (by kernel_rfl) fun i hi => match i, hi with
 | 0, _ => by
  have h : (loops 0 body_b20).getD 0 (0, .skip) = (1, lc_b20_1) := by kernel_rfl
  rw [h]; exact lpok_b20_1 fu
 | 1, _ => by
  have h : (loops 0 body_b20).getD 1 (0, .skip) = (3, lc_b20_3) := by kernel_rfl
  rw [h]; exact lpok_b20_3 fu
 | 2, _ => by
  have h : (loops 0 body_b20).getD 2 (0, .skip) = (5, lc_b20_5) := by kernel_rfl
  rw [h]; exact lpok_b20_5 fu
 | i + 3, hi => absurd hi (by omega)) (by kernel_rfl)
def S_b20 (fu : Nat) (xs : List (D RT den)) : Option (Out RT den) := match xs with | [.agg [.int .i64 a0_1, .rs za0_2 .impl_Backend na0_2 fa0_2, .rs za0_3 .impl_Vip na0_3 fa0_3]] => some ⟨Int, F_impl_ConfigFault fu (⟨a0_1, (⟨za0_2, na0_2, fa0_2⟩ : (Sl S_impl_Backend)), (⟨za0_3, na0_3, fa0_3⟩ : (Sl S_impl_Vip))⟩ : S_impl_Config), enc_i64, fun _ => true⟩ | _ => none
theorem hpc_b20 (fu : Nat) : HpcOk E Try.prog (pcf_b20 fu) := by
 intro f xs o h
 unfold pcf_b20 at h
 split at h
 ·exact good_b7 fu xs o h
 ·exact good_b19 fu xs o h
 ·exact good_a35 fu xs o h
 ·exact good_b8 fu xs o h
 ·exact good_b9 fu xs o h
 ·exact good_a39 fu xs o h
 ·exact good_b13 fu xs o h
 ·cases h
theorem goodv_b20 (fu : Nat) (c_0 : S_impl_Config) (y : Int) (hy : F_impl_ConfigFault fu c_0 = some y) : Vm.Good E Try.prog 35 [(.agg [(ii c_0.Version), (.rs c_0.Backends.z .impl_Backend c_0.Backends.n c_0.Backends.f), (.rs c_0.Vips.z .impl_Vip c_0.Vips.n c_0.Vips.f)])] (enc_i64 y) :=
 fun_good E_ok (pc_good (pc := pc_b20 fu) (hpc_b20 fu) hpx0) (fn := Try.f35) (by kernel_rfl) (by kernel_rfl) (by kernel_rfl) (lpok_b20 fu) (fun d hd => out_i64_enc d _ hd) ((ev_b20 fu c_0).trans hy)
theorem good_b20 (fu : Nat) : GoodS E Try.prog 35 (S_b20 fu) := by
 intro xs o h y hy
 unfold S_b20 at h
 split at h
 ·rename_i a0_1 za0_2 na0_2 fa0_2 za0_3 na0_3 fa0_3
  cases h
  exact goodv_b20 fu (⟨a0_1, (⟨za0_2, na0_2, fa0_2⟩ : (Sl S_impl_Backend)), (⟨za0_3, na0_3, fa0_3⟩ : (Sl S_impl_Vip))⟩ : S_impl_Config) y hy
 ·cases h
def F_impl_flowOf (fu : Nat) (p_0 : S_impl_Packet) : Option (S_impl_Flow) :=
 (some (⟨p_0.From, p_0.To, p_0.Proto, p_0.FromP, p_0.ToP⟩ : S_impl_Flow))
def pc_b21 (fu : Nat) : Pc RT den := ⟨pcf0, fun _ => false, fun _ => false, pcd0, pcd0, pcd0, pcx0⟩
def msk_b21 (b : Nat) : List Nat := []
def lp_b21 (fu : Nat) : Lp RT den (S_impl_Flow) := ⟨fun b s k => none, inl0⟩
theorem ev_b21 (fu : Nat) (p_0 : S_impl_Packet) : evFun E (pc_b21 fu) msk_b21 (lp_b21 fu) out_impl_Flow 64 [(.agg [(ii p_0.From), (ii p_0.To), (ii p_0.Proto), (ii p_0.FromP), (ii p_0.ToP), (.rs p_0.Load.z .u8 p_0.Load.n p_0.Load.f)])] = F_impl_flowOf fu p_0 := by kernel_rfl
noncomputable def body_b21 : Code := Try.f64.body.getD .skip
theorem lpok_b21 (fu : Nat) : LpOk E (pc_b21 fu) 0 msk_b21 (lp_b21 fu) (loops 0 body_b21) := lp_nil (loop_nil (by kernel_rfl)) (by kernel_rfl)
def S_b21 (fu : Nat) (xs : List (D RT den)) : Option (Out RT den) := match xs with | [.agg [.int .i64 a0_1, .int .i64 a0_2, .int .i64 a0_3, .int .i64 a0_4, .int .i64 a0_5, .rs za0_6 .u8 na0_6 fa0_6]] => some ⟨S_impl_Flow, F_impl_flowOf fu (⟨a0_1, a0_2, a0_3, a0_4, a0_5, (⟨za0_6, na0_6, fa0_6⟩ : (Sl Int))⟩ : S_impl_Packet), enc_impl_Flow, fun _ => true⟩ | _ => none
theorem goodv_b21 (fu : Nat) (p_0 : S_impl_Packet) (y : S_impl_Flow) (hy : F_impl_flowOf fu p_0 = some y) : Vm.Good E Try.prog 64 [(.agg [(ii p_0.From), (ii p_0.To), (ii p_0.Proto), (ii p_0.FromP), (ii p_0.ToP), (.rs p_0.Load.z .u8 p_0.Load.n p_0.Load.f)])] (enc_impl_Flow y) :=
 fun_good E_ok (pc_good (pc := pc_b21 fu) hpc0 hpx0) (fn := Try.f64) (by kernel_rfl) (by kernel_rfl) (by kernel_rfl) (lpok_b21 fu) (fun d hd => out_impl_Flow_enc d _ hd) ((ev_b21 fu p_0).trans hy)
theorem good_b21 (fu : Nat) : GoodS E Try.prog 64 (S_b21 fu) := by
 intro xs o h y hy
 unfold S_b21 at h
 split at h
 ·rename_i a0_1 a0_2 a0_3 a0_4 a0_5 za0_6 na0_6 fa0_6
  cases h
  exact goodv_b21 fu (⟨a0_1, a0_2, a0_3, a0_4, a0_5, (⟨za0_6, na0_6, fa0_6⟩ : (Sl Int))⟩ : S_impl_Packet) y hy
 ·cases h
def F_impl_put_G_B0 {ρ : Type} (fu : Nat) (n1_1 : Int) (k0 : Nat → Nat → (Nat → Int) → Option ρ) (out0_0 : Nat) (k7_2 : Int) (on0_3 : Nat) (of0_4 : (Nat → Int)) (go : Nat → Int → Nat → (Nat → Int) → Option ρ) : Option ρ :=
 (bif (decide (k7_2 ≥ 0)) then ((bif (decide (0 ≤ (IntKind.wrap .i64 (8 * k7_2)))) then some () else none : Option Unit).bind fun _ => (bif (decide ((out0_0 + 1) ≤ 9223372036854775807) &&
  decide ((out0_0 + 1) * 1 ≤ 140737488355328)) then (go (out0_0 + 1) (IntKind.wrap .i64 (k7_2 - 1)) (out0_0 + 1) (fun i => if i < out0_0 then (of0_4 i) else ((fun i =>
  ([(IntKind.wrap .u8 (shrInt .i64 n1_1 (IntKind.wrap .i64 (8 * k7_2))))] : List (Int)).getD i (dflt .u8)) (i - out0_0)))) else none)) else (k0 out0_0 on0_3 of0_4))
def F_impl_put_G (fu out_0_0 : Nat) (n_1 many_2 : Int) (rn0 : Nat) (rf0 : (Nat → Int)) : Option (Nat × Nat × (Nat → Int)) :=
 (L (fun w0 go0 => F_impl_put_G_B0 fu n_1 (fun z241 z242 z243 => (some (z241, z242, z243))) w0.1 w0.2.1 w0.2.2.1 w0.2.2.2 (fun q0 q1 q2 q3 => go0 (q0, q1, q2, q3))) fu ((out_0_0,
  (IntKind.wrap .i64 (many_2 - 1)), rn0, rf0) : Nat × Int × Nat × (Nat → Int)))
def pc_b22 (fu : Nat) : Pc RT den := ⟨pcf0, fun _ => false, fun _ => false, pcd0, pcd0, pcd0, pcx0⟩
def msk_b22 (b : Nat) : List Nat := match b with | 0 => (rg 2 5 (rg 8 15 [])) | 100000 => (rg 1 5 (rg 7 16 [])) | 300000 => [0] | _ => []
def ps_b22_0 : List (Pat RT) := (.flat (.os 0) :: .flat (.int .i64) :: (fq 5 (.flat (.int .i64) :: (fq 15 []))))
def os_b22_0 : List (OP RT) := [.row false .u8]
def conv_b22_0 (r : Raw den ps_b22_0 os_b22_0) : (Int) × (Nat × Int × Nat × (Nat → Int)) := (r.1.2.1, (r.1.1, (e5 r.1).2.2.1, r.2.1.1, r.2.1.2))
def back_b22_0 (c : Int) (w : Nat × Int × Nat × (Nat → Int)) : St RT den := ⟨((.os 0 w.1) :: (ii c) :: (qs 5 ((ii w.2.1) :: (qs 15 [])))), [(.row false .u8 w.2.2.1 w.2.2.2)]⟩
def Bk_b22_0 {ρ : Type} (fu : Nat) (c : Int) (k : Ex → St RT den → Option ρ) (w : Nat × Int × Nat × (Nat → Int)) (go : (Nat × Int × Nat × (Nat → Int)) → Option ρ) : Option ρ := F_impl_put_G_B0 fu c (fun a0 a1 a2 => k (.exit 0) ⟨((.os 0 a0) :: (qs 22 [])), [(.row false .u8 a1 a2)]⟩) w.1 w.2.1 w.2.2.1 w.2.2.2 (fun q0 q1 q2 q3 => go (q0, q1, q2, q3))
def lp_b22 (fu : Nat) : Lp RT den (Nat × Nat × (Nat → Int)) := ⟨fun b s k => match b with | 0 => handle ps_b22_0 os_b22_0 conv_b22_0 (Bk_b22_0 fu) fu s k | _ => none, inl0⟩
def enc_b22 (y : Nat × Nat × (Nat → Int)) : D RT den × List (Ob RT den) := (.os 0 y.1, [.row false .u8 y.2.1 y.2.2])
noncomputable def out_b22 : D RT den → List (Ob RT den) → Option (Nat × Nat × (Nat → Int)) := outG E .u8
theorem ev_b22 (fu out_0_0 : Nat) (n_1 many_2 : Int) (rn0 : Nat) (rf0 : (Nat → Int)) : evFunG E (pc_b22 fu) msk_b22 (lp_b22 fu) out_b22 83 [(.os 0 out_0_0), (ii n_1), (ii many_2)] [(.row false .u8 rn0 rf0)] = F_impl_put_G fu out_0_0 n_1 many_2 rn0 rf0 := by kernel_rfl
noncomputable def body_b22 : Code := Try.f83.body.getD .skip
noncomputable def lc_b22_0 : Code := ((loops 0 body_b22).getD 0 (0, .skip)).2
theorem round_b22_0 (fu : Nat) : RoundOk E (pc_b22 fu) msk_b22 (lp_b22 fu) 0 lc_b22_0 back_b22_0 0 100000 1 (Bk_b22_0 fu) := fun it k c w => by kernel_rfl
theorem lpok_b22_0 (fu : Nat) : LpAt E (pc_b22 fu) msk_b22 (lp_b22 fu) 0 0 100000 0 lc_b22_0 :=
 handle_ok (ps := ps_b22_0) (os := os_b22_0) (conv := conv_b22_0) (B := Bk_b22_0 fu) (fu := fu) back_b22_0 (fun raw => by kernel_rfl) 1 (fun c w => by kernel_rfl) (round_b22_0 fu)
theorem lpok_b22 (fu : Nat) : LpOk E (pc_b22 fu) 0 msk_b22 (lp_b22 fu) (loops 0 body_b22) := lp_nil (loop_all 1 (by kernel_rfl) fun i hi => match i, hi with
 | 0, _ => by
  have h : (loops 0 body_b22).getD 0 (0, .skip) = (0, lc_b22_0) := by kernel_rfl
  rw [h]; exact lpok_b22_0 fu
 | i + 1, hi => absurd hi (by omega)) (by kernel_rfl)
def S_b22 (fu : Nat) (xs : List (D RT den)) (ins : List (Ob RT den)) : Option (OutX RT den) := match xs, ins with | [.os 0 a0_0, .int .i64 a1_0, .int .i64 a2_0], [.row false .u8 rn0 rf0] => some ⟨Nat × Nat × (Nat → Int), F_impl_put_G fu a0_0 a1_0 a2_0 rn0 rf0, enc_b22⟩ | _, _ => none
theorem goodv_b22 (fu out_0_0 : Nat) (n_1 many_2 : Int) (rn0 : Nat) (rf0 : (Nat → Int)) (y : Nat × Nat × (Nat → Int)) (hy : F_impl_put_G fu out_0_0 n_1 many_2 rn0 rf0 = some y) : GoodG E Try.prog 83 [(.os 0 out_0_0), (ii n_1), (ii many_2)] [(.row false .u8 rn0 rf0)] (enc_b22 y).1 (enc_b22 y).2 :=
 funG_good E_ok (pc_good (pc := pc_b22 fu) hpc0 hpx0) (fn := Try.f83) (by kernel_rfl) (by kernel_rfl) (by kernel_rfl) (lpok_b22 fu) (fun d os hd => outG_enc hd) ((ev_b22 fu out_0_0 n_1 many_2 rn0 rf0).trans hy)
theorem good_b22 (fu : Nat) : ∀ xs ins o, S_b22 fu xs ins = some o → ∀ y, o.x = some y → GoodG E Try.prog 83 xs ins (o.g y).1 (o.g y).2 := by
 intro xs ins o h y hy
 unfold S_b22 at h
 split at h
 ·rename_i a0_0 a1_0 a2_0 rn0 rf0
  cases h
  exact goodv_b22 fu a0_0 a1_0 a2_0 rn0 rf0 y hy
 ·cases h
def F_impl_head_H (fu : Nat) (proto_0 from_1 to_2 many_3 : Int) : Option ((Sl Int)) :=
 ((F_impl_put_G fu 2 (IntKind.wrap .i64 (20 + many_3)) 2 2 (fun i => ([69, 0] : List (Int)).getD i (dflt .u8))).bind fun y258 => (bif (decide ((y258.1 + 8) ≤ 9223372036854775807) &&
  decide ((y258.1 + 8) * 1 ≤ 140737488355328)) then ((F_impl_put_G fu (y258.1 + 8) from_1 4 (y258.1 + 8) (fun i => if i < y258.1 then (y258.2.2 i) else ((fun i => ([0, 0, 0, 0,
  64, (IntKind.wrap .u8 proto_0), 0, 0] : List (Int)).getD i (dflt .u8)) (i - y258.1)))).bind fun y259 => ((F_impl_put_G fu y259.1 to_2 4 y259.2.1 y259.2.2).bind fun y260 => ((bif (decide (0 ≤ (10 : Int)) &&
  (decide ((10 : Int) ≤ 12) && decide ((Int.toNat 12) ≤ y260.1))) then some () else none : Option Unit).bind fun _ => ((F_impl_SumWords fu (⟨none, y260.1, y260.2.2⟩ : (Sl Int))).bind fun y261 =>
  ((F_impl_put_G fu 0 y261 2 0 (fun _ => dflt .u8)).bind fun y262 => (some (⟨none, y260.1, (fun i => if 10 ≤ i ∧ i < 10 + (min y262.1 ((Int.toNat 12) - 10)) then (y262.2.2 (i - 10)) else
  (y260.2.2 i))⟩ : (Sl Int)))))))) else none))
def pcf_b23 (fu f : Nat) (xs : List (D RT den)) : Option (Out RT den) := match f with | 134 => S_a37 fu xs | _ => none
def pcx_b23 (fu f : Nat) (xs : List (D RT den)) (ins : List (Ob RT den)) : Option (OutX RT den) := match f with | 83 => S_b22 fu xs ins | _ => none
def pcd_b23 : Nat → Bool := fun _ => false
def pcg_b23 : Nat → Bool := fun f => match f with | 83 => true | _ => false
def pc_b23 (fu : Nat) : Pc RT den := ⟨pcf_b23 fu, fun _ => false, fun _ => false, pcd_b23, pcd0, pcg_b23, pcx_b23 fu⟩
def msk_b23 (b : Nat) : List Nat := match b with | 600001 => [990] | 800001 => (rg 4 27 []) | 600002 => [3990] | 800002 => (rg 3 6 (rg 10 21 [])) | _ => []
def lp_b23 (fu : Nat) : Lp RT den ((Sl Int)) := ⟨fun b s k => none, inl0⟩
theorem ev_b23 (fu : Nat) (proto_0 from_1 to_2 many_3 : Int) : evFunX E false (pc_b23 fu) msk_b23 (lp_b23 fu) out_sl_u8_H 115 [(ii proto_0), (ii from_1), (ii to_2), (ii many_3)] [] = F_impl_head_H fu proto_0 from_1 to_2 many_3 := by kernel_rfl
noncomputable def body_b23 : Code := Try.f115.body.getD .skip
theorem lpok_b23 (fu : Nat) : LpOk E (pc_b23 fu) 0 msk_b23 (lp_b23 fu) (loops 0 body_b23) := lp_nil (loop_nil (by kernel_rfl)) (by kernel_rfl)
def S_b23 (fu : Nat) (xs : List (D RT den)) (ins : List (Ob RT den)) : Option (OutX RT den) := match xs, ins with | [.int .i64 a0_0, .int .i64 a1_0, .int .i64 a2_0, .int .i64 a3_0], [] => some ⟨(Sl Int), F_impl_head_H fu a0_0 a1_0 a2_0 a3_0, enc_sl_u8_H⟩ | _, _ => none
theorem hpc_b23 (fu : Nat) : HpcOk E Try.prog (pcf_b23 fu) := by
 intro f xs o h
 unfold pcf_b23 at h
 split at h
 ·exact good_a37 fu xs o h
 ·cases h
theorem hpx_b23 (fu : Nat) : HpxOk E Try.prog pcd_b23 pcg_b23 (pcx_b23 fu) := by
 intro f xs ins o h
 unfold pcx_b23 at h
 split at h
 ·exact good_b22 fu xs ins o h
 ·cases h
theorem goodv_b23 (fu : Nat) (proto_0 from_1 to_2 many_3 : Int) (y : (Sl Int)) (hy : F_impl_head_H fu proto_0 from_1 to_2 many_3 = some y) : GoodX E Try.prog 115 [(ii proto_0), (ii from_1), (ii to_2), (ii many_3)] [] (enc_sl_u8_H y).1 (enc_sl_u8_H y).2 :=
 funX_good (ke := false) E_ok (pc_good (pc := pc_b23 fu) (hpc_b23 fu) (hpx_b23 fu)) (fn := Try.f115) (by kernel_rfl) (by kernel_rfl) (by kernel_rfl) (lpok_b23 fu) (by kernel_rfl) (Nat.zero_le _) (fun d os hd => out_sl_u8_H_enc d os _ hd) ((ev_b23 fu proto_0 from_1 to_2 many_3).trans hy)
theorem good_b23 (fu : Nat) : GoodSX E Try.prog 115 (S_b23 fu) := by
 intro xs ins o h y hy
 unfold S_b23 at h
 split at h
 ·rename_i a0_0 a1_0 a2_0 a3_0
  cases h
  exact goodv_b23 fu a0_0 a1_0 a2_0 a3_0 y hy
 ·cases h
def F_impl_wrap_H (fu : Nat) (from_0 to_1 : Int) (inner_2 : (Sl Int)) : Option ((Sl Int)) :=
 ((F_impl_size_byte fu inner_2).bind fun y250 => ((F_impl_head_H fu 47 from_0 to_1 (IntKind.wrap .i64 (4 + y250))).bind fun y263 => (bif (decide ((y263.n + 4) ≤ 9223372036854775807) &&
  decide ((y263.n + 4) * 1 ≤ 140737488355328)) then (bif (decide (((y263.n + 4) + inner_2.n) ≤ 9223372036854775807) && decide (((y263.n + 4) + inner_2.n) * 1 ≤ 140737488355328)) then
  (some (⟨none, ((y263.n + 4) + inner_2.n), (fun i => if i < (y263.n + 4) then ((fun i => if i < y263.n then (y263.f i) else ((fun i => ([0, 0, 8, 0] : List (Int)).getD i (dflt .u8)) (i - y263.n))) i) else
  (inner_2.f (i - (y263.n + 4))))⟩ : (Sl Int))) else none) else none)))
def pcf_b24 (fu f : Nat) (xs : List (D RT den)) : Option (Out RT den) := match f with | 109 => S_a34 fu xs | _ => none
def pcx_b24 (fu f : Nat) (xs : List (D RT den)) (ins : List (Ob RT den)) : Option (OutX RT den) := match f with | 115 => S_b23 fu xs ins | _ => none
def pcd_b24 : Nat → Bool := fun _ => false
def pc_b24 (fu : Nat) : Pc RT den := ⟨pcf_b24 fu, fun f => match f with | 115 => true | _ => false, fun _ => false, pcd_b24, pcd0, pcd0, pcx_b24 fu⟩
def msk_b24 (b : Nat) : List Nat := []
def lp_b24 (fu : Nat) : Lp RT den ((Sl Int)) := ⟨fun b s k => none, inl0⟩
theorem ev_b24 (fu : Nat) (from_0 to_1 : Int) (inner_2 : (Sl Int)) : evFunX E false (pc_b24 fu) msk_b24 (lp_b24 fu) out_sl_u8_H 69 [(ii from_0), (ii to_1), (.rs inner_2.z .u8 inner_2.n inner_2.f)] [] = F_impl_wrap_H fu from_0 to_1 inner_2 := by kernel_rfl
noncomputable def body_b24 : Code := Try.f69.body.getD .skip
theorem lpok_b24 (fu : Nat) : LpOk E (pc_b24 fu) 0 msk_b24 (lp_b24 fu) (loops 0 body_b24) := lp_nil (loop_nil (by kernel_rfl)) (by kernel_rfl)
def S_b24 (fu : Nat) (xs : List (D RT den)) (ins : List (Ob RT den)) : Option (OutX RT den) := match xs, ins with | [.int .i64 a0_0, .int .i64 a1_0, .rs za2_0 .u8 na2_0 fa2_0], [] => some ⟨(Sl Int), F_impl_wrap_H fu a0_0 a1_0 (⟨za2_0, na2_0, fa2_0⟩ : (Sl Int)), enc_sl_u8_H⟩ | _, _ => none
theorem hpc_b24 (fu : Nat) : HpcOk E Try.prog (pcf_b24 fu) := by
 intro f xs o h
 unfold pcf_b24 at h
 split at h
 ·exact good_a34 fu xs o h
 ·cases h
theorem hpx_b24 (fu : Nat) : HpxOk E Try.prog pcd_b24 pcd0 (pcx_b24 fu) := by
 intro f xs ins o h
 unfold pcx_b24 at h
 split at h
 ·exact good_b23 fu xs ins o h
 ·cases h
theorem goodv_b24 (fu : Nat) (from_0 to_1 : Int) (inner_2 y : (Sl Int)) (hy : F_impl_wrap_H fu from_0 to_1 inner_2 = some y) : GoodX E Try.prog 69 [(ii from_0), (ii to_1), (.rs inner_2.z .u8 inner_2.n inner_2.f)] [] (enc_sl_u8_H y).1 (enc_sl_u8_H y).2 :=
 funX_good (ke := false) E_ok (pc_good (pc := pc_b24 fu) (hpc_b24 fu) (hpx_b24 fu)) (fn := Try.f69) (by kernel_rfl) (by kernel_rfl) (by kernel_rfl) (lpok_b24 fu) (by kernel_rfl) (Nat.zero_le _) (fun d os hd => out_sl_u8_H_enc d os _ hd) ((ev_b24 fu from_0 to_1 inner_2).trans hy)
theorem good_b24 (fu : Nat) : GoodSX E Try.prog 69 (S_b24 fu) := by
 intro xs ins o h y hy
 unfold S_b24 at h
 split at h
 ·rename_i a0_0 a1_0 za2_0 na2_0 fa2_0
  cases h
  exact goodv_b24 fu a0_0 a1_0 (⟨za2_0, na2_0, fa2_0⟩ : (Sl Int)) y hy
 ·cases h
def F_slices_Index_int64_int64_B0 {ρ : Type} (fu : Nat) (s0_0 : (Sl Int)) (v1_1 t7_2 : Int) (k0 : Int → Option ρ) (k1 : Option ρ) (t8_3 : Int) (go : Int → Option ρ) : Option ρ :=
 (bif (decide (t8_3 < t7_2)) then ((bif (decide (0 ≤ t8_3) && decide ((Int.toNat t8_3) < s0_0.n)) then some () else none : Option Unit).bind fun _ => (bif (v1_1 == (s0_0.f (Int.toNat t8_3))) then
  (k0 t8_3) else (go (IntKind.wrap .i64 (t8_3 + 1))))) else k1)
def F_slices_Index_int64_int64 (fu : Nat) (s_0 : (Sl Int)) (v_1 : Int) : Option (Int) :=
 (L (fun w0 go0 => F_slices_Index_int64_int64_B0 fu s_0 v_1 ((s_0.n : Nat) : Int) (fun z271 => (some z271)) (some (-1)) w0 go0) fu (0 : Int))
def pc_b25 (fu : Nat) : Pc RT den := ⟨pcf0, fun _ => false, fun _ => false, pcd0, pcd0, pcd0, pcx0⟩
def msk_b25 (b : Nat) : List Nat := match b with | 0 => (rg 2 5 (rg 9 10 [])) | 100000 => (0 :: 1 :: 2 :: 3 :: (rg 5 14 [])) | _ => []
def ps_b25_0 : List (Pat RT) := (.flat (.rs .i64) :: .flat (.int .i64) :: (fq 5 (.flat (.int .i64) :: .flat (.int .i64) :: (fq 10 []))))
def os_b25_0 : List (OP RT) := []
def conv_b25_0 (r : Raw den ps_b25_0 os_b25_0) : ((Sl Int) × Int × Int) × (Int) := ((r.1.1, r.1.2.1, (e5 r.1).2.2.1), (e5 r.1).2.2.2.1)
def back_b25_0 (c : (Sl Int) × Int × Int) (w : Int) : St RT den := ⟨((.rs c.1.z .i64 c.1.n c.1.f) :: (ii c.2.1) :: (qs 5 ((ii c.2.2) :: (ii w) :: (qs 10 [])))), []⟩
def Bk_b25_0 {ρ : Type} (fu : Nat) (c : (Sl Int) × Int × Int) (k : Ex → St RT den → Option ρ) (w : Int) (go : (Int) → Option ρ) : Option ρ := F_slices_Index_int64_int64_B0 fu c.1 c.2.1 c.2.2 (fun a0 => k .ret ⟨(qs 4 ((ii a0) :: (qs 14 []))), []⟩) (k (.exit 0) ⟨(qs 19 []), []⟩) w go
def lp_b25 (fu : Nat) : Lp RT den (Int) := ⟨fun b s k => match b with | 0 => handle ps_b25_0 os_b25_0 conv_b25_0 (Bk_b25_0 fu) fu s k | _ => none, inl0⟩
theorem ev_b25 (fu : Nat) (s_0 : (Sl Int)) (v_1 : Int) : evFun E (pc_b25 fu) msk_b25 (lp_b25 fu) out_i64 137 [(.rs s_0.z .i64 s_0.n s_0.f), (ii v_1)] = F_slices_Index_int64_int64 fu s_0 v_1 := by kernel_rfl
noncomputable def body_b25 : Code := Try.f137.body.getD .skip
noncomputable def lc_b25_0 : Code := ((loops 0 body_b25).getD 0 (0, .skip)).2
theorem round_b25_0 (fu : Nat) : RoundOk E (pc_b25 fu) msk_b25 (lp_b25 fu) 0 lc_b25_0 back_b25_0 0 100000 0 (Bk_b25_0 fu) := fun it k c w => by kernel_rfl
theorem lpok_b25_0 (fu : Nat) : LpAt E (pc_b25 fu) msk_b25 (lp_b25 fu) 0 0 100000 0 lc_b25_0 :=
 handle_ok (ps := ps_b25_0) (os := os_b25_0) (conv := conv_b25_0) (B := Bk_b25_0 fu) (fu := fu) back_b25_0 (fun raw => by kernel_rfl) 0 (fun c w => by kernel_rfl) (round_b25_0 fu)
theorem lpok_b25 (fu : Nat) : LpOk E (pc_b25 fu) 0 msk_b25 (lp_b25 fu) (loops 0 body_b25) := lp_nil (loop_all 1 (by kernel_rfl) fun i hi => match i, hi with
 | 0, _ => by
  have h : (loops 0 body_b25).getD 0 (0, .skip) = (0, lc_b25_0) := by kernel_rfl
  rw [h]; exact lpok_b25_0 fu
 | i + 1, hi => absurd hi (by omega)) (by kernel_rfl)
def S_b25 (fu : Nat) (xs : List (D RT den)) : Option (Out RT den) := match xs with | [.rs za0_0 .i64 na0_0 fa0_0, .int .i64 a1_0] => some ⟨Int, F_slices_Index_int64_int64 fu (⟨za0_0, na0_0, fa0_0⟩ : (Sl Int)) a1_0, enc_i64, fun _ => true⟩ | _ => none
theorem goodv_b25 (fu : Nat) (s_0 : (Sl Int)) (v_1 y : Int) (hy : F_slices_Index_int64_int64 fu s_0 v_1 = some y) : Vm.Good E Try.prog 137 [(.rs s_0.z .i64 s_0.n s_0.f), (ii v_1)] (enc_i64 y) :=
 fun_good E_ok (pc_good (pc := pc_b25 fu) hpc0 hpx0) (fn := Try.f137) (by kernel_rfl) (by kernel_rfl) (by kernel_rfl) (lpok_b25 fu) (fun d hd => out_i64_enc d _ hd) ((ev_b25 fu s_0 v_1).trans hy)
theorem good_b25 (fu : Nat) : GoodS E Try.prog 137 (S_b25 fu) := by
 intro xs o h y hy
 unfold S_b25 at h
 split at h
 ·rename_i za0_0 na0_0 fa0_0 a1_0
  cases h
  exact goodv_b25 fu (⟨za0_0, na0_0, fa0_0⟩ : (Sl Int)) a1_0 y hy
 ·cases h
def F_slices_Contains_int64_int64 (fu : Nat) (s_0 : (Sl Int)) (v_1 : Int) : Option (Bool) :=
 ((F_slices_Index_int64_int64 fu s_0 v_1).bind fun y270 => (some (decide (y270 ≥ 0))))
def pcf_b26 (fu f : Nat) (xs : List (D RT den)) : Option (Out RT den) := match f with | 137 => S_b25 fu xs | _ => none
def pc_b26 (fu : Nat) : Pc RT den := ⟨pcf_b26 fu, fun _ => false, fun _ => false, pcd0, pcd0, pcd0, pcx0⟩
def msk_b26 (b : Nat) : List Nat := []
def lp_b26 (fu : Nat) : Lp RT den (Bool) := ⟨fun b s k => none, inl0⟩
theorem ev_b26 (fu : Nat) (s_0 : (Sl Int)) (v_1 : Int) : evFun E (pc_b26 fu) msk_b26 (lp_b26 fu) out_bo 114 [(.rs s_0.z .i64 s_0.n s_0.f), (ii v_1)] = F_slices_Contains_int64_int64 fu s_0 v_1 := by kernel_rfl
noncomputable def body_b26 : Code := Try.f114.body.getD .skip
theorem lpok_b26 (fu : Nat) : LpOk E (pc_b26 fu) 0 msk_b26 (lp_b26 fu) (loops 0 body_b26) := lp_nil (loop_nil (by kernel_rfl)) (by kernel_rfl)
def S_b26 (fu : Nat) (xs : List (D RT den)) : Option (Out RT den) := match xs with | [.rs za0_0 .i64 na0_0 fa0_0, .int .i64 a1_0] => some ⟨Bool, F_slices_Contains_int64_int64 fu (⟨za0_0, na0_0, fa0_0⟩ : (Sl Int)) a1_0, enc_bo, fun _ => true⟩ | _ => none
theorem hpc_b26 (fu : Nat) : HpcOk E Try.prog (pcf_b26 fu) := by
 intro f xs o h
 unfold pcf_b26 at h
 split at h
 ·exact good_b25 fu xs o h
 ·cases h
theorem goodv_b26 (fu : Nat) (s_0 : (Sl Int)) (v_1 : Int) (y : Bool) (hy : F_slices_Contains_int64_int64 fu s_0 v_1 = some y) : Vm.Good E Try.prog 114 [(.rs s_0.z .i64 s_0.n s_0.f), (ii v_1)] (enc_bo y) :=
 fun_good E_ok (pc_good (pc := pc_b26 fu) (hpc_b26 fu) hpx0) (fn := Try.f114) (by kernel_rfl) (by kernel_rfl) (by kernel_rfl) (lpok_b26 fu) (fun d hd => out_bo_enc d _ hd) ((ev_b26 fu s_0 v_1).trans hy)
theorem good_b26 (fu : Nat) : GoodS E Try.prog 114 (S_b26 fu) := by
 intro xs o h y hy
 unfold S_b26 at h
 split at h
 ·rename_i za0_0 na0_0 fa0_0 a1_0
  cases h
  exact goodv_b26 fu (⟨za0_0, na0_0, fa0_0⟩ : (Sl Int)) a1_0 y hy
 ·cases h
def F_impl_Config_serves (fu : Nat) (c_0 : S_impl_Config) (f_1 : S_impl_Flow) (name_2 : Int) : Option (Bool) :=
 ((F_impl_Config_vipOf fu c_0 f_1).bind fun y266 => ((F_impl_Config_backend fu c_0 name_2).bind fun y267 => (((bif (decide (y266 ≥ 0)) then (bif (decide (y267 ≥ 0)) then ((bif (decide (0 ≤ y266) &&
  decide ((Int.toNat y266) < c_0.Vips.n)) then some () else none : Option Unit).bind fun _ => ((F_slices_Contains_int64_int64 fu (c_0.Vips.f (Int.toNat y266)).Names name_2).bind fun y268 =>
  (bif y268 then ((bif (decide (0 ≤ y267) && decide ((Int.toNat y267) < c_0.Backends.n)) then some () else none : Option Unit).bind fun _ => (some ((c_0.Backends.f (Int.toNat y267)).Stage != 3))) else
  (some false)))) else (some false)) else (some false)) : Option Bool).bind fun m269 => (some m269))))
def pcf_b27 (fu f : Nat) (xs : List (D RT den)) : Option (Out RT den) := match f with | 65 => S_b5 fu xs | 70 => S_b16 fu xs | 114 => S_b26 fu xs | _ => none
def pc_b27 (fu : Nat) : Pc RT den := ⟨pcf_b27 fu, fun _ => false, fun _ => false, pcd0, pcd0, pcd0, pcx0⟩
def msk_b27 (b : Nat) : List Nat := match b with | 200002 => [6] | _ => []
def lp_b27 (fu : Nat) : Lp RT den (Bool) := ⟨fun b s k => none, inl0⟩
theorem ev_b27 (fu : Nat) (c_0 : S_impl_Config) (f_1 : S_impl_Flow) (name_2 : Int) : evFun E (pc_b27 fu) msk_b27 (lp_b27 fu) out_bo 68 [(.rptr [(ii c_0.Version), (.rs c_0.Backends.z .impl_Backend c_0.Backends.n c_0.Backends.f), (.rs c_0.Vips.z .impl_Vip c_0.Vips.n c_0.Vips.f)]), (.agg [(ii f_1.From), (ii f_1.To), (ii f_1.Proto), (ii f_1.FromP), (ii f_1.ToP)]), (ii name_2)] = F_impl_Config_serves fu c_0 f_1 name_2 := by kernel_rfl
noncomputable def body_b27 : Code := Try.f68.body.getD .skip
theorem lpok_b27 (fu : Nat) : LpOk E (pc_b27 fu) 0 msk_b27 (lp_b27 fu) (loops 0 body_b27) := lp_nil (loop_nil (by kernel_rfl)) (by kernel_rfl)
def S_b27 (fu : Nat) (xs : List (D RT den)) : Option (Out RT den) := match xs with | [.rptr (.int .i64 a0_1 :: .rs za0_2 .impl_Backend na0_2 fa0_2 :: .rs za0_3 .impl_Vip na0_3 fa0_3 :: ra0), .agg [.int .i64 a1_1, .int .i64 a1_2, .int .i64 a1_3, .int .i64 a1_4, .int .i64 a1_5], .int .i64 a2_0] => some ⟨Bool, F_impl_Config_serves fu (⟨a0_1, (⟨za0_2, na0_2, fa0_2⟩ : (Sl S_impl_Backend)), (⟨za0_3, na0_3, fa0_3⟩ : (Sl S_impl_Vip))⟩ : S_impl_Config) (⟨a1_1, a1_2, a1_3, a1_4, a1_5⟩ : S_impl_Flow) a2_0, enc_bo, fun _ => true⟩ | _ => none
theorem hpc_b27 (fu : Nat) : HpcOk E Try.prog (pcf_b27 fu) := by
 intro f xs o h
 unfold pcf_b27 at h
 split at h
 ·exact good_b5 fu xs o h
 ·exact good_b16 fu xs o h
 ·exact good_b26 fu xs o h
 ·cases h
theorem goodv_b27 (fu : Nat) (c_0 : S_impl_Config) (f_1 : S_impl_Flow) (name_2 : Int) (y : Bool) (hy : F_impl_Config_serves fu c_0 f_1 name_2 = some y) : Vm.Good E Try.prog 68 [(.rptr [(ii c_0.Version), (.rs c_0.Backends.z .impl_Backend c_0.Backends.n c_0.Backends.f), (.rs c_0.Vips.z .impl_Vip c_0.Vips.n c_0.Vips.f)]), (.agg [(ii f_1.From), (ii f_1.To), (ii f_1.Proto), (ii f_1.FromP), (ii f_1.ToP)]), (ii name_2)] (enc_bo y) :=
 fun_good E_ok (pc_good (pc := pc_b27 fu) (hpc_b27 fu) hpx0) (fn := Try.f68) (by kernel_rfl) (by kernel_rfl) (by kernel_rfl) (lpok_b27 fu) (fun d hd => out_bo_enc d _ hd) ((ev_b27 fu c_0 f_1 name_2).trans hy)
theorem good_b27 (fu : Nat) : GoodS E Try.prog 68 (S_b27 fu) := by
 intro xs o h y hy
 unfold S_b27 at h
 split at h
 ·rename_i a0_1 za0_2 na0_2 fa0_2 za0_3 na0_3 fa0_3 ra0 a1_1 a1_2 a1_3 a1_4 a1_5 a2_0
  cases h
  exact (goodv_b27 fu (⟨a0_1, (⟨za0_2, na0_2, fa0_2⟩ : (Sl S_impl_Backend)), (⟨za0_3, na0_3, fa0_3⟩ : (Sl S_impl_Vip))⟩ : S_impl_Config) (⟨a1_1, a1_2, a1_3, a1_4, a1_5⟩ : S_impl_Flow) a2_0 y hy).sub ⟨Sub.of_eq ra0 rfl, .refl _, .refl _, trivial⟩
 ·cases h
def F_bytes_Equal (fu : Nat) (a_0 b_1 : (Sl Int)) : Option (Bool) :=
 (some (ByteArray.toList (bytesOf a_0.n (fun i => (a_0.f i))) == ByteArray.toList (bytesOf b_1.n (fun i => (b_1.f i)))))
def pc_b28 (fu : Nat) : Pc RT den := ⟨pcf0, fun _ => false, fun _ => false, pcd0, pcd0, pcd0, pcx0⟩
def msk_b28 (b : Nat) : List Nat := []
def lp_b28 (fu : Nat) : Lp RT den (Bool) := ⟨fun b s k => none, inl0⟩
theorem ev_b28 (fu : Nat) (a_0 b_1 : (Sl Int)) : evFun E (pc_b28 fu) msk_b28 (lp_b28 fu) out_bo 36 [(.rs a_0.z .u8 a_0.n a_0.f), (.rs b_1.z .u8 b_1.n b_1.f)] = F_bytes_Equal fu a_0 b_1 := by kernel_rfl
noncomputable def body_b28 : Code := Try.f36.body.getD .skip
theorem lpok_b28 (fu : Nat) : LpOk E (pc_b28 fu) 0 msk_b28 (lp_b28 fu) (loops 0 body_b28) := lp_nil (loop_nil (by kernel_rfl)) (by kernel_rfl)
def S_b28 (fu : Nat) (xs : List (D RT den)) : Option (Out RT den) := match xs with | [.rs za0_0 .u8 na0_0 fa0_0, .rs za1_0 .u8 na1_0 fa1_0] => some ⟨Bool, F_bytes_Equal fu (⟨za0_0, na0_0, fa0_0⟩ : (Sl Int)) (⟨za1_0, na1_0, fa1_0⟩ : (Sl Int)), enc_bo, fun _ => true⟩ | _ => none
theorem goodv_b28 (fu : Nat) (a_0 b_1 : (Sl Int)) (y : Bool) (hy : F_bytes_Equal fu a_0 b_1 = some y) : Vm.Good E Try.prog 36 [(.rs a_0.z .u8 a_0.n a_0.f), (.rs b_1.z .u8 b_1.n b_1.f)] (enc_bo y) :=
 fun_good E_ok (pc_good (pc := pc_b28 fu) hpc0 hpx0) (fn := Try.f36) (by kernel_rfl) (by kernel_rfl) (by kernel_rfl) (lpok_b28 fu) (fun d hd => out_bo_enc d _ hd) ((ev_b28 fu a_0 b_1).trans hy)
theorem good_b28 (fu : Nat) : GoodS E Try.prog 36 (S_b28 fu) := by
 intro xs o h y hy
 unfold S_b28 at h
 split at h
 ·rename_i za0_0 na0_0 fa0_0 za1_0 na1_0 fa1_0
  cases h
  exact goodv_b28 fu (⟨za0_0, na0_0, fa0_0⟩ : (Sl Int)) (⟨za1_0, na1_0, fa1_0⟩ : (Sl Int)) y hy
 ·cases h
def F_impl_MayGo_c1 (fu : Nat) (name_0 x_1_1 : Int) (x_1_2 : (Sl S_impl_Backend)) (x_1_3 : (Sl S_impl_Vip)) (x_2_4 x_2_5 x_2_6 x_2_7 x_2_8 : Int) (x_3_9 : (Sl Int)) (x_4_10 : Int) (x_5_11 : (Sl Int)) : Option (Bool) :=
 ((((F_impl_Config_serves fu (⟨x_1_1, x_1_2, x_1_3⟩ : S_impl_Config) (⟨x_2_4, x_2_5, x_2_6, x_2_7, x_2_8⟩ : S_impl_Flow) name_0).bind fun y236 => (bif y236 then
  ((F_impl_Config_backend fu (⟨x_1_1, x_1_2, x_1_3⟩ : S_impl_Config) name_0).bind fun y237 => ((bif (decide (0 ≤ y237) && decide ((Int.toNat y237) < x_1_2.n)) then some () else
  none : Option Unit).bind fun _ => ((F_impl_wrap_H fu x_4_10 (x_1_2.f (Int.toNat y237)).Address x_5_11).bind fun y238 => ((F_bytes_Equal fu x_3_9 (⟨none, y238.n, y238.f⟩ : (Sl Int))).bind fun y264 =>
  (some y264))))) else (some false))) : Option Bool).bind fun m265 => (some m265))
noncomputable def pcf_b29 (fu f : Nat) (xs : List (D RT den)) : Option (Out RT den) := match f with | 36 => S_b28 fu xs | 68 => S_b27 fu xs | 69 => (S_b24 fu xs []).bind fun o => some (o.frz E) | 70 => S_b16 fu xs | _ => none
noncomputable def pc_b29 (fu : Nat) : Pc RT den := ⟨pcf_b29 fu, fun _ => false, fun _ => false, pcd0, pcd0, pcd0, pcx0⟩
def msk_b29 (b : Nat) : List Nat := match b with | 200001 => [7] | _ => []
def lp_b29 (fu : Nat) : Lp RT den (Bool) := ⟨fun b s k => none, inl0⟩
theorem ev_b29 (fu : Nat) (name_0 x_1_1 : Int) (x_1_2 : (Sl S_impl_Backend)) (x_1_3 : (Sl S_impl_Vip)) (x_2_4 x_2_5 x_2_6 x_2_7 x_2_8 : Int) (x_3_9 : (Sl Int)) (x_4_10 : Int) (x_5_11 : (Sl Int)) : evFun E (pc_b29 fu) msk_b29 (lp_b29 fu) out_bo 67 [(ii name_0), (.rptr [(ii x_1_1), (.rs x_1_2.z .impl_Backend x_1_2.n x_1_2.f), (.rs x_1_3.z .impl_Vip x_1_3.n x_1_3.f)]), (.rptr [(ii x_2_4), (ii x_2_5), (ii x_2_6), (ii x_2_7), (ii x_2_8)]), (.rptr [(.rs x_3_9.z .u8 x_3_9.n x_3_9.f)]), (.rptr [(ii x_4_10)]), (.rptr [(.rs x_5_11.z .u8 x_5_11.n x_5_11.f)])] = F_impl_MayGo_c1 fu name_0 x_1_1 x_1_2 x_1_3 x_2_4 x_2_5 x_2_6 x_2_7 x_2_8 x_3_9 x_4_10 x_5_11 := by kernel_rfl
noncomputable def body_b29 : Code := Try.f67.body.getD .skip
theorem lpok_b29 (fu : Nat) : LpOk E (pc_b29 fu) 0 msk_b29 (lp_b29 fu) (loops 0 body_b29) := lp_nil (loop_nil (by kernel_rfl)) (by kernel_rfl)
def S_b29 (fu : Nat) (xs : List (D RT den)) : Option (Out RT den) := match xs with | [.int .i64 a0_0, .rptr [.int .i64 a1_0, .rs za1_1 .impl_Backend na1_1 fa1_1, .rs za1_2 .impl_Vip na1_2 fa1_2], .rptr [.int .i64 a2_0, .int .i64 a2_1, .int .i64 a2_2, .int .i64 a2_3, .int .i64 a2_4], .rptr [.rs za3_0 .u8 na3_0 fa3_0], .rptr [.int .i64 a4_0], .rptr [.rs za5_0 .u8 na5_0 fa5_0]] => some ⟨Bool, F_impl_MayGo_c1 fu a0_0 a1_0 (⟨za1_1, na1_1, fa1_1⟩ : (Sl S_impl_Backend)) (⟨za1_2, na1_2, fa1_2⟩ : (Sl S_impl_Vip)) a2_0 a2_1 a2_2 a2_3 a2_4 (⟨za3_0, na3_0, fa3_0⟩ : (Sl Int)) a4_0 (⟨za5_0, na5_0, fa5_0⟩ : (Sl Int)), enc_bo, fun _ => true⟩ | _ => none
theorem hpc_b29 (fu : Nat) : HpcOk E Try.prog (pcf_b29 fu) := by
 intro f xs o h
 unfold pcf_b29 at h
 split at h
 ·exact good_b28 fu xs o h
 ·exact good_b27 fu xs o h
 ·exact good_frz E_ok (good_b24 fu) xs o h
 ·exact good_b16 fu xs o h
 ·cases h
theorem goodv_b29 (fu : Nat) (name_0 x_1_1 : Int) (x_1_2 : (Sl S_impl_Backend)) (x_1_3 : (Sl S_impl_Vip)) (x_2_4 x_2_5 x_2_6 x_2_7 x_2_8 : Int) (x_3_9 : (Sl Int)) (x_4_10 : Int) (x_5_11 : (Sl Int)) (y : Bool) (hy : F_impl_MayGo_c1 fu name_0 x_1_1 x_1_2 x_1_3 x_2_4 x_2_5 x_2_6 x_2_7 x_2_8 x_3_9 x_4_10 x_5_11 = some y) : Vm.Good E Try.prog 67 [(ii name_0), (.rptr [(ii x_1_1), (.rs x_1_2.z .impl_Backend x_1_2.n x_1_2.f), (.rs x_1_3.z .impl_Vip x_1_3.n x_1_3.f)]), (.rptr [(ii x_2_4), (ii x_2_5), (ii x_2_6), (ii x_2_7), (ii x_2_8)]), (.rptr [(.rs x_3_9.z .u8 x_3_9.n x_3_9.f)]), (.rptr [(ii x_4_10)]), (.rptr [(.rs x_5_11.z .u8 x_5_11.n x_5_11.f)])] (enc_bo y) :=
 fun_good E_ok (pc_good (pc := pc_b29 fu) (hpc_b29 fu) hpx0) (fn := Try.f67) (by kernel_rfl) (by kernel_rfl) (by kernel_rfl) (lpok_b29 fu) (fun d hd => out_bo_enc d _ hd) ((ev_b29 fu name_0 x_1_1 x_1_2 x_1_3 x_2_4 x_2_5 x_2_6 x_2_7 x_2_8 x_3_9 x_4_10 x_5_11).trans hy)
theorem good_b29 (fu : Nat) : GoodS E Try.prog 67 (S_b29 fu) := by
 intro xs o h y hy
 unfold S_b29 at h
 split at h
 ·rename_i a0_0 a1_0 za1_1 na1_1 fa1_1 za1_2 na1_2 fa1_2 a2_0 a2_1 a2_2 a2_3 a2_4 za3_0 na3_0 fa3_0 a4_0 za5_0 na5_0 fa5_0
  cases h
  exact goodv_b29 fu a0_0 a1_0 (⟨za1_1, na1_1, fa1_1⟩ : (Sl S_impl_Backend)) (⟨za1_2, na1_2, fa1_2⟩ : (Sl S_impl_Vip)) a2_0 a2_1 a2_2 a2_3 a2_4 (⟨za3_0, na3_0, fa3_0⟩ : (Sl Int)) a4_0 (⟨za5_0, na5_0, fa5_0⟩ : (Sl Int)) y hy
 ·cases h
def F_slices_IndexFunc_int64_int64_w_impl_MayGo_c1_B0 {ρ : Type} (fu : Nat) (s0_0 : (Sl Int)) (f1_1 : Int) (f1_2 : (Sl S_impl_Backend)) (f1_3 : (Sl S_impl_Vip)) (f1_4 f1_5 f1_6 f1_7 f1_8 : Int) (f1_9 : (Sl Int)) (f1_10 : Int) (f1_11 : (Sl Int)) (t7_12 : Int) (k0 : Int → Option ρ) (k1 : Option ρ) (t8_13 : Int) (go : Int → Option ρ) : Option ρ :=
 (bif (decide (t8_13 < t7_12)) then ((bif (decide (0 ≤ t8_13) && decide ((Int.toNat t8_13) < s0_0.n)) then some () else none : Option Unit).bind fun _ => ((F_impl_MayGo_c1 fu (s0_0.f (Int.toNat t8_13)) f1_1 f1_2 f1_3 f1_4 f1_5 f1_6 f1_7 f1_8 f1_9 f1_10 f1_11).bind fun y234 =>
  (bif y234 then (k0 t8_13) else (go (IntKind.wrap .i64 (t8_13 + 1)))))) else k1)
def F_slices_IndexFunc_int64_int64_w_impl_MayGo_c1 (fu : Nat) (s_0 : (Sl Int)) (f_1_1 : Int) (f_1_2 : (Sl S_impl_Backend)) (f_1_3 : (Sl S_impl_Vip)) (f_1_4 f_1_5 f_1_6 f_1_7 f_1_8 : Int) (f_1_9 : (Sl Int)) (f_1_10 : Int) (f_1_11 : (Sl Int)) : Option (Int) :=
 (L (fun w0 go0 => F_slices_IndexFunc_int64_int64_w_impl_MayGo_c1_B0 fu s_0 f_1_1 f_1_2 f_1_3 f_1_4 f_1_5 f_1_6 f_1_7 f_1_8 f_1_9 f_1_10 f_1_11 ((s_0.n : Nat) : Int) (fun z235 =>
  (some z235)) (some (-1)) w0 go0) fu (0 : Int))
def pcf_b30 (fu f : Nat) (xs : List (D RT den)) : Option (Out RT den) := match f with | 67 => S_b29 fu xs | _ => none
def pc_b30 (fu : Nat) : Pc RT den := ⟨pcf_b30 fu, fun _ => false, fun _ => false, pcd0, pcd0, pcd0, pcx0⟩
def msk_b30 (b : Nat) : List Nat := match b with | 0 => (rg 2 5 (rg 9 10 [])) | 100000 => (0 :: 1 :: 2 :: 3 :: (rg 5 14 [])) | _ => []
def ps_b30_0 : List (Pat RT) := (.flat (.rs .i64) :: .fn 67 [.rptr [(.int .i64), (.rs .impl_Backend), (.rs .impl_Vip)], .rptr [(.int .i64), (.int .i64), (.int .i64), (.int .i64), (.int .i64)], .rptr [(.rs .u8)], .rptr [(.int .i64)], .rptr [(.rs .u8)]] :: (fq 5 (.flat (.int .i64) :: .flat (.int .i64) :: (fq 10 []))))
def os_b30_0 : List (OP RT) := []
def conv_b30_0 (r : Raw den ps_b30_0 os_b30_0) : (Yd3) × (Int) := ((r.1.1, r.1.2.1.1.1, r.1.2.1.1.2.1, r.1.2.1.1.2.2.1, r.1.2.1.2.1.1, r.1.2.1.2.1.2.1, r.1.2.1.2.1.2.2.1, r.1.2.1.2.1.2.2.2.1, r.1.2.1.2.1.2.2.2.2.1, r.1.2.1.2.2.1.1, r.1.2.1.2.2.2.1.1, r.1.2.1.2.2.2.2.1.1, (e5 r.1).2.2.1), (e5 r.1).2.2.2.1)
def back_b30_0 (c : Yd3) (w : Int) : St RT den := ⟨((.rs c.1.z .i64 c.1.n c.1.f) :: (.fn 67 [(.rptr [(ii c.2.1), (.rs c.2.2.1.z .impl_Backend c.2.2.1.n c.2.2.1.f), (.rs c.2.2.2.1.z .impl_Vip c.2.2.2.1.n c.2.2.2.1.f)]), (.rptr [(ii c.2.2.2.2.1), (ii (e5 c).1), (ii (e5 c).2.1), (ii (e5 c).2.2.1), (ii (e5 c).2.2.2.1)]), (.rptr [(.rs (e5 c).2.2.2.2.1.z .u8 (e5 c).2.2.2.2.1.n (e5 c).2.2.2.2.1.f)]), (.rptr [(ii (e10 c).1)]), (.rptr [(.rs (e10 c).2.1.z .u8 (e10 c).2.1.n (e10 c).2.1.f)])]) :: (qs 5 ((ii (e10 c).2.2) :: (ii w) :: (qs 10 [])))), []⟩
def Bk_b30_0 {ρ : Type} (fu : Nat) (c : Yd3) (k : Ex → St RT den → Option ρ) (w : Int) (go : (Int) → Option ρ) : Option ρ := F_slices_IndexFunc_int64_int64_w_impl_MayGo_c1_B0 fu c.1 c.2.1 c.2.2.1 c.2.2.2.1 c.2.2.2.2.1 (e5 c).1 (e5 c).2.1 (e5 c).2.2.1 (e5 c).2.2.2.1 (e5 c).2.2.2.2.1 (e10 c).1 (e10 c).2.1 (e10 c).2.2 (fun a0 => k .ret ⟨(qs 4 ((ii a0) :: (qs 14 []))), []⟩) (k (.exit 0) ⟨(qs 19 []), []⟩) w go
def lp_b30 (fu : Nat) : Lp RT den (Int) := ⟨fun b s k => match b with | 0 => handle ps_b30_0 os_b30_0 conv_b30_0 (Bk_b30_0 fu) fu s k | _ => none, inl0⟩
theorem ev_b30 (fu : Nat) (s_0 : (Sl Int)) (f_1_1 : Int) (f_1_2 : (Sl S_impl_Backend)) (f_1_3 : (Sl S_impl_Vip)) (f_1_4 f_1_5 f_1_6 f_1_7 f_1_8 : Int) (f_1_9 : (Sl Int)) (f_1_10 : Int) (f_1_11 : (Sl Int)) : evFun E (pc_b30 fu) msk_b30 (lp_b30 fu) out_i64 113 [(.rs s_0.z .i64 s_0.n s_0.f), (.fn 67 [(.rptr [(ii f_1_1), (.rs f_1_2.z .impl_Backend f_1_2.n f_1_2.f), (.rs f_1_3.z .impl_Vip f_1_3.n f_1_3.f)]), (.rptr [(ii f_1_4), (ii f_1_5), (ii f_1_6), (ii f_1_7), (ii f_1_8)]), (.rptr [(.rs f_1_9.z .u8 f_1_9.n f_1_9.f)]), (.rptr [(ii f_1_10)]), (.rptr [(.rs f_1_11.z .u8 f_1_11.n f_1_11.f)])])] = F_slices_IndexFunc_int64_int64_w_impl_MayGo_c1 fu s_0 f_1_1 f_1_2 f_1_3 f_1_4 f_1_5 f_1_6 f_1_7 f_1_8 f_1_9 f_1_10 f_1_11 := by kernel_rfl
noncomputable def body_b30 : Code := Try.f113.body.getD .skip
noncomputable def lc_b30_0 : Code := ((loops 0 body_b30).getD 0 (0, .skip)).2
theorem round_b30_0 (fu : Nat) : RoundOk E (pc_b30 fu) msk_b30 (lp_b30 fu) 0 lc_b30_0 back_b30_0 0 100000 0 (Bk_b30_0 fu) := fun it k c w => by kernel_rfl
theorem lpok_b30_0 (fu : Nat) : LpAt E (pc_b30 fu) msk_b30 (lp_b30 fu) 0 0 100000 0 lc_b30_0 :=
 handle_ok (ps := ps_b30_0) (os := os_b30_0) (conv := conv_b30_0) (B := Bk_b30_0 fu) (fu := fu) back_b30_0 (fun raw => by kernel_rfl) 0 (fun c w => by kernel_rfl) (round_b30_0 fu)
theorem lpok_b30 (fu : Nat) : LpOk E (pc_b30 fu) 0 msk_b30 (lp_b30 fu) (loops 0 body_b30) := lp_nil (loop_all 1 (by kernel_rfl) fun i hi => match i, hi with
 | 0, _ => by
  have h : (loops 0 body_b30).getD 0 (0, .skip) = (0, lc_b30_0) := by kernel_rfl
  rw [h]; exact lpok_b30_0 fu
 | i + 1, hi => absurd hi (by omega)) (by kernel_rfl)
def S_b30 (fu : Nat) (xs : List (D RT den)) : Option (Out RT den) := match xs with | [.rs za0_0 .i64 na0_0 fa0_0, .fn 67 [.rptr [.int .i64 a1_0, .rs za1_1 .impl_Backend na1_1 fa1_1, .rs za1_2 .impl_Vip na1_2 fa1_2], .rptr [.int .i64 a1_3, .int .i64 a1_4, .int .i64 a1_5, .int .i64 a1_6, .int .i64 a1_7], .rptr [.rs za1_8 .u8 na1_8 fa1_8], .rptr [.int .i64 a1_9], .rptr [.rs za1_10 .u8 na1_10 fa1_10]]] => some ⟨Int, F_slices_IndexFunc_int64_int64_w_impl_MayGo_c1 fu (⟨za0_0, na0_0, fa0_0⟩ : (Sl Int)) a1_0 (⟨za1_1, na1_1, fa1_1⟩ : (Sl S_impl_Backend)) (⟨za1_2, na1_2, fa1_2⟩ : (Sl S_impl_Vip)) a1_3 a1_4 a1_5 a1_6 a1_7 (⟨za1_8, na1_8, fa1_8⟩ : (Sl Int)) a1_9 (⟨za1_10, na1_10, fa1_10⟩ : (Sl Int)), enc_i64, fun _ => true⟩ | _ => none
theorem hpc_b30 (fu : Nat) : HpcOk E Try.prog (pcf_b30 fu) := by
 intro f xs o h
 unfold pcf_b30 at h
 split at h
 ·exact good_b29 fu xs o h
 ·cases h
theorem goodv_b30 (fu : Nat) (s_0 : (Sl Int)) (f_1_1 : Int) (f_1_2 : (Sl S_impl_Backend)) (f_1_3 : (Sl S_impl_Vip)) (f_1_4 f_1_5 f_1_6 f_1_7 f_1_8 : Int) (f_1_9 : (Sl Int)) (f_1_10 : Int) (f_1_11 : (Sl Int)) (y : Int) (hy : F_slices_IndexFunc_int64_int64_w_impl_MayGo_c1 fu s_0 f_1_1 f_1_2 f_1_3 f_1_4 f_1_5 f_1_6 f_1_7 f_1_8 f_1_9 f_1_10 f_1_11 = some y) : Vm.Good E Try.prog 113 [(.rs s_0.z .i64 s_0.n s_0.f), (.fn 67 [(.rptr [(ii f_1_1), (.rs f_1_2.z .impl_Backend f_1_2.n f_1_2.f), (.rs f_1_3.z .impl_Vip f_1_3.n f_1_3.f)]), (.rptr [(ii f_1_4), (ii f_1_5), (ii f_1_6), (ii f_1_7), (ii f_1_8)]), (.rptr [(.rs f_1_9.z .u8 f_1_9.n f_1_9.f)]), (.rptr [(ii f_1_10)]), (.rptr [(.rs f_1_11.z .u8 f_1_11.n f_1_11.f)])])] (enc_i64 y) :=
 fun_good E_ok (pc_good (pc := pc_b30 fu) (hpc_b30 fu) hpx0) (fn := Try.f113) (by kernel_rfl) (by kernel_rfl) (by kernel_rfl) (lpok_b30 fu) (fun d hd => out_i64_enc d _ hd) ((ev_b30 fu s_0 f_1_1 f_1_2 f_1_3 f_1_4 f_1_5 f_1_6 f_1_7 f_1_8 f_1_9 f_1_10 f_1_11).trans hy)
theorem good_b30 (fu : Nat) : GoodS E Try.prog 113 (S_b30 fu) := by
 intro xs o h y hy
 unfold S_b30 at h
 split at h
 ·rename_i za0_0 na0_0 fa0_0 a1_0 za1_1 na1_1 fa1_1 za1_2 na1_2 fa1_2 a1_3 a1_4 a1_5 a1_6 a1_7 za1_8 na1_8 fa1_8 a1_9 za1_10 na1_10 fa1_10
  cases h
  exact goodv_b30 fu (⟨za0_0, na0_0, fa0_0⟩ : (Sl Int)) a1_0 (⟨za1_1, na1_1, fa1_1⟩ : (Sl S_impl_Backend)) (⟨za1_2, na1_2, fa1_2⟩ : (Sl S_impl_Vip)) a1_3 a1_4 a1_5 a1_6 a1_7 (⟨za1_8, na1_8, fa1_8⟩ : (Sl Int)) a1_9 (⟨za1_10, na1_10, fa1_10⟩ : (Sl Int)) y hy
 ·cases h
def F_slices_ContainsFunc_int64_int64_w_impl_MayGo_c1 (fu : Nat) (s_0 : (Sl Int)) (f_1_1 : Int) (f_1_2 : (Sl S_impl_Backend)) (f_1_3 : (Sl S_impl_Vip)) (f_1_4 f_1_5 f_1_6 f_1_7 f_1_8 : Int) (f_1_9 : (Sl Int)) (f_1_10 : Int) (f_1_11 : (Sl Int)) : Option (Bool) :=
 ((F_slices_IndexFunc_int64_int64_w_impl_MayGo_c1 fu s_0 f_1_1 f_1_2 f_1_3 f_1_4 f_1_5 f_1_6 f_1_7 f_1_8 f_1_9 f_1_10 f_1_11).bind fun y233 => (some (decide (y233 ≥ 0))))
def pcf_b31 (fu f : Nat) (xs : List (D RT den)) : Option (Out RT den) := match f with | 113 => S_b30 fu xs | _ => none
def pc_b31 (fu : Nat) : Pc RT den := ⟨pcf_b31 fu, fun _ => false, fun _ => false, pcd0, pcd0, pcd0, pcx0⟩
def msk_b31 (b : Nat) : List Nat := []
def lp_b31 (fu : Nat) : Lp RT den (Bool) := ⟨fun b s k => none, inl0⟩
theorem ev_b31 (fu : Nat) (s_0 : (Sl Int)) (f_1_1 : Int) (f_1_2 : (Sl S_impl_Backend)) (f_1_3 : (Sl S_impl_Vip)) (f_1_4 f_1_5 f_1_6 f_1_7 f_1_8 : Int) (f_1_9 : (Sl Int)) (f_1_10 : Int) (f_1_11 : (Sl Int)) : evFun E (pc_b31 fu) msk_b31 (lp_b31 fu) out_bo 66 [(.rs s_0.z .i64 s_0.n s_0.f), (.fn 67 [(.rptr [(ii f_1_1), (.rs f_1_2.z .impl_Backend f_1_2.n f_1_2.f), (.rs f_1_3.z .impl_Vip f_1_3.n f_1_3.f)]), (.rptr [(ii f_1_4), (ii f_1_5), (ii f_1_6), (ii f_1_7), (ii f_1_8)]), (.rptr [(.rs f_1_9.z .u8 f_1_9.n f_1_9.f)]), (.rptr [(ii f_1_10)]), (.rptr [(.rs f_1_11.z .u8 f_1_11.n f_1_11.f)])])] = F_slices_ContainsFunc_int64_int64_w_impl_MayGo_c1 fu s_0 f_1_1 f_1_2 f_1_3 f_1_4 f_1_5 f_1_6 f_1_7 f_1_8 f_1_9 f_1_10 f_1_11 := by kernel_rfl
noncomputable def body_b31 : Code := Try.f66.body.getD .skip
theorem lpok_b31 (fu : Nat) : LpOk E (pc_b31 fu) 0 msk_b31 (lp_b31 fu) (loops 0 body_b31) := lp_nil (loop_nil (by kernel_rfl)) (by kernel_rfl)
def S_b31 (fu : Nat) (xs : List (D RT den)) : Option (Out RT den) := match xs with | [.rs za0_0 .i64 na0_0 fa0_0, .fn 67 [.rptr [.int .i64 a1_0, .rs za1_1 .impl_Backend na1_1 fa1_1, .rs za1_2 .impl_Vip na1_2 fa1_2], .rptr [.int .i64 a1_3, .int .i64 a1_4, .int .i64 a1_5, .int .i64 a1_6, .int .i64 a1_7], .rptr [.rs za1_8 .u8 na1_8 fa1_8], .rptr [.int .i64 a1_9], .rptr [.rs za1_10 .u8 na1_10 fa1_10]]] => some ⟨Bool, F_slices_ContainsFunc_int64_int64_w_impl_MayGo_c1 fu (⟨za0_0, na0_0, fa0_0⟩ : (Sl Int)) a1_0 (⟨za1_1, na1_1, fa1_1⟩ : (Sl S_impl_Backend)) (⟨za1_2, na1_2, fa1_2⟩ : (Sl S_impl_Vip)) a1_3 a1_4 a1_5 a1_6 a1_7 (⟨za1_8, na1_8, fa1_8⟩ : (Sl Int)) a1_9 (⟨za1_10, na1_10, fa1_10⟩ : (Sl Int)), enc_bo, fun _ => true⟩ | _ => none
theorem hpc_b31 (fu : Nat) : HpcOk E Try.prog (pcf_b31 fu) := by
 intro f xs o h
 unfold pcf_b31 at h
 split at h
 ·exact good_b30 fu xs o h
 ·cases h
theorem goodv_b31 (fu : Nat) (s_0 : (Sl Int)) (f_1_1 : Int) (f_1_2 : (Sl S_impl_Backend)) (f_1_3 : (Sl S_impl_Vip)) (f_1_4 f_1_5 f_1_6 f_1_7 f_1_8 : Int) (f_1_9 : (Sl Int)) (f_1_10 : Int) (f_1_11 : (Sl Int)) (y : Bool) (hy : F_slices_ContainsFunc_int64_int64_w_impl_MayGo_c1 fu s_0 f_1_1 f_1_2 f_1_3 f_1_4 f_1_5 f_1_6 f_1_7 f_1_8 f_1_9 f_1_10 f_1_11 = some y) : Vm.Good E Try.prog 66 [(.rs s_0.z .i64 s_0.n s_0.f), (.fn 67 [(.rptr [(ii f_1_1), (.rs f_1_2.z .impl_Backend f_1_2.n f_1_2.f), (.rs f_1_3.z .impl_Vip f_1_3.n f_1_3.f)]), (.rptr [(ii f_1_4), (ii f_1_5), (ii f_1_6), (ii f_1_7), (ii f_1_8)]), (.rptr [(.rs f_1_9.z .u8 f_1_9.n f_1_9.f)]), (.rptr [(ii f_1_10)]), (.rptr [(.rs f_1_11.z .u8 f_1_11.n f_1_11.f)])])] (enc_bo y) :=
 fun_good E_ok (pc_good (pc := pc_b31 fu) (hpc_b31 fu) hpx0) (fn := Try.f66) (by kernel_rfl) (by kernel_rfl) (by kernel_rfl) (lpok_b31 fu) (fun d hd => out_bo_enc d _ hd) ((ev_b31 fu s_0 f_1_1 f_1_2 f_1_3 f_1_4 f_1_5 f_1_6 f_1_7 f_1_8 f_1_9 f_1_10 f_1_11).trans hy)
theorem good_b31 (fu : Nat) : GoodS E Try.prog 66 (S_b31 fu) := by
 intro xs o h y hy
 unfold S_b31 at h
 split at h
 ·rename_i za0_0 na0_0 fa0_0 a1_0 za1_1 na1_1 fa1_1 za1_2 na1_2 fa1_2 a1_3 a1_4 a1_5 a1_6 a1_7 za1_8 na1_8 fa1_8 a1_9 za1_10 na1_10 fa1_10
  cases h
  exact goodv_b31 fu (⟨za0_0, na0_0, fa0_0⟩ : (Sl Int)) a1_0 (⟨za1_1, na1_1, fa1_1⟩ : (Sl S_impl_Backend)) (⟨za1_2, na1_2, fa1_2⟩ : (Sl S_impl_Vip)) a1_3 a1_4 a1_5 a1_6 a1_7 (⟨za1_8, na1_8, fa1_8⟩ : (Sl Int)) a1_9 (⟨za1_10, na1_10, fa1_10⟩ : (Sl Int)) y hy
 ·cases h
def F_impl_MayGo (fu : Nat) (c_0 : S_impl_Config) (address_1 : Int) (data_2 out_3 : (Sl Int)) : Option (Bool) :=
 ((F_impl_ConfigFault fu c_0).bind fun y134 => (bif (y134 != 0) then (some false) else (bif (((out_3.n : Nat) : Int) == 0) then (some true) else ((F_impl_ParsePacket_H fu data_2).bind fun y135 =>
  (((bif (y135.Code != 0) then (some true) else ((F_impl_isAddress fu address_1).bind fun y168 => (some (!y168)))) : Option Bool).bind fun m169 => (bif m169 then (some false) else
  ((F_impl_flowOf fu (⟨y135.Packet.From, y135.Packet.To, y135.Packet.Proto, y135.Packet.FromP, y135.Packet.ToP, (⟨none, y135.Packet.Load.n, y135.Packet.Load.f⟩ : (Sl Int))⟩ : S_impl_Packet)).bind fun y170 =>
  ((F_impl_Config_vipOf fu c_0 y170).bind fun y176 => (bif (decide (y176 < 0)) then (some false) else ((bif (decide (0 ≤ y176) && decide ((Int.toNat y176) < c_0.Vips.n)) then some () else
  none : Option Unit).bind fun _ => ((F_slices_ContainsFunc_int64_int64_w_impl_MayGo_c1 fu (c_0.Vips.f (Int.toNat y176)).Names c_0.Version c_0.Backends c_0.Vips y170.From y170.To y170.Proto y170.FromP y170.ToP out_3 address_1 data_2).bind fun y177 =>
  (some y177))))))))))))
noncomputable def pcf_b32 (fu f : Nat) (xs : List (D RT den)) : Option (Out RT den) := match f with | 35 => S_b20 fu xs | 62 => (S_b1 fu xs []).bind fun o => some (o.frz E) | 63 => S_b7 fu xs | 64 => S_b21 fu xs | 65 => S_b5 fu xs | 66 => S_b31 fu xs | _ => none
noncomputable def pc_b32 (fu : Nat) : Pc RT den := ⟨pcf_b32 fu, fun _ => false, fun _ => false, pcd0, pcd0, pcd0, pcx0⟩
def msk_b32 (b : Nat) : List Nat := match b with | 200006 => [27] | _ => []
def lp_b32 (fu : Nat) : Lp RT den (Bool) := ⟨fun b s k => none, inl0⟩
theorem ev_b32 (fu : Nat) (c_0 : S_impl_Config) (address_1 : Int) (data_2 out_3 : (Sl Int)) : evFun E (pc_b32 fu) msk_b32 (lp_b32 fu) out_bo 29 [(.agg [(ii c_0.Version), (.rs c_0.Backends.z .impl_Backend c_0.Backends.n c_0.Backends.f), (.rs c_0.Vips.z .impl_Vip c_0.Vips.n c_0.Vips.f)]), (ii address_1), (.rs data_2.z .u8 data_2.n data_2.f), (.rs out_3.z .u8 out_3.n out_3.f)] = F_impl_MayGo fu c_0 address_1 data_2 out_3 := by kernel_rfl
noncomputable def body_b32 : Code := Try.f29.body.getD .skip
theorem lpok_b32 (fu : Nat) : LpOk E (pc_b32 fu) 0 msk_b32 (lp_b32 fu) (loops 0 body_b32) := lp_nil (loop_nil (by kernel_rfl)) (by kernel_rfl)
def S_b32 (fu : Nat) (xs : List (D RT den)) : Option (Out RT den) := match xs with | [.agg [.int .i64 a0_1, .rs za0_2 .impl_Backend na0_2 fa0_2, .rs za0_3 .impl_Vip na0_3 fa0_3], .int .i64 a1_0, .rs za2_0 .u8 na2_0 fa2_0, .rs za3_0 .u8 na3_0 fa3_0] => some ⟨Bool, F_impl_MayGo fu (⟨a0_1, (⟨za0_2, na0_2, fa0_2⟩ : (Sl S_impl_Backend)), (⟨za0_3, na0_3, fa0_3⟩ : (Sl S_impl_Vip))⟩ : S_impl_Config) a1_0 (⟨za2_0, na2_0, fa2_0⟩ : (Sl Int)) (⟨za3_0, na3_0, fa3_0⟩ : (Sl Int)), enc_bo, fun _ => true⟩ | _ => none
theorem hpc_b32 (fu : Nat) : HpcOk E Try.prog (pcf_b32 fu) := by
 intro f xs o h
 unfold pcf_b32 at h
 split at h
 ·exact good_b20 fu xs o h
 ·exact good_frz E_ok (good_b1 fu) xs o h
 ·exact good_b7 fu xs o h
 ·exact good_b21 fu xs o h
 ·exact good_b5 fu xs o h
 ·exact good_b31 fu xs o h
 ·cases h
theorem goodv_b32 (fu : Nat) (c_0 : S_impl_Config) (address_1 : Int) (data_2 out_3 : (Sl Int)) (y : Bool) (hy : F_impl_MayGo fu c_0 address_1 data_2 out_3 = some y) : Vm.Good E Try.prog 29 [(.agg [(ii c_0.Version), (.rs c_0.Backends.z .impl_Backend c_0.Backends.n c_0.Backends.f), (.rs c_0.Vips.z .impl_Vip c_0.Vips.n c_0.Vips.f)]), (ii address_1), (.rs data_2.z .u8 data_2.n data_2.f), (.rs out_3.z .u8 out_3.n out_3.f)] (enc_bo y) :=
 fun_good E_ok (pc_good (pc := pc_b32 fu) (hpc_b32 fu) hpx0) (fn := Try.f29) (by kernel_rfl) (by kernel_rfl) (by kernel_rfl) (lpok_b32 fu) (fun d hd => out_bo_enc d _ hd) ((ev_b32 fu c_0 address_1 data_2 out_3).trans hy)
theorem good_b32 (fu : Nat) : GoodS E Try.prog 29 (S_b32 fu) := by
 intro xs o h y hy
 unfold S_b32 at h
 split at h
 ·rename_i a0_1 za0_2 na0_2 fa0_2 za0_3 na0_3 fa0_3 a1_0 za2_0 na2_0 fa2_0 za3_0 na3_0 fa3_0
  cases h
  exact goodv_b32 fu (⟨a0_1, (⟨za0_2, na0_2, fa0_2⟩ : (Sl S_impl_Backend)), (⟨za0_3, na0_3, fa0_3⟩ : (Sl S_impl_Vip))⟩ : S_impl_Config) a1_0 (⟨za2_0, na2_0, fa2_0⟩ : (Sl Int)) (⟨za3_0, na3_0, fa3_0⟩ : (Sl Int)) y hy
 ·cases h
def F_laws_eqBackend (fu : Nat) (a_0 b_1 : S_impl_Backend) : Option (Bool) :=
 (bif (a_0.Name != b_1.Name) then (some false) else (bif (a_0.Address != b_1.Address) then (some false) else (bif (a_0.Weight != b_1.Weight) then (some false) else (bif (a_0.Stage != b_1.Stage) then
  (some false) else (bif (!(a_0.Up == b_1.Up)) then (some false) else (some true))))))
def pc_b33 (fu : Nat) : Pc RT den := ⟨pcf0, fun _ => false, fun _ => false, pcd0, pcd0, pcd0, pcx0⟩
def msk_b33 (b : Nat) : List Nat := []
def lp_b33 (fu : Nat) : Lp RT den (Bool) := ⟨fun b s k => none, inl0⟩
theorem ev_b33 (fu : Nat) (a_0 b_1 : S_impl_Backend) : evFun E (pc_b33 fu) msk_b33 (lp_b33 fu) out_bo 118 [(.agg [(ii a_0.Name), (ii a_0.Address), (ii a_0.Weight), (ii a_0.Stage), (.bool a_0.Up)]), (.agg [(ii b_1.Name), (ii b_1.Address), (ii b_1.Weight), (ii b_1.Stage), (.bool b_1.Up)])] = F_laws_eqBackend fu a_0 b_1 := by kernel_rfl
noncomputable def body_b33 : Code := Try.f118.body.getD .skip
theorem lpok_b33 (fu : Nat) : LpOk E (pc_b33 fu) 0 msk_b33 (lp_b33 fu) (loops 0 body_b33) := lp_nil (loop_nil (by kernel_rfl)) (by kernel_rfl)
def S_b33 (fu : Nat) (xs : List (D RT den)) : Option (Out RT den) := match xs with | [.agg [.int .i64 a0_1, .int .i64 a0_2, .int .i64 a0_3, .int .i64 a0_4, .bool a0_5], .agg [.int .i64 a1_1, .int .i64 a1_2, .int .i64 a1_3, .int .i64 a1_4, .bool a1_5]] => some ⟨Bool, F_laws_eqBackend fu (⟨a0_1, a0_2, a0_3, a0_4, a0_5⟩ : S_impl_Backend) (⟨a1_1, a1_2, a1_3, a1_4, a1_5⟩ : S_impl_Backend), enc_bo, fun _ => true⟩ | _ => none
theorem goodv_b33 (fu : Nat) (a_0 b_1 : S_impl_Backend) (y : Bool) (hy : F_laws_eqBackend fu a_0 b_1 = some y) : Vm.Good E Try.prog 118 [(.agg [(ii a_0.Name), (ii a_0.Address), (ii a_0.Weight), (ii a_0.Stage), (.bool a_0.Up)]), (.agg [(ii b_1.Name), (ii b_1.Address), (ii b_1.Weight), (ii b_1.Stage), (.bool b_1.Up)])] (enc_bo y) :=
 fun_good E_ok (pc_good (pc := pc_b33 fu) hpc0 hpx0) (fn := Try.f118) (by kernel_rfl) (by kernel_rfl) (by kernel_rfl) (lpok_b33 fu) (fun d hd => out_bo_enc d _ hd) ((ev_b33 fu a_0 b_1).trans hy)
theorem good_b33 (fu : Nat) : GoodS E Try.prog 118 (S_b33 fu) := by
 intro xs o h y hy
 unfold S_b33 at h
 split at h
 ·rename_i a0_1 a0_2 a0_3 a0_4 a0_5 a1_1 a1_2 a1_3 a1_4 a1_5
  cases h
  exact goodv_b33 fu (⟨a0_1, a0_2, a0_3, a0_4, a0_5⟩ : S_impl_Backend) (⟨a1_1, a1_2, a1_3, a1_4, a1_5⟩ : S_impl_Backend) y hy
 ·cases h
end Go.Proofs.Ytcmfekgdlaffkaa.Pm
