/- The functions' evaluated forms, each a proved summary. Conditions: none. -/
import Derived.Test.YtmnbmponjhglcaaPeF1
namespace Go.Proofs.Ytmnbmponjhglcaa.Pe
open Go Go.RowKit Go.Proofs Vm
set_option linter.unusedVariables false
set_option linter.unusedSimpArgs false
set_option maxRecDepth 100000
/-! impl.ConfigFault -/
def F_impl_ConfigFault_B1 {ρ : Type} (fu : Nat) (t25_0 : (Sl S_impl_Backend)) (t26_1 : Int) (o0_3 : Int) (o0_4 : (Sl S_impl_Backend)) (o0_5 : (Sl S_impl_Vip)) (k0 : Int → Int → Int → Int → Bool → Option ρ) (k1 : Int → Int → Int → Int → Bool → Option ρ) (k2 : Option ρ) (t27_2 : Int) (go : Int → Option ρ) : Option ρ :=
  (bif (decide (t27_2 < t26_1)) then ((bif (decide (0 ≤ t27_2) && decide ((Int.toNat t27_2) < t25_0.n)) then some () else none : Option Unit).bind fun _ => ((F_impl_isBackend fu (t25_0.f (Int.toNat t27_2))).bind fun y123 =>
    (bif (!y123) then (k0 (t25_0.f (Int.toNat t27_2)).Name (t25_0.f (Int.toNat t27_2)).Address (t25_0.f (Int.toNat t27_2)).Weight (t25_0.f (Int.toNat t27_2)).Stage (t25_0.f (Int.toNat t27_2)).Up) else
    (((bif (decide (t27_2 > 0)) then ((bif (decide (0 ≤ (IntKind.wrap .i64 (t27_2 - 1))) && decide ((Int.toNat (IntKind.wrap .i64 (t27_2 - 1))) < o0_4.n)) then some () else none : Option Unit).bind fun _ =>
    (some (decide ((t25_0.f (Int.toNat t27_2)).Name ≤ (o0_4.f (Int.toNat (IntKind.wrap .i64 (t27_2 - 1)))).Name)))) else (some false)) : Option Bool).bind fun m124 => (bif m124 then
    (k1 (t25_0.f (Int.toNat t27_2)).Name (t25_0.f (Int.toNat t27_2)).Address (t25_0.f (Int.toNat t27_2)).Weight (t25_0.f (Int.toNat t27_2)).Stage (t25_0.f (Int.toNat t27_2)).Up) else
    (go (IntKind.wrap .i64 (t27_2 + 1)))))))) else k2)
def F_impl_ConfigFault_B5 {ρ : Type} (fu : Nat) (t51_1 : (Sl S_impl_Vip)) (t52_2 : Int) (t53_3 : Int) (o0_4 : Int) (o0_5 : (Sl S_impl_Backend)) (o0_6 : (Sl S_impl_Vip)) (o1_7 : Int) (o1_8 : Int) (o1_9 : Int) (o1_10 : (Sl Int)) (k0 : Option ρ) (k1 : Option ρ) (k7_0 : Int) (go : Int → Option ρ) : Option ρ :=
  (bif (decide (k7_0 < ((o1_10.n : Nat) : Int))) then ((bif (decide (0 ≤ k7_0) && decide ((Int.toNat k7_0) < o1_10.n)) then some () else none : Option Unit).bind fun _ => ((bif (decide (0 ≤ (IntKind.wrap .i64 (k7_0 - 1))) &&
    decide ((Int.toNat (IntKind.wrap .i64 (k7_0 - 1))) < o1_10.n)) then some () else none : Option Unit).bind fun _ => (bif (decide ((o1_10.f (Int.toNat k7_0)) ≤ (o1_10.f (Int.toNat (IntKind.wrap .i64 (k7_0 - 1)))))) then
    k0 else (go (IntKind.wrap .i64 (k7_0 + 1)))))) else k1)
def F_impl_ConfigFault_B3 {ρ : Type} (fu : Nat) (t51_0 : (Sl S_impl_Vip)) (t52_1 : Int) (o0_3 : Int) (o0_4 : (Sl S_impl_Backend)) (o0_5 : (Sl S_impl_Vip)) (k0 : Int → Int → Int → (Sl Int) → Option ρ) (k1 : Int → Int → Int → (Sl Int) → Option ρ) (k2 : Int → Int → Int → (Sl Int) → Option ρ) (k3 : Option ρ) (t53_2 : Int) (go : Int → Option ρ) : Option ρ :=
  (bif (decide (t53_2 < t52_1)) then ((bif (decide (0 ≤ t53_2) && decide ((Int.toNat t53_2) < t51_0.n)) then some () else none : Option Unit).bind fun _ => ((((F_impl_isAddress fu (t51_0.f (Int.toNat t53_2)).Address).bind fun y135 =>
    (bif (!y135) then (some true) else ((F_impl_isPort fu (t51_0.f (Int.toNat t53_2)).Port).bind fun y136 => (bif (!y136) then (some true) else ((F_impl_isProto fu (t51_0.f (Int.toNat t53_2)).Proto).bind fun y137 =>
    (some (!y137))))))) : Option Bool).bind fun m138 => (bif m138 then (k0 (t51_0.f (Int.toNat t53_2)).Address (t51_0.f (Int.toNat t53_2)).Port (t51_0.f (Int.toNat t53_2)).Proto (t51_0.f (Int.toNat t53_2)).Names) else
    (((bif (decide (t53_2 > 0)) then ((bif (decide (0 ≤ (IntKind.wrap .i64 (t53_2 - 1))) && decide ((Int.toNat (IntKind.wrap .i64 (t53_2 - 1))) < o0_5.n)) then some () else none : Option Unit).bind fun _ =>
    ((F_impl_compareVip fu (o0_5.f (Int.toNat (IntKind.wrap .i64 (t53_2 - 1)))) (t51_0.f (Int.toNat t53_2))).bind fun y139 => (some (decide (y139 ≥ 0))))) else (some false)) : Option Bool).bind fun m140 =>
    (bif m140 then (k1 (t51_0.f (Int.toNat t53_2)).Address (t51_0.f (Int.toNat t53_2)).Port (t51_0.f (Int.toNat t53_2)).Proto (t51_0.f (Int.toNat t53_2)).Names) else
    ((F_slices_ContainsFunc_int64_int64_w_impl_ConfigFault_c1 fu (t51_0.f (Int.toNat t53_2)).Names o0_3 o0_4 o0_5).bind fun y141 => (bif y141 then (k2 (t51_0.f (Int.toNat t53_2)).Address (t51_0.f (Int.toNat t53_2)).Port (t51_0.f (Int.toNat t53_2)).Proto (t51_0.f (Int.toNat t53_2)).Names) else
    (L (fun w5 go5 => F_impl_ConfigFault_B5 fu t51_0 t52_1 t53_2 o0_3 o0_4 o0_5 ((t51_0.f (Int.toNat t53_2)).Address) ((t51_0.f (Int.toNat t53_2)).Port) ((t51_0.f (Int.toNat t53_2)).Proto) ((t51_0.f (Int.toNat t53_2)).Names) ((k1 (t51_0.f (Int.toNat t53_2)).Address (t51_0.f (Int.toNat t53_2)).Port (t51_0.f (Int.toNat t53_2)).Proto (t51_0.f (Int.toNat t53_2)).Names)) ((go (IntKind.wrap .i64 (t53_2 + 1)))) w5 go5) fu (1 : Int))))))))) else
    k3)
def F_impl_ConfigFault (fu : Nat) (c_0 : S_impl_Config) : Option (Int) :=
  ((F_impl_in fu c_0.Version 0 1000000).bind fun y121 => (bif (!y121) then (some 3) else (((bif (decide (((c_0.Backends.n : Nat) : Int) > 8)) then (some true) else (some (decide (((c_0.Vips.n : Nat) : Int) > 4)))) : Option Bool).bind fun m122 =>
    (bif m122 then (some 2) else (L (fun w1 go1 => F_impl_ConfigFault_B1 fu c_0.Backends ((c_0.Backends.n : Nat) : Int) c_0.Version c_0.Backends c_0.Vips (fun z125 z126 z127 z128 z129 =>
    (some 3)) (fun z130 z131 z132 z133 z134 => (some 1)) (L (fun w3 go3 => F_impl_ConfigFault_B3 fu c_0.Vips ((c_0.Vips.n : Nat) : Int) c_0.Version c_0.Backends c_0.Vips (fun z142 z143 z144 z145 =>
    (some 3)) (fun z146 z147 z148 z149 => (some 1)) (fun z150 z151 z152 z153 => (some 4)) (some 0) w3 go3) fu (0 : Int)) w1 go1) fu (0 : Int))))))
def pcf_a39 (fu : Nat) (f : Nat) (xs : List (D RT den)) : Option (Out RT den) := match f with | 72 => S_a23 fu xs | 93 => S_a25 fu xs | 96 => S_a38 fu xs | 131 => S_a26 fu xs | 132 => S_a27 fu xs | 133 => S_a28 fu xs | 134 => S_a32 fu xs | _ => none
def pc_a39 (fu : Nat) : Pc RT den := ⟨pcf_a39 fu, fun _ => false, fun _ => false, pcd0, pcx0⟩
def msk_a39 (b : Nat) : List Nat := match b with | 1 => [0, 2, 3, 4, 5, 6, 7, 8, 9, 10, 11, 12, 13, 14, 15, 16, 17, 18, 19, 20, 21, 22, 23, 24, 28, 29, 30, 31, 32, 33, 34, 35, 36, 37, 38, 39, 40, 41, 42, 43, 44, 45, 46, 47, 48, 49, 50, 51, 52, 53, 54, 55, 56, 57, 58, 59, 60, 61, 62, 63, 64, 65, 66, 67, 68, 69, 70, 71, 72, 73, 74, 75, 76, 77, 78, 79, 80, 81, 82, 83, 84, 85, 86, 87, 88, 89, 90, 91, 92, 93, 94, 95, 96, 97, 98, 99, 100, 101, 102, 103, 104, 105, 106, 107, 108, 109, 110] | 100001 => [0, 3, 4, 5, 6, 7, 8, 9, 10, 11, 12, 13, 14, 15, 16, 17, 18, 19, 20, 21, 22, 23, 24, 25, 26, 27, 28, 29, 30, 31, 32, 33, 34, 35, 36, 37, 38, 39, 40, 41, 42, 43, 44, 45, 46, 47, 48, 49, 50, 51, 52, 53, 54, 55, 56, 57, 58, 59, 60, 61, 62, 63, 64, 65, 66, 67, 68, 69, 70, 71, 72, 73, 74, 75, 76, 77, 78, 79, 80, 81, 82, 83, 84, 85, 86, 87, 88, 89, 90, 91, 92, 93, 94, 95, 96, 97, 98, 99, 100, 101, 102, 103, 104, 105, 106, 107, 108, 109, 110] | 3 => [0, 2, 3, 4, 5, 6, 7, 8, 9, 10, 11, 12, 13, 14, 15, 16, 17, 18, 19, 20, 21, 22, 23, 24, 25, 26, 27, 28, 29, 30, 31, 32, 33, 34, 35, 36, 37, 38, 39, 40, 41, 42, 43, 44, 45, 46, 47, 48, 49, 50, 54, 55, 56, 57, 58, 59, 60, 61, 62, 63, 64, 65, 66, 67, 68, 69, 70, 71, 72, 73, 74, 75, 76, 77, 78, 79, 80, 81, 82, 83, 84, 85, 86, 87, 88, 89, 90, 91, 92, 93, 94, 95, 96, 97, 98, 99, 100, 101, 102, 103, 104, 105, 106, 107, 108, 109, 110] | 100003 => [0, 1, 3, 4, 5, 6, 7, 8, 9, 10, 11, 12, 13, 14, 15, 16, 17, 18, 19, 20, 21, 22, 23, 24, 25, 26, 27, 28, 29, 30, 31, 32, 33, 34, 35, 36, 37, 38, 39, 40, 41, 42, 43, 44, 45, 46, 47, 48, 49, 50, 51, 52, 53, 54, 55, 56, 57, 58, 59, 60, 61, 62, 63, 64, 65, 66, 67, 68, 69, 70, 71, 72, 73, 74, 75, 76, 77, 78, 79, 80, 81, 82, 83, 84, 85, 86, 87, 88, 89, 90, 91, 92, 93, 94, 95, 96, 97, 98, 99, 100, 101, 102, 103, 104, 105, 106, 107, 108, 109, 110] | 5 => [0, 2, 3, 4, 5, 8, 9, 10, 11, 12, 13, 14, 15, 16, 17, 18, 19, 20, 21, 22, 23, 24, 25, 26, 27, 28, 29, 30, 31, 32, 33, 34, 35, 36, 37, 38, 39, 40, 41, 42, 43, 44, 45, 46, 47, 48, 49, 50, 54, 55, 56, 57, 58, 59, 60, 61, 62, 63, 64, 65, 66, 67, 68, 69, 70, 71, 72, 73, 74, 75, 76, 77, 78, 79, 80, 81, 82, 83, 84, 85, 86, 87, 88, 89, 90, 91, 92, 93, 94, 95, 96, 97, 98, 99, 100, 101, 102, 103, 104, 105, 106, 107, 108, 109, 110] | 100005 => [0, 3, 4, 5, 6, 7, 8, 9, 10, 11, 12, 13, 14, 15, 16, 17, 18, 19, 20, 21, 22, 23, 24, 25, 26, 27, 28, 29, 30, 31, 32, 33, 34, 35, 36, 37, 38, 39, 40, 41, 42, 43, 44, 45, 46, 47, 48, 49, 50, 54, 55, 56, 57, 58, 59, 60, 61, 62, 63, 64, 65, 66, 67, 68, 69, 70, 71, 72, 73, 74, 75, 76, 77, 78, 79, 80, 81, 82, 83, 84, 85, 86, 87, 88, 89, 90, 91, 92, 93, 94, 95, 96, 97, 98, 99, 100, 101, 102, 103, 104, 105, 106, 107, 108, 109, 110] | 200003 => [13] | 200010 => [48] | 200016 => [73] | 200018 => [86] | _ => []
def ps_a39_1 : List (Pat RT) := [.flat .q, .flat (.ref 0 0), .flat .q, .flat .q, .flat .q, .flat .q, .flat .q, .flat .q, .flat .q, .flat .q, .flat .q, .flat .q, .flat .q, .flat .q, .flat .q, .flat .q, .flat .q, .flat .q, .flat .q, .flat .q, .flat .q, .flat .q, .flat .q, .flat .q, .flat .q, .flat (.rs .impl_Backend), .flat (.int .i64), .flat (.int .i64), .flat .q, .flat .q, .flat .q, .flat .q, .flat .q, .flat .q, .flat .q, .flat .q, .flat .q, .flat .q, .flat .q, .flat .q, .flat .q, .flat .q, .flat .q, .flat .q, .flat .q, .flat .q, .flat .q, .flat .q, .flat .q, .flat .q, .flat .q, .flat .q, .flat .q, .flat .q, .flat .q, .flat .q, .flat .q, .flat .q, .flat .q, .flat .q, .flat .q, .flat .q, .flat .q, .flat .q, .flat .q, .flat .q, .flat .q, .flat .q, .flat .q, .flat .q, .flat .q, .flat .q, .flat .q, .flat .q, .flat .q, .flat .q, .flat .q, .flat .q, .flat .q, .flat .q, .flat .q, .flat .q, .flat .q, .flat .q, .flat .q, .flat .q, .flat .q, .flat .q, .flat .q, .flat .q, .flat .q, .flat .q, .flat .q, .flat .q, .flat .q, .flat .q, .flat .q, .flat .q, .flat .q, .flat .q, .flat .q, .flat .q, .flat .q, .flat .q, .flat .q, .flat .q, .flat .q, .flat .q, .flat .q, .flat .q, .flat .q]
def os_a39_1 : List (OP RT) := [.box false [(.int .i64), (.rs .impl_Backend), (.rs .impl_Vip)]]
def conv_a39_1 (r : Raw den ps_a39_1 os_a39_1) : ((Sl S_impl_Backend) × Int × Int × (Sl S_impl_Backend) × (Sl S_impl_Vip)) × (Int) := ((r.1.2.2.2.2.2.2.2.2.2.2.2.2.2.2.2.2.2.2.2.2.2.2.2.2.2.1, r.1.2.2.2.2.2.2.2.2.2.2.2.2.2.2.2.2.2.2.2.2.2.2.2.2.2.2.1, r.2.1.1, r.2.1.2.1, r.2.1.2.2.1), r.1.2.2.2.2.2.2.2.2.2.2.2.2.2.2.2.2.2.2.2.2.2.2.2.2.2.2.2.1)
def back_a39_1 (c : (Sl S_impl_Backend) × Int × Int × (Sl S_impl_Backend) × (Sl S_impl_Vip)) (w : Int) : St RT den := ⟨[.q, (.ref 0 0), .q, .q, .q, .q, .q, .q, .q, .q, .q, .q, .q, .q, .q, .q, .q, .q, .q, .q, .q, .q, .q, .q, .q, (.rs c.1.z .impl_Backend c.1.n c.1.f), (.int .i64 c.2.1), (.int .i64 w), .q, .q, .q, .q, .q, .q, .q, .q, .q, .q, .q, .q, .q, .q, .q, .q, .q, .q, .q, .q, .q, .q, .q, .q, .q, .q, .q, .q, .q, .q, .q, .q, .q, .q, .q, .q, .q, .q, .q, .q, .q, .q, .q, .q, .q, .q, .q, .q, .q, .q, .q, .q, .q, .q, .q, .q, .q, .q, .q, .q, .q, .q, .q, .q, .q, .q, .q, .q, .q, .q, .q, .q, .q, .q, .q, .q, .q, .q, .q, .q, .q, .q, .q], [(.box false [(.int .i64 c.2.2.1), (.rs c.2.2.2.1.z .impl_Backend c.2.2.2.1.n c.2.2.2.1.f), (.rs c.2.2.2.2.z .impl_Vip c.2.2.2.2.n c.2.2.2.2.f)])]⟩
def Bk_a39_1 {ρ : Type} (fu : Nat) (c : (Sl S_impl_Backend) × Int × Int × (Sl S_impl_Backend) × (Sl S_impl_Vip)) (k : Ex → St RT den → Option ρ) (w : Int) (go : (Int) → Option ρ) : Option ρ := F_impl_ConfigFault_B1 fu c.1 c.2.1 c.2.2.1 c.2.2.2.1 c.2.2.2.2 (fun a0 a1 a2 a3 a4 => k .ret ⟨[.q, (.ref 0 0), (.int .i64 3), .q, .q, .q, .q, .q, .q, .q, .q, .q, .q, .q, .q, .q, .q, .q, .q, .q, .q, .q, .q, .q, .q, .q, .q, .q, .q, .q, .q, .q, .q, .q, .q, .q, .q, .q, .q, .q, .q, .q, .q, .q, .q, .q, .q, .q, .q, .q, .q, .q, .q, .q, .q, .q, .q, .q, .q, .q, .q, .q, .q, .q, .q, .q, .q, .q, .q, .q, .q, .q, .q, .q, .q, .q, .q, .q, .q, .q, .q, .q, .q, .q, .q, .q, .q, .q, .q, .q, .q, .q, .q, .q, .q, .q, .q, .q, .q, .q, .q, .q, .q, .q, .q, .q, .q, .q, .q, .q, .q], [(.box false [(.int .i64 c.2.2.1), (.rs c.2.2.2.1.z .impl_Backend c.2.2.2.1.n c.2.2.2.1.f), (.rs c.2.2.2.2.z .impl_Vip c.2.2.2.2.n c.2.2.2.2.f)]), (.box false [(.int .i64 a0), (.int .i64 a1), (.int .i64 a2), (.int .i64 a3), (.bool a4)])]⟩) (fun a0 a1 a2 a3 a4 => k .ret ⟨[.q, (.ref 0 0), (.int .i64 1), .q, .q, .q, .q, .q, .q, .q, .q, .q, .q, .q, .q, .q, .q, .q, .q, .q, .q, .q, .q, .q, .q, .q, .q, .q, .q, .q, .q, .q, .q, .q, .q, .q, .q, .q, .q, .q, .q, .q, .q, .q, .q, .q, .q, .q, .q, .q, .q, .q, .q, .q, .q, .q, .q, .q, .q, .q, .q, .q, .q, .q, .q, .q, .q, .q, .q, .q, .q, .q, .q, .q, .q, .q, .q, .q, .q, .q, .q, .q, .q, .q, .q, .q, .q, .q, .q, .q, .q, .q, .q, .q, .q, .q, .q, .q, .q, .q, .q, .q, .q, .q, .q, .q, .q, .q, .q, .q, .q], [(.box false [(.int .i64 c.2.2.1), (.rs c.2.2.2.1.z .impl_Backend c.2.2.2.1.n c.2.2.2.1.f), (.rs c.2.2.2.2.z .impl_Vip c.2.2.2.2.n c.2.2.2.2.f)]), (.box false [(.int .i64 a0), (.int .i64 a1), (.int .i64 a2), (.int .i64 a3), (.bool a4)])]⟩) (k (.exit 1) ⟨[.q, (.ref 0 0), .q, .q, .q, .q, .q, .q, .q, .q, .q, .q, .q, .q, .q, .q, .q, .q, .q, .q, .q, .q, .q, .q, .q, .q, .q, .q, .q, .q, .q, .q, .q, .q, .q, .q, .q, .q, .q, .q, .q, .q, .q, .q, .q, .q, .q, .q, .q, .q, .q, .q, .q, .q, .q, .q, .q, .q, .q, .q, .q, .q, .q, .q, .q, .q, .q, .q, .q, .q, .q, .q, .q, .q, .q, .q, .q, .q, .q, .q, .q, .q, .q, .q, .q, .q, .q, .q, .q, .q, .q, .q, .q, .q, .q, .q, .q, .q, .q, .q, .q, .q, .q, .q, .q, .q, .q, .q, .q, .q, .q], [(.box false [(.int .i64 c.2.2.1), (.rs c.2.2.2.1.z .impl_Backend c.2.2.2.1.n c.2.2.2.1.f), (.rs c.2.2.2.2.z .impl_Vip c.2.2.2.2.n c.2.2.2.2.f)])]⟩) w go
def ps_a39_5 : List (Pat RT) := [.flat .q, .flat (.ref 0 0), .flat .q, .flat .q, .flat .q, .flat .q, .flat (.ref 1 0), .flat (.int .i64), .flat .q, .flat .q, .flat .q, .flat .q, .flat .q, .flat .q, .flat .q, .flat .q, .flat .q, .flat .q, .flat .q, .flat .q, .flat .q, .flat .q, .flat .q, .flat .q, .flat .q, .flat .q, .flat .q, .flat .q, .flat .q, .flat .q, .flat .q, .flat .q, .flat .q, .flat .q, .flat .q, .flat .q, .flat .q, .flat .q, .flat .q, .flat .q, .flat .q, .flat .q, .flat .q, .flat .q, .flat .q, .flat .q, .flat .q, .flat .q, .flat .q, .flat .q, .flat .q, .flat (.rs .impl_Vip), .flat (.int .i64), .flat (.int .i64), .flat .q, .flat .q, .flat .q, .flat .q, .flat .q, .flat .q, .flat .q, .flat .q, .flat .q, .flat .q, .flat .q, .flat .q, .flat .q, .flat .q, .flat .q, .flat .q, .flat .q, .flat .q, .flat .q, .flat .q, .flat .q, .flat .q, .flat .q, .flat .q, .flat .q, .flat .q, .flat .q, .flat .q, .flat .q, .flat .q, .flat .q, .flat .q, .flat .q, .flat .q, .flat .q, .flat .q, .flat .q, .flat .q, .flat .q, .flat .q, .flat .q, .flat .q, .flat .q, .flat .q, .flat .q, .flat .q, .flat .q, .flat .q, .flat .q, .flat .q, .flat .q, .flat .q, .flat .q, .flat .q, .flat .q, .flat .q, .flat .q]
def os_a39_5 : List (OP RT) := [.box false [(.int .i64), (.rs .impl_Backend), (.rs .impl_Vip)], .box false [(.int .i64), (.int .i64), (.int .i64), (.rs .i64)]]
def conv_a39_5 (r : Raw den ps_a39_5 os_a39_5) : ((Sl S_impl_Vip) × Int × Int × Int × (Sl S_impl_Backend) × (Sl S_impl_Vip) × Int × Int × Int × (Sl Int)) × (Int) := ((r.1.2.2.2.2.2.2.2.2.2.2.2.2.2.2.2.2.2.2.2.2.2.2.2.2.2.2.2.2.2.2.2.2.2.2.2.2.2.2.2.2.2.2.2.2.2.2.2.2.2.2.2.1, r.1.2.2.2.2.2.2.2.2.2.2.2.2.2.2.2.2.2.2.2.2.2.2.2.2.2.2.2.2.2.2.2.2.2.2.2.2.2.2.2.2.2.2.2.2.2.2.2.2.2.2.2.2.1, r.1.2.2.2.2.2.2.2.2.2.2.2.2.2.2.2.2.2.2.2.2.2.2.2.2.2.2.2.2.2.2.2.2.2.2.2.2.2.2.2.2.2.2.2.2.2.2.2.2.2.2.2.2.2.1, r.2.1.1, r.2.1.2.1, r.2.1.2.2.1, r.2.2.1.1, r.2.2.1.2.1, r.2.2.1.2.2.1, r.2.2.1.2.2.2.1), r.1.2.2.2.2.2.2.2.1)
def back_a39_5 (c : (Sl S_impl_Vip) × Int × Int × Int × (Sl S_impl_Backend) × (Sl S_impl_Vip) × Int × Int × Int × (Sl Int)) (w : Int) : St RT den := ⟨[.q, (.ref 0 0), .q, .q, .q, .q, (.ref 1 0), (.int .i64 w), .q, .q, .q, .q, .q, .q, .q, .q, .q, .q, .q, .q, .q, .q, .q, .q, .q, .q, .q, .q, .q, .q, .q, .q, .q, .q, .q, .q, .q, .q, .q, .q, .q, .q, .q, .q, .q, .q, .q, .q, .q, .q, .q, (.rs c.1.z .impl_Vip c.1.n c.1.f), (.int .i64 c.2.1), (.int .i64 c.2.2.1), .q, .q, .q, .q, .q, .q, .q, .q, .q, .q, .q, .q, .q, .q, .q, .q, .q, .q, .q, .q, .q, .q, .q, .q, .q, .q, .q, .q, .q, .q, .q, .q, .q, .q, .q, .q, .q, .q, .q, .q, .q, .q, .q, .q, .q, .q, .q, .q, .q, .q, .q, .q, .q, .q, .q, .q, .q], [(.box false [(.int .i64 c.2.2.2.1), (.rs c.2.2.2.2.1.z .impl_Backend c.2.2.2.2.1.n c.2.2.2.2.1.f), (.rs c.2.2.2.2.2.1.z .impl_Vip c.2.2.2.2.2.1.n c.2.2.2.2.2.1.f)]), (.box false [(.int .i64 c.2.2.2.2.2.2.1), (.int .i64 c.2.2.2.2.2.2.2.1), (.int .i64 c.2.2.2.2.2.2.2.2.1), (.rs c.2.2.2.2.2.2.2.2.2.z .i64 c.2.2.2.2.2.2.2.2.2.n c.2.2.2.2.2.2.2.2.2.f)])]⟩
def Bk_a39_5 {ρ : Type} (fu : Nat) (c : (Sl S_impl_Vip) × Int × Int × Int × (Sl S_impl_Backend) × (Sl S_impl_Vip) × Int × Int × Int × (Sl Int)) (k : Ex → St RT den → Option ρ) (w : Int) (go : (Int) → Option ρ) : Option ρ := F_impl_ConfigFault_B5 fu c.1 c.2.1 c.2.2.1 c.2.2.2.1 c.2.2.2.2.1 c.2.2.2.2.2.1 c.2.2.2.2.2.2.1 c.2.2.2.2.2.2.2.1 c.2.2.2.2.2.2.2.2.1 c.2.2.2.2.2.2.2.2.2 (k .ret ⟨[.q, (.ref 0 0), (.int .i64 1), .q, .q, .q, .q, .q, .q, .q, .q, .q, .q, .q, .q, .q, .q, .q, .q, .q, .q, .q, .q, .q, .q, .q, .q, .q, .q, .q, .q, .q, .q, .q, .q, .q, .q, .q, .q, .q, .q, .q, .q, .q, .q, .q, .q, .q, .q, .q, .q, (.rs c.1.z .impl_Vip c.1.n c.1.f), (.int .i64 c.2.1), (.int .i64 c.2.2.1), .q, .q, .q, .q, .q, .q, .q, .q, .q, .q, .q, .q, .q, .q, .q, .q, .q, .q, .q, .q, .q, .q, .q, .q, .q, .q, .q, .q, .q, .q, .q, .q, .q, .q, .q, .q, .q, .q, .q, .q, .q, .q, .q, .q, .q, .q, .q, .q, .q, .q, .q, .q, .q, .q, .q, .q, .q], [(.box false [(.int .i64 c.2.2.2.1), (.rs c.2.2.2.2.1.z .impl_Backend c.2.2.2.2.1.n c.2.2.2.2.1.f), (.rs c.2.2.2.2.2.1.z .impl_Vip c.2.2.2.2.2.1.n c.2.2.2.2.2.1.f)]), (.box false [(.int .i64 c.2.2.2.2.2.2.1), (.int .i64 c.2.2.2.2.2.2.2.1), (.int .i64 c.2.2.2.2.2.2.2.2.1), (.rs c.2.2.2.2.2.2.2.2.2.z .i64 c.2.2.2.2.2.2.2.2.2.n c.2.2.2.2.2.2.2.2.2.f)])]⟩) (k (.exit 5) ⟨[.q, (.ref 0 0), .q, .q, .q, .q, .q, .q, .q, .q, .q, .q, .q, .q, .q, .q, .q, .q, .q, .q, .q, .q, .q, .q, .q, .q, .q, .q, .q, .q, .q, .q, .q, .q, .q, .q, .q, .q, .q, .q, .q, .q, .q, .q, .q, .q, .q, .q, .q, .q, .q, (.rs c.1.z .impl_Vip c.1.n c.1.f), (.int .i64 c.2.1), (.int .i64 c.2.2.1), .q, .q, .q, .q, .q, .q, .q, .q, .q, .q, .q, .q, .q, .q, .q, .q, .q, .q, .q, .q, .q, .q, .q, .q, .q, .q, .q, .q, .q, .q, .q, .q, .q, .q, .q, .q, .q, .q, .q, .q, .q, .q, .q, .q, .q, .q, .q, .q, .q, .q, .q, .q, .q, .q, .q, .q, .q], [(.box false [(.int .i64 c.2.2.2.1), (.rs c.2.2.2.2.1.z .impl_Backend c.2.2.2.2.1.n c.2.2.2.2.1.f), (.rs c.2.2.2.2.2.1.z .impl_Vip c.2.2.2.2.2.1.n c.2.2.2.2.2.1.f)]), (.box false [(.int .i64 c.2.2.2.2.2.2.1), (.int .i64 c.2.2.2.2.2.2.2.1), (.int .i64 c.2.2.2.2.2.2.2.2.1), (.rs c.2.2.2.2.2.2.2.2.2.z .i64 c.2.2.2.2.2.2.2.2.2.n c.2.2.2.2.2.2.2.2.2.f)])]⟩) w go
def ps_a39_3 : List (Pat RT) := [.flat .q, .flat (.ref 0 0), .flat .q, .flat .q, .flat .q, .flat .q, .flat .q, .flat .q, .flat .q, .flat .q, .flat .q, .flat .q, .flat .q, .flat .q, .flat .q, .flat .q, .flat .q, .flat .q, .flat .q, .flat .q, .flat .q, .flat .q, .flat .q, .flat .q, .flat .q, .flat .q, .flat .q, .flat .q, .flat .q, .flat .q, .flat .q, .flat .q, .flat .q, .flat .q, .flat .q, .flat .q, .flat .q, .flat .q, .flat .q, .flat .q, .flat .q, .flat .q, .flat .q, .flat .q, .flat .q, .flat .q, .flat .q, .flat .q, .flat .q, .flat .q, .flat .q, .flat (.rs .impl_Vip), .flat (.int .i64), .flat (.int .i64), .flat .q, .flat .q, .flat .q, .flat .q, .flat .q, .flat .q, .flat .q, .flat .q, .flat .q, .flat .q, .flat .q, .flat .q, .flat .q, .flat .q, .flat .q, .flat .q, .flat .q, .flat .q, .flat .q, .flat .q, .flat .q, .flat .q, .flat .q, .flat .q, .flat .q, .flat .q, .flat .q, .flat .q, .flat .q, .flat .q, .flat .q, .flat .q, .flat .q, .flat .q, .flat .q, .flat .q, .flat .q, .flat .q, .flat .q, .flat .q, .flat .q, .flat .q, .flat .q, .flat .q, .flat .q, .flat .q, .flat .q, .flat .q, .flat .q, .flat .q, .flat .q, .flat .q, .flat .q, .flat .q, .flat .q, .flat .q, .flat .q]
def os_a39_3 : List (OP RT) := [.box false [(.int .i64), (.rs .impl_Backend), (.rs .impl_Vip)]]
def conv_a39_3 (r : Raw den ps_a39_3 os_a39_3) : ((Sl S_impl_Vip) × Int × Int × (Sl S_impl_Backend) × (Sl S_impl_Vip)) × (Int) := ((r.1.2.2.2.2.2.2.2.2.2.2.2.2.2.2.2.2.2.2.2.2.2.2.2.2.2.2.2.2.2.2.2.2.2.2.2.2.2.2.2.2.2.2.2.2.2.2.2.2.2.2.2.1, r.1.2.2.2.2.2.2.2.2.2.2.2.2.2.2.2.2.2.2.2.2.2.2.2.2.2.2.2.2.2.2.2.2.2.2.2.2.2.2.2.2.2.2.2.2.2.2.2.2.2.2.2.2.1, r.2.1.1, r.2.1.2.1, r.2.1.2.2.1), r.1.2.2.2.2.2.2.2.2.2.2.2.2.2.2.2.2.2.2.2.2.2.2.2.2.2.2.2.2.2.2.2.2.2.2.2.2.2.2.2.2.2.2.2.2.2.2.2.2.2.2.2.2.2.1)
def back_a39_3 (c : (Sl S_impl_Vip) × Int × Int × (Sl S_impl_Backend) × (Sl S_impl_Vip)) (w : Int) : St RT den := ⟨[.q, (.ref 0 0), .q, .q, .q, .q, .q, .q, .q, .q, .q, .q, .q, .q, .q, .q, .q, .q, .q, .q, .q, .q, .q, .q, .q, .q, .q, .q, .q, .q, .q, .q, .q, .q, .q, .q, .q, .q, .q, .q, .q, .q, .q, .q, .q, .q, .q, .q, .q, .q, .q, (.rs c.1.z .impl_Vip c.1.n c.1.f), (.int .i64 c.2.1), (.int .i64 w), .q, .q, .q, .q, .q, .q, .q, .q, .q, .q, .q, .q, .q, .q, .q, .q, .q, .q, .q, .q, .q, .q, .q, .q, .q, .q, .q, .q, .q, .q, .q, .q, .q, .q, .q, .q, .q, .q, .q, .q, .q, .q, .q, .q, .q, .q, .q, .q, .q, .q, .q, .q, .q, .q, .q, .q, .q], [(.box false [(.int .i64 c.2.2.1), (.rs c.2.2.2.1.z .impl_Backend c.2.2.2.1.n c.2.2.2.1.f), (.rs c.2.2.2.2.z .impl_Vip c.2.2.2.2.n c.2.2.2.2.f)])]⟩
def Bk_a39_3 {ρ : Type} (fu : Nat) (c : (Sl S_impl_Vip) × Int × Int × (Sl S_impl_Backend) × (Sl S_impl_Vip)) (k : Ex → St RT den → Option ρ) (w : Int) (go : (Int) → Option ρ) : Option ρ := F_impl_ConfigFault_B3 fu c.1 c.2.1 c.2.2.1 c.2.2.2.1 c.2.2.2.2 (fun a0 a1 a2 a3 => k .ret ⟨[.q, .q, (.int .i64 3), .q, .q, .q, .q, .q, .q, .q, .q, .q, .q, .q, .q, .q, .q, .q, .q, .q, .q, .q, .q, .q, .q, .q, .q, .q, .q, .q, .q, .q, .q, .q, .q, .q, .q, .q, .q, .q, .q, .q, .q, .q, .q, .q, .q, .q, .q, .q, .q, .q, .q, .q, .q, .q, .q, .q, .q, .q, .q, .q, .q, .q, .q, .q, .q, .q, .q, .q, .q, .q, .q, .q, .q, .q, .q, .q, .q, .q, .q, .q, .q, .q, .q, .q, .q, .q, .q, .q, .q, .q, .q, .q, .q, .q, .q, .q, .q, .q, .q, .q, .q, .q, .q, .q, .q, .q, .q, .q, .q], [(.box false [(.int .i64 c.2.2.1), (.rs c.2.2.2.1.z .impl_Backend c.2.2.2.1.n c.2.2.2.1.f), (.rs c.2.2.2.2.z .impl_Vip c.2.2.2.2.n c.2.2.2.2.f)]), (.box false [(.int .i64 a0), (.int .i64 a1), (.int .i64 a2), (.rs a3.z .i64 a3.n a3.f)])]⟩) (fun a0 a1 a2 a3 => k .ret ⟨[.q, .q, (.int .i64 1), .q, .q, .q, .q, .q, .q, .q, .q, .q, .q, .q, .q, .q, .q, .q, .q, .q, .q, .q, .q, .q, .q, .q, .q, .q, .q, .q, .q, .q, .q, .q, .q, .q, .q, .q, .q, .q, .q, .q, .q, .q, .q, .q, .q, .q, .q, .q, .q, .q, .q, .q, .q, .q, .q, .q, .q, .q, .q, .q, .q, .q, .q, .q, .q, .q, .q, .q, .q, .q, .q, .q, .q, .q, .q, .q, .q, .q, .q, .q, .q, .q, .q, .q, .q, .q, .q, .q, .q, .q, .q, .q, .q, .q, .q, .q, .q, .q, .q, .q, .q, .q, .q, .q, .q, .q, .q, .q, .q], [(.box false [(.int .i64 c.2.2.1), (.rs c.2.2.2.1.z .impl_Backend c.2.2.2.1.n c.2.2.2.1.f), (.rs c.2.2.2.2.z .impl_Vip c.2.2.2.2.n c.2.2.2.2.f)]), (.box false [(.int .i64 a0), (.int .i64 a1), (.int .i64 a2), (.rs a3.z .i64 a3.n a3.f)])]⟩) (fun a0 a1 a2 a3 => k .ret ⟨[.q, .q, (.int .i64 4), .q, .q, .q, .q, .q, .q, .q, .q, .q, .q, .q, .q, .q, .q, .q, .q, .q, .q, .q, .q, .q, .q, .q, .q, .q, .q, .q, .q, .q, .q, .q, .q, .q, .q, .q, .q, .q, .q, .q, .q, .q, .q, .q, .q, .q, .q, .q, .q, .q, .q, .q, .q, .q, .q, .q, .q, .q, .q, .q, .q, .q, .q, .q, .q, .q, .q, .q, .q, .q, .q, .q, .q, .q, .q, .q, .q, .q, .q, .q, .q, .q, .q, .q, .q, .q, .q, .q, .q, .q, .q, .q, .q, .q, .q, .q, .q, .q, .q, .q, .q, .q, .q, .q, .q, .q, .q, .q, .q], [(.box false [(.int .i64 c.2.2.1), (.rs c.2.2.2.1.z .impl_Backend c.2.2.2.1.n c.2.2.2.1.f), (.rs c.2.2.2.2.z .impl_Vip c.2.2.2.2.n c.2.2.2.2.f)]), (.box false [(.int .i64 a0), (.int .i64 a1), (.int .i64 a2), (.rs a3.z .i64 a3.n a3.f)])]⟩) (k (.exit 3) ⟨[.q, .q, .q, .q, .q, .q, .q, .q, .q, .q, .q, .q, .q, .q, .q, .q, .q, .q, .q, .q, .q, .q, .q, .q, .q, .q, .q, .q, .q, .q, .q, .q, .q, .q, .q, .q, .q, .q, .q, .q, .q, .q, .q, .q, .q, .q, .q, .q, .q, .q, .q, .q, .q, .q, .q, .q, .q, .q, .q, .q, .q, .q, .q, .q, .q, .q, .q, .q, .q, .q, .q, .q, .q, .q, .q, .q, .q, .q, .q, .q, .q, .q, .q, .q, .q, .q, .q, .q, .q, .q, .q, .q, .q, .q, .q, .q, .q, .q, .q, .q, .q, .q, .q, .q, .q, .q, .q, .q, .q, .q, .q], [(.box false [(.int .i64 c.2.2.1), (.rs c.2.2.2.1.z .impl_Backend c.2.2.2.1.n c.2.2.2.1.f), (.rs c.2.2.2.2.z .impl_Vip c.2.2.2.2.n c.2.2.2.2.f)])]⟩) w go
def lp_a39 (fu : Nat) : Lp RT den (Int) := fun b s k => match b with | 1 => handle ps_a39_1 os_a39_1 conv_a39_1 (Bk_a39_1 fu) fu s k | 3 => handle ps_a39_3 os_a39_3 conv_a39_3 (Bk_a39_3 fu) fu s k | 5 => handle ps_a39_5 os_a39_5 conv_a39_5 (Bk_a39_5 fu) fu s k | _ => none
theorem ev_a39 (fu : Nat) (c_0 : S_impl_Config) : evFun E (pc_a39 fu) msk_a39 (lp_a39 fu) out_i64 70 [(.agg [(.int .i64 c_0.Version), (.rs c_0.Backends.z .impl_Backend c_0.Backends.n c_0.Backends.f), (.rs c_0.Vips.z .impl_Vip c_0.Vips.n c_0.Vips.f)])] = F_impl_ConfigFault fu c_0 := by kernel_rfl
noncomputable def body_a39 : Code := Try.f70.body.getD .skip
noncomputable def lc_a39_1 : Code := ((loops 0 body_a39).getD 0 (0, .skip)).2
theorem round_a39_1 (fu : Nat) (it : St RT den → Option (Int)) (k : Ex → St RT den → Option (Int)) c w : evCode E (pc_a39 fu) msk_a39 (lp_a39 fu) 1 lc_a39_1 (back_a39_1 c w) (after (msk_a39 1) (msk_a39 100001) 1 it k) = Bk_a39_1 fu c k w (fun w => it (back_a39_1 c w)) := by kernel_rfl
theorem lpok_a39_1 (fu : Nat) : ∀ s k r, lp_a39 fu 1 s k = some r → ∃ fuel, iter (msk_a39 1) (msk_a39 100001) s.objs.length (evCode E (pc_a39 fu) msk_a39 (lp_a39 fu) 1 lc_a39_1) fuel s k = some r :=
  handle_ok (ps := ps_a39_1) (os := os_a39_1) (conv := conv_a39_1) (B := Bk_a39_1 fu) (fu := fu) back_a39_1 (fun raw => by kernel_rfl) 1 (fun c w => by kernel_rfl) (round_a39_1 fu)
noncomputable def lc_a39_3 : Code := ((loops 0 body_a39).getD 1 (0, .skip)).2
theorem round_a39_3 (fu : Nat) (it : St RT den → Option (Int)) (k : Ex → St RT den → Option (Int)) c w : evCode E (pc_a39 fu) msk_a39 (lp_a39 fu) 3 lc_a39_3 (back_a39_3 c w) (after (msk_a39 3) (msk_a39 100003) 1 it k) = Bk_a39_3 fu c k w (fun w => it (back_a39_3 c w)) := by kernel_rfl
theorem lpok_a39_3 (fu : Nat) : ∀ s k r, lp_a39 fu 3 s k = some r → ∃ fuel, iter (msk_a39 3) (msk_a39 100003) s.objs.length (evCode E (pc_a39 fu) msk_a39 (lp_a39 fu) 3 lc_a39_3) fuel s k = some r :=
  handle_ok (ps := ps_a39_3) (os := os_a39_3) (conv := conv_a39_3) (B := Bk_a39_3 fu) (fu := fu) back_a39_3 (fun raw => by kernel_rfl) 1 (fun c w => by kernel_rfl) (round_a39_3 fu)
noncomputable def lc_a39_5 : Code := ((loops 0 body_a39).getD 2 (0, .skip)).2
theorem round_a39_5 (fu : Nat) (it : St RT den → Option (Int)) (k : Ex → St RT den → Option (Int)) c w : evCode E (pc_a39 fu) msk_a39 (lp_a39 fu) 5 lc_a39_5 (back_a39_5 c w) (after (msk_a39 5) (msk_a39 100005) 2 it k) = Bk_a39_5 fu c k w (fun w => it (back_a39_5 c w)) := by kernel_rfl
theorem lpok_a39_5 (fu : Nat) : ∀ s k r, lp_a39 fu 5 s k = some r → ∃ fuel, iter (msk_a39 5) (msk_a39 100005) s.objs.length (evCode E (pc_a39 fu) msk_a39 (lp_a39 fu) 5 lc_a39_5) fuel s k = some r :=
  handle_ok (ps := ps_a39_5) (os := os_a39_5) (conv := conv_a39_5) (B := Bk_a39_5 fu) (fu := fu) back_a39_5 (fun raw => by kernel_rfl) 2 (fun c w => by kernel_rfl) (round_a39_5 fu)
theorem lpok_a39 (fu : Nat) : LpOk E (pc_a39 fu) msk_a39 (lp_a39 fu) (loops 0 body_a39) := loop_all 3 (by kernel_rfl) fun i hi => match i, hi with
  | 0, _ => by
    have h : (loops 0 body_a39).getD 0 (0, .skip) = (1, lc_a39_1) := by kernel_rfl
    rw [h]; exact lpok_a39_1 fu
  | 1, _ => by
    have h : (loops 0 body_a39).getD 1 (0, .skip) = (3, lc_a39_3) := by kernel_rfl
    rw [h]; exact lpok_a39_3 fu
  | 2, _ => by
    have h : (loops 0 body_a39).getD 2 (0, .skip) = (5, lc_a39_5) := by kernel_rfl
    rw [h]; exact lpok_a39_5 fu
  | i + 3, hi => absurd hi (by omega)
def S_a39 (fu : Nat) (xs : List (D RT den)) : Option (Out RT den) := match xs with | [.agg [.int .i64 a0_1, .rs za0_2 .impl_Backend na0_2 fa0_2, .rs za0_3 .impl_Vip na0_3 fa0_3]] => some ⟨Int, F_impl_ConfigFault fu (⟨a0_1, (⟨za0_2, na0_2, fa0_2⟩ : (Sl S_impl_Backend)), (⟨za0_3, na0_3, fa0_3⟩ : (Sl S_impl_Vip))⟩ : S_impl_Config), enc_i64, fun _ => true⟩ | _ => none
theorem hpc_a39 (fu : Nat) : ∀ f xs o, pcf_a39 fu f xs = some o → ∀ y, o.x = some y → Good E Try.prog f xs (o.g y) := by
  intro f xs o h
  unfold pcf_a39 at h
  split at h
  · exact good_a23 fu xs o h
  · exact good_a25 fu xs o h
  · exact good_a38 fu xs o h
  · exact good_a26 fu xs o h
  · exact good_a27 fu xs o h
  · exact good_a28 fu xs o h
  · exact good_a32 fu xs o h
  · cases h
theorem goodv_a39 (fu : Nat) (c_0 : S_impl_Config) (y : Int) (hy : F_impl_ConfigFault fu c_0 = some y) : Good E Try.prog 70 [(.agg [(.int .i64 c_0.Version), (.rs c_0.Backends.z .impl_Backend c_0.Backends.n c_0.Backends.f), (.rs c_0.Vips.z .impl_Vip c_0.Vips.n c_0.Vips.f)])] (enc_i64 y) :=
  fun_good E_ok (pc_good (pc := pc_a39 fu) (hpc_a39 fu) hpx0) (fn := Try.f70) (c := body_a39) (out := out_i64) (y := y) (by kernel_rfl) (by kernel_rfl) (by kernel_rfl) (lpok_a39 fu) (fun d hd => out_i64_enc d _ hd) ((ev_a39 fu c_0).trans hy)
theorem good_a39 (fu : Nat) : ∀ xs o, S_a39 fu xs = some o → ∀ y, o.x = some y → Good E Try.prog 70 xs (o.g y) := by
  intro xs o h y hy
  unfold S_a39 at h
  split at h
  · rename_i a0_1 za0_2 na0_2 fa0_2 za0_3 na0_3 fa0_3
    cases h
    exact goodv_a39 fu (⟨a0_1, (⟨za0_2, na0_2, fa0_2⟩ : (Sl S_impl_Backend)), (⟨za0_3, na0_3, fa0_3⟩ : (Sl S_impl_Vip))⟩ : S_impl_Config) y hy
  · cases h

/-! impl.VerdictsFault -/
def F_impl_VerdictsFault_B0 {ρ : Type} (fu : Nat) (t8_0 : (Sl S_impl_Verdict)) (t9_1 : Int) (k0 : Int → Int → Bool → Int → Option ρ) (k1 : Option ρ) (t10_2 : Int) (go : Int → Option ρ) : Option ρ :=
  (bif (decide (t10_2 < t9_1)) then ((bif (decide (0 ≤ t10_2) && decide ((Int.toNat t10_2) < t8_0.n)) then some () else none : Option Unit).bind fun _ => ((((F_impl_in fu (t8_0.f (Int.toNat t10_2)).Prober 0 9).bind fun y178 =>
    (bif (!y178) then (some true) else ((F_impl_isName fu (t8_0.f (Int.toNat t10_2)).Name).bind fun y179 => (bif (!y179) then (some true) else ((F_impl_in fu (t8_0.f (Int.toNat t10_2)).Epoch 0 1000000).bind fun y180 =>
    (some (!y180))))))) : Option Bool).bind fun m181 => (bif m181 then (k0 (t8_0.f (Int.toNat t10_2)).Prober (t8_0.f (Int.toNat t10_2)).Name (t8_0.f (Int.toNat t10_2)).Up (t8_0.f (Int.toNat t10_2)).Epoch) else
    (go (IntKind.wrap .i64 (t10_2 + 1)))))) else k1)
def F_impl_VerdictsFault (fu : Nat) (list_0 : (Sl S_impl_Verdict)) : Option (Int) :=
  (bif (decide (((list_0.n : Nat) : Int) > 60)) then (some 2) else (L (fun w0 go0 => F_impl_VerdictsFault_B0 fu list_0 ((list_0.n : Nat) : Int) (fun z182 z183 z184 z185 => (some 3)) (some 0) w0 go0) fu (0 : Int)))
def pcf_b0 (fu : Nat) (f : Nat) (xs : List (D RT den)) : Option (Out RT den) := match f with | 72 => S_a23 fu xs | 136 => S_a24 fu xs | _ => none
def pc_b0 (fu : Nat) : Pc RT den := ⟨pcf_b0 fu, fun _ => false, fun _ => false, pcd0, pcx0⟩
def msk_b0 (b : Nat) : List Nat := match b with | 0 => [0, 1, 2, 3, 4, 5, 6, 7, 11, 12, 13, 14, 15, 16, 17, 18, 19, 20, 21, 22, 23, 24, 25, 26, 27, 28, 29, 30] | 100000 => [0, 1, 3, 4, 5, 6, 7, 8, 9, 10, 11, 12, 13, 14, 15, 16, 17, 18, 19, 20, 21, 22, 23, 24, 25, 26, 27, 28, 29, 30] | 200006 => [29] | _ => []
def ps_b0_0 : List (Pat RT) := [.flat .q, .flat .q, .flat .q, .flat .q, .flat .q, .flat .q, .flat .q, .flat .q, .flat (.rs .impl_Verdict), .flat (.int .i64), .flat (.int .i64), .flat .q, .flat .q, .flat .q, .flat .q, .flat .q, .flat .q, .flat .q, .flat .q, .flat .q, .flat .q, .flat .q, .flat .q, .flat .q, .flat .q, .flat .q, .flat .q, .flat .q, .flat .q, .flat .q, .flat .q]
def os_b0_0 : List (OP RT) := []
def conv_b0_0 (r : Raw den ps_b0_0 os_b0_0) : ((Sl S_impl_Verdict) × Int) × (Int) := ((r.1.2.2.2.2.2.2.2.2.1, r.1.2.2.2.2.2.2.2.2.2.1), r.1.2.2.2.2.2.2.2.2.2.2.1)
def back_b0_0 (c : (Sl S_impl_Verdict) × Int) (w : Int) : St RT den := ⟨[.q, .q, .q, .q, .q, .q, .q, .q, (.rs c.1.z .impl_Verdict c.1.n c.1.f), (.int .i64 c.2), (.int .i64 w), .q, .q, .q, .q, .q, .q, .q, .q, .q, .q, .q, .q, .q, .q, .q, .q, .q, .q, .q, .q], []⟩
def Bk_b0_0 {ρ : Type} (fu : Nat) (c : (Sl S_impl_Verdict) × Int) (k : Ex → St RT den → Option ρ) (w : Int) (go : (Int) → Option ρ) : Option ρ := F_impl_VerdictsFault_B0 fu c.1 c.2 (fun a0 a1 a2 a3 => k .ret ⟨[.q, .q, (.int .i64 3), .q, .q, .q, .q, .q, .q, .q, .q, .q, .q, .q, .q, .q, .q, .q, .q, .q, .q, .q, .q, .q, .q, .q, .q, .q, .q, .q, .q], [(.box false [(.int .i64 a0), (.int .i64 a1), (.bool a2), (.int .i64 a3)])]⟩) (k (.exit 0) ⟨[.q, .q, .q, .q, .q, .q, .q, .q, .q, .q, .q, .q, .q, .q, .q, .q, .q, .q, .q, .q, .q, .q, .q, .q, .q, .q, .q, .q, .q, .q, .q], []⟩) w go
def lp_b0 (fu : Nat) : Lp RT den (Int) := fun b s k => match b with | 0 => handle ps_b0_0 os_b0_0 conv_b0_0 (Bk_b0_0 fu) fu s k | _ => none
theorem ev_b0 (fu : Nat) (list_0 : (Sl S_impl_Verdict)) : evFun E (pc_b0 fu) msk_b0 (lp_b0 fu) out_i64 71 [(.rs list_0.z .impl_Verdict list_0.n list_0.f)] = F_impl_VerdictsFault fu list_0 := by kernel_rfl
noncomputable def body_b0 : Code := Try.f71.body.getD .skip
noncomputable def lc_b0_0 : Code := ((loops 0 body_b0).getD 0 (0, .skip)).2
theorem round_b0_0 (fu : Nat) (it : St RT den → Option (Int)) (k : Ex → St RT den → Option (Int)) c w : evCode E (pc_b0 fu) msk_b0 (lp_b0 fu) 0 lc_b0_0 (back_b0_0 c w) (after (msk_b0 0) (msk_b0 100000) 0 it k) = Bk_b0_0 fu c k w (fun w => it (back_b0_0 c w)) := by kernel_rfl
theorem lpok_b0_0 (fu : Nat) : ∀ s k r, lp_b0 fu 0 s k = some r → ∃ fuel, iter (msk_b0 0) (msk_b0 100000) s.objs.length (evCode E (pc_b0 fu) msk_b0 (lp_b0 fu) 0 lc_b0_0) fuel s k = some r :=
  handle_ok (ps := ps_b0_0) (os := os_b0_0) (conv := conv_b0_0) (B := Bk_b0_0 fu) (fu := fu) back_b0_0 (fun raw => by kernel_rfl) 0 (fun c w => by kernel_rfl) (round_b0_0 fu)
theorem lpok_b0 (fu : Nat) : LpOk E (pc_b0 fu) msk_b0 (lp_b0 fu) (loops 0 body_b0) := loop_all 1 (by kernel_rfl) fun i hi => match i, hi with
  | 0, _ => by
    have h : (loops 0 body_b0).getD 0 (0, .skip) = (0, lc_b0_0) := by kernel_rfl
    rw [h]; exact lpok_b0_0 fu
  | i + 1, hi => absurd hi (by omega)
def S_b0 (fu : Nat) (xs : List (D RT den)) : Option (Out RT den) := match xs with | [.rs za0_0 .impl_Verdict na0_0 fa0_0] => some ⟨Int, F_impl_VerdictsFault fu (⟨za0_0, na0_0, fa0_0⟩ : (Sl S_impl_Verdict)), enc_i64, fun _ => true⟩ | _ => none
theorem hpc_b0 (fu : Nat) : ∀ f xs o, pcf_b0 fu f xs = some o → ∀ y, o.x = some y → Good E Try.prog f xs (o.g y) := by
  intro f xs o h
  unfold pcf_b0 at h
  split at h
  · exact good_a23 fu xs o h
  · exact good_a24 fu xs o h
  · cases h
theorem goodv_b0 (fu : Nat) (list_0 : (Sl S_impl_Verdict)) (y : Int) (hy : F_impl_VerdictsFault fu list_0 = some y) : Good E Try.prog 71 [(.rs list_0.z .impl_Verdict list_0.n list_0.f)] (enc_i64 y) :=
  fun_good E_ok (pc_good (pc := pc_b0 fu) (hpc_b0 fu) hpx0) (fn := Try.f71) (c := body_b0) (out := out_i64) (y := y) (by kernel_rfl) (by kernel_rfl) (by kernel_rfl) (lpok_b0 fu) (fun d hd => out_i64_enc d _ hd) ((ev_b0 fu list_0).trans hy)
theorem good_b0 (fu : Nat) : ∀ xs o, S_b0 fu xs = some o → ∀ y, o.x = some y → Good E Try.prog 71 xs (o.g y) := by
  intro xs o h y hy
  unfold S_b0 at h
  split at h
  · rename_i za0_0 na0_0 fa0_0
    cases h
    exact goodv_b0 fu (⟨za0_0, na0_0, fa0_0⟩ : (Sl S_impl_Verdict)) y hy
  · cases h

/-! impl.verdict -/
def F_impl_verdict_B2 {ρ : Type} (fu : Nat) (list0_0 : (Sl S_impl_Verdict)) (name1_1 : Int) (probers2_2 : Int) (up7_3 : Int) (down8_4 : Int) (prober9_5 : Int) (t13_6 : Int) (t14_7 : Int) (t18_8 : (Sl S_impl_Verdict)) (t19_9 : Int) (k0 : Int → Int → Bool → Int → Option ρ) (t20_10 : Int) (o0_11 : Int) (o0_12 : Int) (o0_13 : Bool) (o0_14 : Int) (go : Int → Int → Int → Bool → Int → Option ρ) : Option ρ :=
  (bif (decide (t20_10 < t19_9)) then ((bif (decide (0 ≤ t20_10) && decide ((Int.toNat t20_10) < t18_8.n)) then some () else none : Option Unit).bind fun _ => (((bif ((t18_8.f (Int.toNat t20_10)).Prober == prober9_5) then
    (bif ((t18_8.f (Int.toNat t20_10)).Name == name1_1) then (some (decide ((t18_8.f (Int.toNat t20_10)).Epoch > o0_14))) else (some false)) else (some false)) : Option Bool).bind fun m186 =>
    (bif m186 then (go (IntKind.wrap .i64 (t20_10 + 1)) (t18_8.f (Int.toNat t20_10)).Prober (t18_8.f (Int.toNat t20_10)).Name (t18_8.f (Int.toNat t20_10)).Up (t18_8.f (Int.toNat t20_10)).Epoch) else
    (go (IntKind.wrap .i64 (t20_10 + 1)) o0_11 o0_12 o0_13 o0_14)))) else (k0 o0_11 o0_12 o0_13 o0_14))
def F_impl_verdict_B0 {ρ : Type} (fu : Nat) (list0_0 : (Sl S_impl_Verdict)) (name1_1 : Int) (probers2_2 : Int) (t13_5 : Int) (k0 : Int → Int → Option ρ) (up7_3 : Int) (down8_4 : Int) (t14_6 : Int) (go : Int → Int → Int → Option ρ) : Option ρ :=
  (bif (decide (t14_6 < t13_5)) then (L (fun w2 go2 => F_impl_verdict_B2 fu list0_0 name1_1 probers2_2 up7_3 down8_4 t14_6 t13_5 t14_6 list0_0 ((list0_0.n : Nat) : Int) (fun z187 z188 z189 z190 =>
    (bif (decide (z190 < 0)) then (go up7_3 down8_4 (IntKind.wrap .i64 (t14_6 + 1))) else (bif z189 then (go (IntKind.wrap .i64 (up7_3 + 1)) down8_4 (IntKind.wrap .i64 (t14_6 + 1))) else
    (go up7_3 (IntKind.wrap .i64 (down8_4 + 1)) (IntKind.wrap .i64 (t14_6 + 1)))))) w2.1 w2.2.1 w2.2.2.1 w2.2.2.2.1 w2.2.2.2.2 (fun q0 q1 q2 q3 q4 => go2 (q0, q1, q2, q3, q4))) fu ((0,
    0, 0, false, (-1)) : Int × Int × Int × Bool × Int)) else (k0 up7_3 down8_4))
def F_impl_verdict (fu : Nat) (list_0 : (Sl S_impl_Verdict)) (name_1 : Int) (probers_2 : Int) : Option (Int) :=
  (L (fun w0 go0 => F_impl_verdict_B0 fu list_0 name_1 probers_2 probers_2 (fun z191 z192 => (bif (decide ((IntKind.wrap .i64 (2 * z191)) > probers_2)) then (some 1) else (bif (decide ((IntKind.wrap .i64 (2 * z192)) > probers_2)) then
    (some 2) else (some 0)))) w0.1 w0.2.1 w0.2.2 (fun q0 q1 q2 => go0 (q0, q1, q2))) fu ((0, 0, 0) : Int × Int × Int))
def pc_b1 (fu : Nat) : Pc RT den := ⟨pcf0, fun _ => false, fun _ => false, pcd0, pcx0⟩
def msk_b1 (b : Nat) : List Nat := match b with | 0 => [3, 4, 5, 6, 9, 10, 11, 12, 15, 16, 17, 18, 19, 20, 21, 22, 23, 24, 25, 26, 27, 28, 29, 30, 31, 32, 33, 34, 35, 36, 37, 38, 39, 40, 41, 42, 43, 44, 45, 46, 47, 48, 49, 50, 51, 52, 53, 54, 55, 56, 57, 58, 59, 60, 61, 62, 63, 64] | 100000 => [0, 1, 3, 4, 5, 9, 10, 11, 12, 13, 14, 15, 16, 17, 18, 19, 20, 21, 22, 23, 24, 25, 26, 27, 28, 29, 30, 31, 32, 33, 34, 35, 36, 37, 38, 39, 40, 41, 42, 43, 44, 45, 46, 47, 48, 49, 50, 51, 52, 53, 54, 55, 56, 57, 58, 59, 60, 61, 62, 63, 64] | 2 => [3, 4, 5, 6, 11, 12, 15, 16, 17, 21, 22, 23, 24, 25, 26, 27, 28, 29, 30, 31, 32, 33, 34, 35, 36, 37, 38, 39, 40, 41, 42, 43, 44, 45, 46, 47, 48, 49, 50, 51, 52, 53, 54, 55, 56, 57, 58, 59, 60, 61, 62, 63, 64] | 100002 => [3, 4, 5, 9, 11, 12, 15, 16, 17, 18, 19, 20, 21, 22, 23, 24, 25, 26, 27, 28, 29, 30, 31, 32, 33, 34, 35, 36, 37, 38, 39, 40, 41, 42, 43, 44, 45, 46, 47, 48, 49, 50, 51, 52, 53, 54, 55, 56, 57, 58, 59, 60, 61, 62, 63, 64] | 200009 => [40] | _ => []
def ps_b1_2 : List (Pat RT) := [.flat (.rs .impl_Verdict), .flat (.int .i64), .flat (.int .i64), .flat .q, .flat .q, .flat .q, .flat .q, .flat (.int .i64), .flat (.int .i64), .flat (.int .i64), .flat (.ref 0 0), .flat .q, .flat .q, .flat (.int .i64), .flat (.int .i64), .flat .q, .flat .q, .flat .q, .flat (.rs .impl_Verdict), .flat (.int .i64), .flat (.int .i64), .flat .q, .flat .q, .flat .q, .flat .q, .flat .q, .flat .q, .flat .q, .flat .q, .flat .q, .flat .q, .flat .q, .flat .q, .flat .q, .flat .q, .flat .q, .flat .q, .flat .q, .flat .q, .flat .q, .flat .q, .flat .q, .flat .q, .flat .q, .flat .q, .flat .q, .flat .q, .flat .q, .flat .q, .flat .q, .flat .q, .flat .q, .flat .q, .flat .q, .flat .q, .flat .q, .flat .q, .flat .q, .flat .q, .flat .q, .flat .q, .flat .q, .flat .q, .flat .q, .flat .q]
def os_b1_2 : List (OP RT) := [.box false [(.int .i64), (.int .i64), .bool, (.int .i64)]]
def conv_b1_2 (r : Raw den ps_b1_2 os_b1_2) : ((Sl S_impl_Verdict) × Int × Int × Int × Int × Int × Int × Int × (Sl S_impl_Verdict) × Int) × (Int × Int × Int × Bool × Int) := ((r.1.1, r.1.2.1, r.1.2.2.1, r.1.2.2.2.2.2.2.2.1, r.1.2.2.2.2.2.2.2.2.1, r.1.2.2.2.2.2.2.2.2.2.1, r.1.2.2.2.2.2.2.2.2.2.2.2.2.2.1, r.1.2.2.2.2.2.2.2.2.2.2.2.2.2.2.1, r.1.2.2.2.2.2.2.2.2.2.2.2.2.2.2.2.2.2.2.1, r.1.2.2.2.2.2.2.2.2.2.2.2.2.2.2.2.2.2.2.2.1), (r.1.2.2.2.2.2.2.2.2.2.2.2.2.2.2.2.2.2.2.2.2.1, r.2.1.1, r.2.1.2.1, r.2.1.2.2.1, r.2.1.2.2.2.1))
def back_b1_2 (c : (Sl S_impl_Verdict) × Int × Int × Int × Int × Int × Int × Int × (Sl S_impl_Verdict) × Int) (w : Int × Int × Int × Bool × Int) : St RT den := ⟨[(.rs c.1.z .impl_Verdict c.1.n c.1.f), (.int .i64 c.2.1), (.int .i64 c.2.2.1), .q, .q, .q, .q, (.int .i64 c.2.2.2.1), (.int .i64 c.2.2.2.2.1), (.int .i64 c.2.2.2.2.2.1), (.ref 0 0), .q, .q, (.int .i64 c.2.2.2.2.2.2.1), (.int .i64 c.2.2.2.2.2.2.2.1), .q, .q, .q, (.rs c.2.2.2.2.2.2.2.2.1.z .impl_Verdict c.2.2.2.2.2.2.2.2.1.n c.2.2.2.2.2.2.2.2.1.f), (.int .i64 c.2.2.2.2.2.2.2.2.2), (.int .i64 w.1), .q, .q, .q, .q, .q, .q, .q, .q, .q, .q, .q, .q, .q, .q, .q, .q, .q, .q, .q, .q, .q, .q, .q, .q, .q, .q, .q, .q, .q, .q, .q, .q, .q, .q, .q, .q, .q, .q, .q, .q, .q, .q, .q, .q], [(.box false [(.int .i64 w.2.1), (.int .i64 w.2.2.1), (.bool w.2.2.2.1), (.int .i64 w.2.2.2.2)])]⟩
def Bk_b1_2 {ρ : Type} (fu : Nat) (c : (Sl S_impl_Verdict) × Int × Int × Int × Int × Int × Int × Int × (Sl S_impl_Verdict) × Int) (k : Ex → St RT den → Option ρ) (w : Int × Int × Int × Bool × Int) (go : (Int × Int × Int × Bool × Int) → Option ρ) : Option ρ := F_impl_verdict_B2 fu c.1 c.2.1 c.2.2.1 c.2.2.2.1 c.2.2.2.2.1 c.2.2.2.2.2.1 c.2.2.2.2.2.2.1 c.2.2.2.2.2.2.2.1 c.2.2.2.2.2.2.2.2.1 c.2.2.2.2.2.2.2.2.2 (fun a0 a1 a2 a3 => k (.exit 2) ⟨[(.rs c.1.z .impl_Verdict c.1.n c.1.f), (.int .i64 c.2.1), (.int .i64 c.2.2.1), .q, .q, .q, .q, (.int .i64 c.2.2.2.1), (.int .i64 c.2.2.2.2.1), .q, (.ref 0 0), .q, .q, (.int .i64 c.2.2.2.2.2.2.1), (.int .i64 c.2.2.2.2.2.2.2.1), .q, .q, .q, .q, .q, .q, .q, .q, .q, .q, .q, .q, .q, .q, .q, .q, .q, .q, .q, .q, .q, .q, .q, .q, .q, .q, .q, .q, .q, .q, .q, .q, .q, .q, .q, .q, .q, .q, .q, .q, .q, .q, .q, .q, .q, .q, .q, .q, .q, .q], [(.box false [(.int .i64 a0), (.int .i64 a1), (.bool a2), (.int .i64 a3)])]⟩) w.1 w.2.1 w.2.2.1 w.2.2.2.1 w.2.2.2.2 (fun q0 q1 q2 q3 q4 => go (q0, q1, q2, q3, q4))
def ps_b1_0 : List (Pat RT) := [.flat (.rs .impl_Verdict), .flat (.int .i64), .flat (.int .i64), .flat .q, .flat .q, .flat .q, .flat .q, .flat (.int .i64), .flat (.int .i64), .flat .q, .flat .q, .flat .q, .flat .q, .flat (.int .i64), .flat (.int .i64), .flat .q, .flat .q, .flat .q, .flat .q, .flat .q, .flat .q, .flat .q, .flat .q, .flat .q, .flat .q, .flat .q, .flat .q, .flat .q, .flat .q, .flat .q, .flat .q, .flat .q, .flat .q, .flat .q, .flat .q, .flat .q, .flat .q, .flat .q, .flat .q, .flat .q, .flat .q, .flat .q, .flat .q, .flat .q, .flat .q, .flat .q, .flat .q, .flat .q, .flat .q, .flat .q, .flat .q, .flat .q, .flat .q, .flat .q, .flat .q, .flat .q, .flat .q, .flat .q, .flat .q, .flat .q, .flat .q, .flat .q, .flat .q, .flat .q, .flat .q]
def os_b1_0 : List (OP RT) := []
def conv_b1_0 (r : Raw den ps_b1_0 os_b1_0) : ((Sl S_impl_Verdict) × Int × Int × Int) × (Int × Int × Int) := ((r.1.1, r.1.2.1, r.1.2.2.1, r.1.2.2.2.2.2.2.2.2.2.2.2.2.2.1), (r.1.2.2.2.2.2.2.2.1, r.1.2.2.2.2.2.2.2.2.1, r.1.2.2.2.2.2.2.2.2.2.2.2.2.2.2.1))
def back_b1_0 (c : (Sl S_impl_Verdict) × Int × Int × Int) (w : Int × Int × Int) : St RT den := ⟨[(.rs c.1.z .impl_Verdict c.1.n c.1.f), (.int .i64 c.2.1), (.int .i64 c.2.2.1), .q, .q, .q, .q, (.int .i64 w.1), (.int .i64 w.2.1), .q, .q, .q, .q, (.int .i64 c.2.2.2), (.int .i64 w.2.2), .q, .q, .q, .q, .q, .q, .q, .q, .q, .q, .q, .q, .q, .q, .q, .q, .q, .q, .q, .q, .q, .q, .q, .q, .q, .q, .q, .q, .q, .q, .q, .q, .q, .q, .q, .q, .q, .q, .q, .q, .q, .q, .q, .q, .q, .q, .q, .q, .q, .q], []⟩
def Bk_b1_0 {ρ : Type} (fu : Nat) (c : (Sl S_impl_Verdict) × Int × Int × Int) (k : Ex → St RT den → Option ρ) (w : Int × Int × Int) (go : (Int × Int × Int) → Option ρ) : Option ρ := F_impl_verdict_B0 fu c.1 c.2.1 c.2.2.1 c.2.2.2 (fun a0 a1 => k (.exit 0) ⟨[.q, .q, (.int .i64 c.2.2.1), .q, .q, .q, .q, (.int .i64 a0), (.int .i64 a1), .q, .q, .q, .q, .q, .q, .q, .q, .q, .q, .q, .q, .q, .q, .q, .q, .q, .q, .q, .q, .q, .q, .q, .q, .q, .q, .q, .q, .q, .q, .q, .q, .q, .q, .q, .q, .q, .q, .q, .q, .q, .q, .q, .q, .q, .q, .q, .q, .q, .q, .q, .q, .q, .q, .q, .q], []⟩) w.1 w.2.1 w.2.2 (fun q0 q1 q2 => go (q0, q1, q2))
def lp_b1 (fu : Nat) : Lp RT den (Int) := fun b s k => match b with | 0 => handle ps_b1_0 os_b1_0 conv_b1_0 (Bk_b1_0 fu) fu s k | 2 => handle ps_b1_2 os_b1_2 conv_b1_2 (Bk_b1_2 fu) fu s k | _ => none
theorem ev_b1 (fu : Nat) (list_0 : (Sl S_impl_Verdict)) (name_1 : Int) (probers_2 : Int) : evFun E (pc_b1 fu) msk_b1 (lp_b1 fu) out_i64 73 [(.rs list_0.z .impl_Verdict list_0.n list_0.f), (.int .i64 name_1), (.int .i64 probers_2)] = F_impl_verdict fu list_0 name_1 probers_2 := by kernel_rfl
noncomputable def body_b1 : Code := Try.f73.body.getD .skip
noncomputable def lc_b1_0 : Code := ((loops 0 body_b1).getD 0 (0, .skip)).2
theorem round_b1_0 (fu : Nat) (it : St RT den → Option (Int)) (k : Ex → St RT den → Option (Int)) c w : evCode E (pc_b1 fu) msk_b1 (lp_b1 fu) 0 lc_b1_0 (back_b1_0 c w) (after (msk_b1 0) (msk_b1 100000) 0 it k) = Bk_b1_0 fu c k w (fun w => it (back_b1_0 c w)) := by kernel_rfl
theorem lpok_b1_0 (fu : Nat) : ∀ s k r, lp_b1 fu 0 s k = some r → ∃ fuel, iter (msk_b1 0) (msk_b1 100000) s.objs.length (evCode E (pc_b1 fu) msk_b1 (lp_b1 fu) 0 lc_b1_0) fuel s k = some r :=
  handle_ok (ps := ps_b1_0) (os := os_b1_0) (conv := conv_b1_0) (B := Bk_b1_0 fu) (fu := fu) back_b1_0 (fun raw => by kernel_rfl) 0 (fun c w => by kernel_rfl) (round_b1_0 fu)
noncomputable def lc_b1_2 : Code := ((loops 0 body_b1).getD 1 (0, .skip)).2
theorem round_b1_2 (fu : Nat) (it : St RT den → Option (Int)) (k : Ex → St RT den → Option (Int)) c w : evCode E (pc_b1 fu) msk_b1 (lp_b1 fu) 2 lc_b1_2 (back_b1_2 c w) (after (msk_b1 2) (msk_b1 100002) 1 it k) = Bk_b1_2 fu c k w (fun w => it (back_b1_2 c w)) := by kernel_rfl
theorem lpok_b1_2 (fu : Nat) : ∀ s k r, lp_b1 fu 2 s k = some r → ∃ fuel, iter (msk_b1 2) (msk_b1 100002) s.objs.length (evCode E (pc_b1 fu) msk_b1 (lp_b1 fu) 2 lc_b1_2) fuel s k = some r :=
  handle_ok (ps := ps_b1_2) (os := os_b1_2) (conv := conv_b1_2) (B := Bk_b1_2 fu) (fu := fu) back_b1_2 (fun raw => by kernel_rfl) 1 (fun c w => by kernel_rfl) (round_b1_2 fu)
theorem lpok_b1 (fu : Nat) : LpOk E (pc_b1 fu) msk_b1 (lp_b1 fu) (loops 0 body_b1) := loop_all 2 (by kernel_rfl) fun i hi => match i, hi with
  | 0, _ => by
    have h : (loops 0 body_b1).getD 0 (0, .skip) = (0, lc_b1_0) := by kernel_rfl
    rw [h]; exact lpok_b1_0 fu
  | 1, _ => by
    have h : (loops 0 body_b1).getD 1 (0, .skip) = (2, lc_b1_2) := by kernel_rfl
    rw [h]; exact lpok_b1_2 fu
  | i + 2, hi => absurd hi (by omega)
def S_b1 (fu : Nat) (xs : List (D RT den)) : Option (Out RT den) := match xs with | [.rs za0_0 .impl_Verdict na0_0 fa0_0, .int .i64 a1_0, .int .i64 a2_0] => some ⟨Int, F_impl_verdict fu (⟨za0_0, na0_0, fa0_0⟩ : (Sl S_impl_Verdict)) a1_0 a2_0, enc_i64, fun _ => true⟩ | _ => none
theorem goodv_b1 (fu : Nat) (list_0 : (Sl S_impl_Verdict)) (name_1 : Int) (probers_2 : Int) (y : Int) (hy : F_impl_verdict fu list_0 name_1 probers_2 = some y) : Good E Try.prog 73 [(.rs list_0.z .impl_Verdict list_0.n list_0.f), (.int .i64 name_1), (.int .i64 probers_2)] (enc_i64 y) :=
  fun_good E_ok (pc_good (pc := pc_b1 fu) hpc0 hpx0) (fn := Try.f73) (c := body_b1) (out := out_i64) (y := y) (by kernel_rfl) (by kernel_rfl) (by kernel_rfl) (lpok_b1 fu) (fun d hd => out_i64_enc d _ hd) ((ev_b1 fu list_0 name_1 probers_2).trans hy)
theorem good_b1 (fu : Nat) : ∀ xs o, S_b1 fu xs = some o → ∀ y, o.x = some y → Good E Try.prog 73 xs (o.g y) := by
  intro xs o h y hy
  unfold S_b1 at h
  split at h
  · rename_i za0_0 na0_0 fa0_0 a1_0 a2_0
    cases h
    exact goodv_b1 fu (⟨za0_0, na0_0, fa0_0⟩ : (Sl S_impl_Verdict)) a1_0 a2_0 y hy
  · cases h

/-! impl.UpCmds -/
def F_impl_UpCmds_H_B0 {ρ : Type} (fu : Nat) (list1_0 : (Sl S_impl_Verdict)) (probers2_1 : Int) (t32_3 : (Sl S_impl_Backend)) (t33_4 : Int) (o0_6 : Int) (o1_7 : Int) (o1_8 : (Sl S_impl_Backend)) (o1_9 : (Sl S_impl_Vip)) (k0 : Nat → Nat → (Nat → S_impl_Cmd) → Option ρ) (out8_2 : Nat) (t34_5 : Int) (on2_10 : Nat) (of2_11 : (Nat → S_impl_Cmd)) (go : Nat → Int → Nat → (Nat → S_impl_Cmd) → Option ρ) : Option ρ :=
  (bif (decide (t34_5 < t33_4)) then ((bif (decide (0 ≤ t34_5) && decide ((Int.toNat t34_5) < t32_3.n)) then some () else none : Option Unit).bind fun _ => ((F_impl_verdict fu list1_0 (t32_3.f (Int.toNat t34_5)).Name probers2_1).bind fun y110 =>
    (((bif (y110 == 1) then (some (!(t32_3.f (Int.toNat t34_5)).Up)) else (some false)) : Option Bool).bind fun m111 => (bif m111 then (bif (decide ((out8_2 + 1) ≤ 9223372036854775807) &&
    decide ((out8_2 + 1) * 48 ≤ 140737488355328)) then (go (out8_2 + 1) (IntKind.wrap .i64 (t34_5 + 1)) (out8_2 + 1) (fun i => if i < out8_2 then (of2_11 i) else ((fun i => [(⟨9,
    (-1), (t32_3.f (Int.toNat t34_5)).Name, 0, 1, 0⟩ : S_impl_Cmd)].getD i (dflt .impl_Cmd)) (i - out8_2)))) else none) else (((bif (y110 == 2) then (some ((t32_3.f (Int.toNat t34_5)).Up)) else
    (some false)) : Option Bool).bind fun m112 => (bif m112 then (bif (decide ((out8_2 + 1) ≤ 9223372036854775807) && decide ((out8_2 + 1) * 48 ≤ 140737488355328)) then (go (out8_2 + 1) (IntKind.wrap .i64 (t34_5 + 1)) (out8_2 + 1) (fun i =>
    if i < out8_2 then (of2_11 i) else ((fun i => [(⟨9, (-1), (t32_3.f (Int.toNat t34_5)).Name, 0, 0, 0⟩ : S_impl_Cmd)].getD i (dflt .impl_Cmd)) (i - out8_2)))) else none) else (go out8_2 (IntKind.wrap .i64 (t34_5 + 1)) on2_10 of2_11))))))) else
    (k0 out8_2 on2_10 of2_11))
def F_impl_UpCmds_H (fu : Nat) (c_0 : S_impl_Config) (list_1 : (Sl S_impl_Verdict)) (probers_2 : Int) : Option (S_impl_CmdsResult) :=
  ((F_impl_ConfigFault fu c_0).bind fun y106 => (bif (y106 == 0) then ((F_impl_VerdictsFault fu list_1).bind fun y107 => (((bif (y107 == 0) then ((F_impl_in fu probers_2 1 10).bind fun y108 =>
    (some (!y108))) else (some false)) : Option Bool).bind fun m109 => (bif m109 then (some (⟨3, (⟨(some true), 0, (fun _ => dflt .impl_Cmd)⟩ : (Sl S_impl_Cmd))⟩ : S_impl_CmdsResult)) else
    (bif (y107 != 0) then (some (⟨y107, (⟨(some true), 0, (fun _ => dflt .impl_Cmd)⟩ : (Sl S_impl_Cmd))⟩ : S_impl_CmdsResult)) else (L (fun w0 go0 => F_impl_UpCmds_H_B0 fu list_1 probers_2 c_0.Backends ((c_0.Backends.n : Nat) : Int) 0 c_0.Version c_0.Backends c_0.Vips (fun z113 z114 z115 =>
    (some (⟨0, (⟨none, z113, z115⟩ : (Sl S_impl_Cmd))⟩ : S_impl_CmdsResult))) w0.1 w0.2.1 w0.2.2.1 w0.2.2.2 (fun q0 q1 q2 q3 => go0 (q0, q1, q2, q3))) fu ((0, 0, 0, (fun _ => dflt .impl_Cmd)) : Nat × Int × Nat × (Nat → S_impl_Cmd))))))) else
    (((bif (y106 == 0) then ((F_impl_in fu probers_2 1 10).bind fun y116 => (some (!y116))) else (some false)) : Option Bool).bind fun m117 => (bif m117 then (some (⟨3, (⟨(some true),
    0, (fun _ => dflt .impl_Cmd)⟩ : (Sl S_impl_Cmd))⟩ : S_impl_CmdsResult)) else (bif (y106 != 0) then (some (⟨y106, (⟨(some true), 0, (fun _ => dflt .impl_Cmd)⟩ : (Sl S_impl_Cmd))⟩ : S_impl_CmdsResult)) else
    (L (fun w0 go0 => F_impl_UpCmds_H_B0 fu list_1 probers_2 c_0.Backends ((c_0.Backends.n : Nat) : Int) 0 c_0.Version c_0.Backends c_0.Vips (fun z118 z119 z120 => (some (⟨0,
    (⟨none, z118, z120⟩ : (Sl S_impl_Cmd))⟩ : S_impl_CmdsResult))) w0.1 w0.2.1 w0.2.2.1 w0.2.2.2 (fun q0 q1 q2 q3 => go0 (q0, q1, q2, q3))) fu ((0, 0, 0, (fun _ => dflt .impl_Cmd)) : Nat × Int × Nat × (Nat → S_impl_Cmd))))))))
def pcf_b2 (fu : Nat) (f : Nat) (xs : List (D RT den)) : Option (Out RT den) := match f with | 70 => S_a39 fu xs | 71 => S_b0 fu xs | 72 => S_a23 fu xs | 73 => S_b1 fu xs | _ => none
def pc_b2 (fu : Nat) : Pc RT den := ⟨pcf_b2 fu, fun _ => false, fun _ => false, pcd0, pcx0⟩
def msk_b2 (b : Nat) : List Nat := match b with | 0 => [0, 3, 4, 5, 7, 9, 10, 11, 12, 13, 14, 15, 16, 17, 18, 19, 20, 21, 22, 23, 24, 25, 26, 27, 28, 29, 30, 31, 35, 36, 37, 38, 39, 40, 41, 42, 43, 44, 45, 46, 47, 48, 49, 50, 51, 52, 53, 54, 55, 56, 57, 58, 59, 60, 61, 62, 63, 64, 65, 66, 67, 68, 69, 70, 71, 72] | 100000 => [0, 1, 2, 3, 4, 5, 7, 9, 10, 11, 12, 13, 14, 15, 16, 17, 18, 19, 20, 21, 22, 23, 24, 25, 26, 27, 28, 29, 30, 31, 32, 33, 34, 35, 36, 37, 38, 39, 40, 41, 42, 43, 44, 45, 46, 47, 48, 49, 50, 51, 52, 53, 54, 55, 56, 57, 58, 59, 60, 61, 62, 63, 64, 65, 66, 67, 68, 69, 70, 71, 72] | 200004 => [25] | 200014 => [46] | 200017 => [59] | 300000 => [8] | _ => []
def ps_b2_0 : List (Pat RT) := [.flat .q, .flat (.rs .impl_Verdict), .flat (.int .i64), .flat .q, .flat .q, .flat .q, .flat (.ref 0 0), .flat .q, .flat (.os 2), .flat .q, .flat .q, .flat .q, .flat .q, .flat .q, .flat .q, .flat .q, .flat .q, .flat .q, .flat .q, .flat .q, .flat .q, .flat .q, .flat .q, .flat .q, .flat .q, .flat .q, .flat .q, .flat .q, .flat .q, .flat .q, .flat .q, .flat .q, .flat (.rs .impl_Backend), .flat (.int .i64), .flat (.int .i64), .flat .q, .flat .q, .flat .q, .flat .q, .flat .q, .flat .q, .flat .q, .flat .q, .flat .q, .flat .q, .flat .q, .flat .q, .flat .q, .flat .q, .flat .q, .flat .q, .flat .q, .flat .q, .flat .q, .flat .q, .flat .q, .flat .q, .flat .q, .flat .q, .flat .q, .flat .q, .flat .q, .flat .q, .flat .q, .flat .q, .flat .q, .flat .q, .flat .q, .flat .q, .flat .q, .flat .q, .flat .q, .flat .q]
def os_b2_0 : List (OP RT) := [.box false [(.int .i64), (.emp true .impl_Cmd)], .box false [(.int .i64), (.rs .impl_Backend), (.rs .impl_Vip)], .row false .impl_Cmd]
def conv_b2_0 (r : Raw den ps_b2_0 os_b2_0) : ((Sl S_impl_Verdict) × Int × (Sl S_impl_Backend) × Int × Int × Int × (Sl S_impl_Backend) × (Sl S_impl_Vip)) × (Nat × Int × Nat × (Nat → S_impl_Cmd)) := ((r.1.2.1, r.1.2.2.1, r.1.2.2.2.2.2.2.2.2.2.2.2.2.2.2.2.2.2.2.2.2.2.2.2.2.2.2.2.2.2.2.2.2.1, r.1.2.2.2.2.2.2.2.2.2.2.2.2.2.2.2.2.2.2.2.2.2.2.2.2.2.2.2.2.2.2.2.2.2.1, r.2.1.1, r.2.2.1.1, r.2.2.1.2.1, r.2.2.1.2.2.1), (r.1.2.2.2.2.2.2.2.2.1, r.1.2.2.2.2.2.2.2.2.2.2.2.2.2.2.2.2.2.2.2.2.2.2.2.2.2.2.2.2.2.2.2.2.2.2.1, r.2.2.2.1.1, r.2.2.2.1.2))
def back_b2_0 (c : (Sl S_impl_Verdict) × Int × (Sl S_impl_Backend) × Int × Int × Int × (Sl S_impl_Backend) × (Sl S_impl_Vip)) (w : Nat × Int × Nat × (Nat → S_impl_Cmd)) : St RT den := ⟨[.q, (.rs c.1.z .impl_Verdict c.1.n c.1.f), (.int .i64 c.2.1), .q, .q, .q, (.ref 0 0), .q, (.os 2 w.1), .q, .q, .q, .q, .q, .q, .q, .q, .q, .q, .q, .q, .q, .q, .q, .q, .q, .q, .q, .q, .q, .q, .q, (.rs c.2.2.1.z .impl_Backend c.2.2.1.n c.2.2.1.f), (.int .i64 c.2.2.2.1), (.int .i64 w.2.1), .q, .q, .q, .q, .q, .q, .q, .q, .q, .q, .q, .q, .q, .q, .q, .q, .q, .q, .q, .q, .q, .q, .q, .q, .q, .q, .q, .q, .q, .q, .q, .q, .q, .q, .q, .q, .q, .q], [(.box false [(.int .i64 c.2.2.2.2.1), (.emp true .impl_Cmd)]), (.box false [(.int .i64 c.2.2.2.2.2.1), (.rs c.2.2.2.2.2.2.1.z .impl_Backend c.2.2.2.2.2.2.1.n c.2.2.2.2.2.2.1.f), (.rs c.2.2.2.2.2.2.2.z .impl_Vip c.2.2.2.2.2.2.2.n c.2.2.2.2.2.2.2.f)]), (.row false .impl_Cmd w.2.2.1 w.2.2.2)]⟩
def Bk_b2_0 {ρ : Type} (fu : Nat) (c : (Sl S_impl_Verdict) × Int × (Sl S_impl_Backend) × Int × Int × Int × (Sl S_impl_Backend) × (Sl S_impl_Vip)) (k : Ex → St RT den → Option ρ) (w : Nat × Int × Nat × (Nat → S_impl_Cmd)) (go : (Nat × Int × Nat × (Nat → S_impl_Cmd)) → Option ρ) : Option ρ := F_impl_UpCmds_H_B0 fu c.1 c.2.1 c.2.2.1 c.2.2.2.1 c.2.2.2.2.1 c.2.2.2.2.2.1 c.2.2.2.2.2.2.1 c.2.2.2.2.2.2.2 (fun a0 a1 a2 => k (.exit 0) ⟨[.q, .q, .q, .q, .q, .q, (.ref 0 0), .q, (.os 2 a0), .q, .q, .q, .q, .q, .q, .q, .q, .q, .q, .q, .q, .q, .q, .q, .q, .q, .q, .q, .q, .q, .q, .q, .q, .q, .q, .q, .q, .q, .q, .q, .q, .q, .q, .q, .q, .q, .q, .q, .q, .q, .q, .q, .q, .q, .q, .q, .q, .q, .q, .q, .q, .q, .q, .q, .q, .q, .q, .q, .q, .q, .q, .q, .q], [(.box false [(.int .i64 c.2.2.2.2.1), (.emp true .impl_Cmd)]), (.box false [(.int .i64 c.2.2.2.2.2.1), (.rs c.2.2.2.2.2.2.1.z .impl_Backend c.2.2.2.2.2.2.1.n c.2.2.2.2.2.2.1.f), (.rs c.2.2.2.2.2.2.2.z .impl_Vip c.2.2.2.2.2.2.2.n c.2.2.2.2.2.2.2.f)]), (.row false .impl_Cmd a1 a2)]⟩) w.1 w.2.1 w.2.2.1 w.2.2.2 (fun q0 q1 q2 q3 => go (q0, q1, q2, q3))
def lp_b2 (fu : Nat) : Lp RT den (S_impl_CmdsResult) := fun b s k => match b with | 0 => handle ps_b2_0 os_b2_0 conv_b2_0 (Bk_b2_0 fu) fu s k | _ => none
theorem ev_b2 (fu : Nat) (c_0 : S_impl_Config) (list_1 : (Sl S_impl_Verdict)) (probers_2 : Int) : evFunX E false (pc_b2 fu) msk_b2 (lp_b2 fu) out_impl_CmdsResult_H 21 [(.agg [(.int .i64 c_0.Version), (.rs c_0.Backends.z .impl_Backend c_0.Backends.n c_0.Backends.f), (.rs c_0.Vips.z .impl_Vip c_0.Vips.n c_0.Vips.f)]), (.rs list_1.z .impl_Verdict list_1.n list_1.f), (.int .i64 probers_2)] [] = F_impl_UpCmds_H fu c_0 list_1 probers_2 := by kernel_rfl
noncomputable def body_b2 : Code := Try.f21.body.getD .skip
noncomputable def lc_b2_0 : Code := ((loops 0 body_b2).getD 0 (0, .skip)).2
theorem round_b2_0 (fu : Nat) (it : St RT den → Option (S_impl_CmdsResult)) (k : Ex → St RT den → Option (S_impl_CmdsResult)) c w : evCode E (pc_b2 fu) msk_b2 (lp_b2 fu) 0 lc_b2_0 (back_b2_0 c w) (after (msk_b2 0) (msk_b2 100000) 3 it k) = Bk_b2_0 fu c k w (fun w => it (back_b2_0 c w)) := by kernel_rfl
theorem lpok_b2_0 (fu : Nat) : ∀ s k r, lp_b2 fu 0 s k = some r → ∃ fuel, iter (msk_b2 0) (msk_b2 100000) s.objs.length (evCode E (pc_b2 fu) msk_b2 (lp_b2 fu) 0 lc_b2_0) fuel s k = some r :=
  handle_ok (ps := ps_b2_0) (os := os_b2_0) (conv := conv_b2_0) (B := Bk_b2_0 fu) (fu := fu) back_b2_0 (fun raw => by kernel_rfl) 3 (fun c w => by kernel_rfl) (round_b2_0 fu)
theorem lpok_b2 (fu : Nat) : LpOk E (pc_b2 fu) msk_b2 (lp_b2 fu) (loops 0 body_b2) := loop_all 1 (by kernel_rfl) fun i hi => match i, hi with
  | 0, _ => by
    have h : (loops 0 body_b2).getD 0 (0, .skip) = (0, lc_b2_0) := by kernel_rfl
    rw [h]; exact lpok_b2_0 fu
  | i + 1, hi => absurd hi (by omega)
def S_b2 (fu : Nat) (xs : List (D RT den)) (ins : List (Ob RT den)) : Option (OutX RT den) := match xs, ins with | [.agg [.int .i64 a0_1, .rs za0_2 .impl_Backend na0_2 fa0_2, .rs za0_3 .impl_Vip na0_3 fa0_3], .rs za1_0 .impl_Verdict na1_0 fa1_0, .int .i64 a2_0], [] => some ⟨S_impl_CmdsResult, F_impl_UpCmds_H fu (⟨a0_1, (⟨za0_2, na0_2, fa0_2⟩ : (Sl S_impl_Backend)), (⟨za0_3, na0_3, fa0_3⟩ : (Sl S_impl_Vip))⟩ : S_impl_Config) (⟨za1_0, na1_0, fa1_0⟩ : (Sl S_impl_Verdict)) a2_0, enc_impl_CmdsResult_H⟩ | _, _ => none
theorem hpc_b2 (fu : Nat) : ∀ f xs o, pcf_b2 fu f xs = some o → ∀ y, o.x = some y → Good E Try.prog f xs (o.g y) := by
  intro f xs o h
  unfold pcf_b2 at h
  split at h
  · exact good_a39 fu xs o h
  · exact good_b0 fu xs o h
  · exact good_a23 fu xs o h
  · exact good_b1 fu xs o h
  · cases h
theorem goodv_b2 (fu : Nat) (c_0 : S_impl_Config) (list_1 : (Sl S_impl_Verdict)) (probers_2 : Int) (y : S_impl_CmdsResult) (hy : F_impl_UpCmds_H fu c_0 list_1 probers_2 = some y) : GoodX E Try.prog 21 [(.agg [(.int .i64 c_0.Version), (.rs c_0.Backends.z .impl_Backend c_0.Backends.n c_0.Backends.f), (.rs c_0.Vips.z .impl_Vip c_0.Vips.n c_0.Vips.f)]), (.rs list_1.z .impl_Verdict list_1.n list_1.f), (.int .i64 probers_2)] [] (enc_impl_CmdsResult_H y).1 (enc_impl_CmdsResult_H y).2 :=
  funX_good (ke := false) E_ok (pc_good (pc := pc_b2 fu) (hpc_b2 fu) hpx0) (fn := Try.f21) (c := body_b2) (out := out_impl_CmdsResult_H) (y := y) (by kernel_rfl) (by kernel_rfl) (by kernel_rfl) (lpok_b2 fu) (by kernel_rfl) (Nat.zero_le _) (fun d os hd => out_impl_CmdsResult_H_enc d os _ hd) ((ev_b2 fu c_0 list_1 probers_2).trans hy)
theorem good_b2 (fu : Nat) : ∀ xs ins o, S_b2 fu xs ins = some o → ∀ y, o.x = some y → GoodX E Try.prog 21 xs ins (o.g y).1 (o.g y).2 := by
  intro xs ins o h y hy
  unfold S_b2 at h
  split at h
  · rename_i a0_1 za0_2 na0_2 fa0_2 za0_3 na0_3 fa0_3 za1_0 na1_0 fa1_0 a2_0
    cases h
    exact goodv_b2 fu (⟨a0_1, (⟨za0_2, na0_2, fa0_2⟩ : (Sl S_impl_Backend)), (⟨za0_3, na0_3, fa0_3⟩ : (Sl S_impl_Vip))⟩ : S_impl_Config) (⟨za1_0, na1_0, fa1_0⟩ : (Sl S_impl_Verdict)) a2_0 y hy
  · cases h

/-! laws.markBackendS -/
def F_laws_markBackendS_U_B0 {ρ : Type} (fu : Nat) (a0_0 : Nat) (on0_3 : Nat) (k0 : Int → (Nat → S_impl_Backend) → Option ρ) (k1_1 : Int) (i5_2 : Int) (of0_4 : (Nat → S_impl_Backend)) (go : Int → Int → (Nat → S_impl_Backend) → Option ρ) : Option ρ :=
  (bif (decide (i5_2 < ((a0_0 : Nat) : Int))) then ((bif (decide (0 ≤ i5_2) && decide ((Int.toNat i5_2) < a0_0)) then some () else none : Option Unit).bind fun _ => ((bif (decide (0 ≤ i5_2) &&
    decide ((Int.toNat i5_2) < a0_0)) then some () else none : Option Unit).bind fun _ => ((bif (decide (0 ≤ i5_2) && decide ((Int.toNat i5_2) < a0_0)) then some () else none : Option Unit).bind fun _ =>
    ((bif (decide (0 ≤ i5_2) && decide ((Int.toNat i5_2) < a0_0)) then some () else none : Option Unit).bind fun _ => ((bif (decide (0 ≤ i5_2) && decide ((Int.toNat i5_2) < a0_0)) then
    some () else none : Option Unit).bind fun _ => (go (IntKind.wrap .i64 ((IntKind.wrap .i64 ((IntKind.wrap .i64 ((IntKind.wrap .i64 ((IntKind.wrap .i64 (k1_1 + 1)) + 1)) + 1)) + 1)) + 1)) (IntKind.wrap .i64 (i5_2 + 1)) (upd_impl_Backend_4_1 (upd_impl_Backend_3_1 (upd_impl_Backend_2_1 (upd_impl_Backend_1_1 (upd_impl_Backend_0_1 of0_4 (Int.toNat i5_2) k1_1) (Int.toNat i5_2) (IntKind.wrap .i64 (k1_1 + 1))) (Int.toNat i5_2) (IntKind.wrap .i64 ((IntKind.wrap .i64 (k1_1 + 1)) + 1))) (Int.toNat i5_2) (IntKind.wrap .i64 ((IntKind.wrap .i64 ((IntKind.wrap .i64 (k1_1 + 1)) + 1)) + 1))) (Int.toNat i5_2) ((Int.tmod (IntKind.wrap .i64 ((IntKind.wrap .i64 ((IntKind.wrap .i64 ((IntKind.wrap .i64 (k1_1 + 1)) + 1)) + 1)) + 1)) 3) == 0)))))))) else
    (k0 k1_1 of0_4))
def F_laws_markBackendS_U (fu : Nat) (a_0_0 : Nat) (k_1 : Int) (rn0 : Nat) (rf0 : (Nat → S_impl_Backend)) : Option (Int × Nat × (Nat → S_impl_Backend)) :=
  (L (fun w0 go0 => F_laws_markBackendS_U_B0 fu a_0_0 rn0 (fun z199 z200 => (some (z199, rn0, z200))) w0.1 w0.2.1 w0.2.2 (fun q0 q1 q2 => go0 (q0, q1, q2))) fu ((k_1, 0, rf0) : Int × Int × (Nat → S_impl_Backend)))
def pc_b3 (fu : Nat) : Pc RT den := ⟨pcf0, fun _ => false, fun _ => false, pcd0, pcx0⟩
def msk_b3 (b : Nat) : List Nat := match b with | 0 => [2, 3, 4, 6, 7, 8, 9, 10, 11, 12, 13, 14, 15, 16, 17, 18, 19, 20, 21, 22, 23, 24, 25, 26, 27, 28, 29, 30, 31, 32, 33, 34, 35, 36, 37, 38, 39, 40, 41, 42, 43, 44, 45, 46, 47, 48, 49] | 100000 => [0, 2, 3, 5, 6, 7, 8, 9, 10, 11, 12, 13, 14, 15, 16, 17, 18, 19, 20, 21, 22, 23, 24, 25, 26, 27, 28, 29, 30, 31, 32, 33, 34, 35, 36, 37, 38, 39, 40, 41, 42, 43, 44, 45, 46, 47, 48, 49] | _ => []
def ps_b3_0 : List (Pat RT) := [.flat (.os 0), .flat (.int .i64), .flat .q, .flat .q, .flat .q, .flat (.int .i64), .flat .q, .flat .q, .flat .q, .flat .q, .flat .q, .flat .q, .flat .q, .flat .q, .flat .q, .flat .q, .flat .q, .flat .q, .flat .q, .flat .q, .flat .q, .flat .q, .flat .q, .flat .q, .flat .q, .flat .q, .flat .q, .flat .q, .flat .q, .flat .q, .flat .q, .flat .q, .flat .q, .flat .q, .flat .q, .flat .q, .flat .q, .flat .q, .flat .q, .flat .q, .flat .q, .flat .q, .flat .q, .flat .q, .flat .q, .flat .q, .flat .q, .flat .q, .flat .q, .flat .q]
def os_b3_0 : List (OP RT) := [.row true .impl_Backend]
def conv_b3_0 (r : Raw den ps_b3_0 os_b3_0) : (Nat × Nat) × (Int × Int × (Nat → S_impl_Backend)) := ((r.1.1, r.2.1.1), (r.1.2.1, r.1.2.2.2.2.2.1, r.2.1.2))
def back_b3_0 (c : Nat × Nat) (w : Int × Int × (Nat → S_impl_Backend)) : St RT den := ⟨[(.os 0 c.1), (.int .i64 w.1), .q, .q, .q, (.int .i64 w.2.1), .q, .q, .q, .q, .q, .q, .q, .q, .q, .q, .q, .q, .q, .q, .q, .q, .q, .q, .q, .q, .q, .q, .q, .q, .q, .q, .q, .q, .q, .q, .q, .q, .q, .q, .q, .q, .q, .q, .q, .q, .q, .q, .q, .q], [(.row true .impl_Backend c.2 w.2.2)]⟩
def Bk_b3_0 {ρ : Type} (fu : Nat) (c : Nat × Nat) (k : Ex → St RT den → Option ρ) (w : Int × Int × (Nat → S_impl_Backend)) (go : (Int × Int × (Nat → S_impl_Backend)) → Option ρ) : Option ρ := F_laws_markBackendS_U_B0 fu c.1 c.2 (fun a0 a1 => k (.exit 0) ⟨[.q, (.int .i64 a0), .q, .q, .q, .q, .q, .q, .q, .q, .q, .q, .q, .q, .q, .q, .q, .q, .q, .q, .q, .q, .q, .q, .q, .q, .q, .q, .q, .q, .q, .q, .q, .q, .q, .q, .q, .q, .q, .q, .q, .q, .q, .q, .q, .q, .q, .q, .q, .q], [(.row true .impl_Backend c.2 a1)]⟩) w.1 w.2.1 w.2.2 (fun q0 q1 q2 => go (q0, q1, q2))
def lp_b3 (fu : Nat) : Lp RT den (Int × Nat × (Nat → S_impl_Backend)) := fun b s k => match b with | 0 => handle ps_b3_0 os_b3_0 conv_b3_0 (Bk_b3_0 fu) fu s k | _ => none
def pso_b3 : List (Pat RT) := [.flat (.int .i64)]
def oso_b3 : List (OP RT) := [.row true .impl_Backend]
def conv_b3 (r : Raw den pso_b3 oso_b3) : Int × Nat × (Nat → S_impl_Backend) := (r.1.1, r.2.1.1, r.2.1.2)
def enc_b3 (y : Int × Nat × (Nat → S_impl_Backend)) : D RT den × List (Ob RT den) := ((.int .i64 y.1), [(.row true .impl_Backend y.2.1 y.2.2)])
def out_b3 (d : D RT den) (os : List (Ob RT den)) : Option (Int × Nat × (Nat → S_impl_Backend)) := (unSt pso_b3 oso_b3 ⟨[d], os⟩).bind fun v => some (conv_b3 v.1)
theorem out_b3_enc (d : D RT den) (os : List (Ob RT den)) (y : Int × Nat × (Nat → S_impl_Backend)) (h : out_b3 d os = some y) : d = (enc_b3 y).1 ∧ os = (enc_b3 y).2 :=
  outM (conv := conv_b3) (enc := enc_b3) (fun raw => by kernel_rfl) h
theorem ev_b3 (fu : Nat) (a_0_0 : Nat) (k_1 : Int) (rn0 : Nat) (rf0 : (Nat → S_impl_Backend)) : evFunU E (pc_b3 fu) msk_b3 (lp_b3 fu) out_b3 78 [(.os 0 a_0_0), (.int .i64 k_1)] [(.row true .impl_Backend rn0 rf0)] = F_laws_markBackendS_U fu a_0_0 k_1 rn0 rf0 := by kernel_rfl
noncomputable def body_b3 : Code := Try.f78.body.getD .skip
noncomputable def lc_b3_0 : Code := ((loops 0 body_b3).getD 0 (0, .skip)).2
theorem round_b3_0 (fu : Nat) (it : St RT den → Option (Int × Nat × (Nat → S_impl_Backend))) (k : Ex → St RT den → Option (Int × Nat × (Nat → S_impl_Backend))) c w : evCode E (pc_b3 fu) msk_b3 (lp_b3 fu) 0 lc_b3_0 (back_b3_0 c w) (after (msk_b3 0) (msk_b3 100000) 1 it k) = Bk_b3_0 fu c k w (fun w => it (back_b3_0 c w)) := by kernel_rfl
theorem lpok_b3_0 (fu : Nat) : ∀ s k r, lp_b3 fu 0 s k = some r → ∃ fuel, iter (msk_b3 0) (msk_b3 100000) s.objs.length (evCode E (pc_b3 fu) msk_b3 (lp_b3 fu) 0 lc_b3_0) fuel s k = some r :=
  handle_ok (ps := ps_b3_0) (os := os_b3_0) (conv := conv_b3_0) (B := Bk_b3_0 fu) (fu := fu) back_b3_0 (fun raw => by kernel_rfl) 1 (fun c w => by kernel_rfl) (round_b3_0 fu)
theorem lpok_b3 (fu : Nat) : LpOk E (pc_b3 fu) msk_b3 (lp_b3 fu) (loops 0 body_b3) := loop_all 1 (by kernel_rfl) fun i hi => match i, hi with
  | 0, _ => by
    have h : (loops 0 body_b3).getD 0 (0, .skip) = (0, lc_b3_0) := by kernel_rfl
    rw [h]; exact lpok_b3_0 fu
  | i + 1, hi => absurd hi (by omega)
def S_b3 (fu : Nat) (xs : List (D RT den)) (ins : List (Ob RT den)) : Option (OutX RT den) := match xs, ins with | [.os 0 a0_0, .int .i64 a1_0], [.row true .impl_Backend rn0 rf0] => some ⟨Int × Nat × (Nat → S_impl_Backend), F_laws_markBackendS_U fu a0_0 a1_0 rn0 rf0, enc_b3⟩ | _, _ => none
theorem goodv_b3 (fu : Nat) (a_0_0 : Nat) (k_1 : Int) (rn0 : Nat) (rf0 : (Nat → S_impl_Backend)) (y : Int × Nat × (Nat → S_impl_Backend)) (hy : F_laws_markBackendS_U fu a_0_0 k_1 rn0 rf0 = some y) : GoodD E Try.prog 78 [(.os 0 a_0_0), (.int .i64 k_1)] [(.row true .impl_Backend rn0 rf0)] (enc_b3 y).1 (enc_b3 y).2 :=
  funU_good E_ok (pc_good (pc := pc_b3 fu) hpc0 hpx0) (fn := Try.f78) (c := body_b3) (out := out_b3) (y := y) (by kernel_rfl) (by kernel_rfl) (by kernel_rfl) (lpok_b3 fu) (by kernel_rfl) (Nat.le_of_ble_eq_true (by kernel_rfl)) (Fulls.get 1 trivial) (fun d os hd => out_b3_enc d os _ hd) ((ev_b3 fu a_0_0 k_1 rn0 rf0).trans hy)
theorem good_b3 (fu : Nat) : ∀ xs ins o, S_b3 fu xs ins = some o → ∀ y, o.x = some y → GoodD E Try.prog 78 xs ins (o.g y).1 (o.g y).2 := by
  intro xs ins o h y hy
  unfold S_b3 at h
  split at h
  · rename_i a0_0 a1_0 rn0 rf0
    cases h
    exact goodv_b3 fu a0_0 a1_0 rn0 rf0 y hy
  · cases h

/-! laws.markInt64S -/
def F_laws_markInt64S_U_B0 {ρ : Type} (fu : Nat) (a0_0 : Nat) (on0_3 : Nat) (k0 : Int → (Nat → Int) → Option ρ) (k1_1 : Int) (i5_2 : Int) (of0_4 : (Nat → Int)) (go : Int → Int → (Nat → Int) → Option ρ) : Option ρ :=
  (bif (decide (i5_2 < ((a0_0 : Nat) : Int))) then ((bif (decide (0 ≤ i5_2) && decide ((Int.toNat i5_2) < a0_0)) then some () else none : Option Unit).bind fun _ => (go (IntKind.wrap .i64 (k1_1 + 1)) (IntKind.wrap .i64 (i5_2 + 1)) (fun j =>
    if j = (Int.toNat i5_2) then k1_1 else of0_4 j))) else (k0 k1_1 of0_4))
def F_laws_markInt64S_U (fu : Nat) (a_0_0 : Nat) (k_1 : Int) (rn0 : Nat) (rf0 : (Nat → Int)) : Option (Int × Nat × (Nat → Int)) :=
  (L (fun w0 go0 => F_laws_markInt64S_U_B0 fu a_0_0 rn0 (fun z202 z203 => (some (z202, rn0, z203))) w0.1 w0.2.1 w0.2.2 (fun q0 q1 q2 => go0 (q0, q1, q2))) fu ((k_1, 0, rf0) : Int × Int × (Nat → Int)))
def pc_b4 (fu : Nat) : Pc RT den := ⟨pcf0, fun _ => false, fun _ => false, pcd0, pcx0⟩
def msk_b4 (b : Nat) : List Nat := match b with | 0 => [2, 3, 4, 6, 7, 8, 9, 10, 11, 12, 13, 14, 15, 16, 17, 18] | 100000 => [0, 2, 3, 5, 6, 7, 8, 9, 10, 11, 12, 13, 14, 15, 16, 17, 18] | _ => []
def ps_b4_0 : List (Pat RT) := [.flat (.os 0), .flat (.int .i64), .flat .q, .flat .q, .flat .q, .flat (.int .i64), .flat .q, .flat .q, .flat .q, .flat .q, .flat .q, .flat .q, .flat .q, .flat .q, .flat .q, .flat .q, .flat .q, .flat .q, .flat .q]
def os_b4_0 : List (OP RT) := [.row true .i64]
def conv_b4_0 (r : Raw den ps_b4_0 os_b4_0) : (Nat × Nat) × (Int × Int × (Nat → Int)) := ((r.1.1, r.2.1.1), (r.1.2.1, r.1.2.2.2.2.2.1, r.2.1.2))
def back_b4_0 (c : Nat × Nat) (w : Int × Int × (Nat → Int)) : St RT den := ⟨[(.os 0 c.1), (.int .i64 w.1), .q, .q, .q, (.int .i64 w.2.1), .q, .q, .q, .q, .q, .q, .q, .q, .q, .q, .q, .q, .q], [(.row true .i64 c.2 w.2.2)]⟩
def Bk_b4_0 {ρ : Type} (fu : Nat) (c : Nat × Nat) (k : Ex → St RT den → Option ρ) (w : Int × Int × (Nat → Int)) (go : (Int × Int × (Nat → Int)) → Option ρ) : Option ρ := F_laws_markInt64S_U_B0 fu c.1 c.2 (fun a0 a1 => k (.exit 0) ⟨[.q, (.int .i64 a0), .q, .q, .q, .q, .q, .q, .q, .q, .q, .q, .q, .q, .q, .q, .q, .q, .q], [(.row true .i64 c.2 a1)]⟩) w.1 w.2.1 w.2.2 (fun q0 q1 q2 => go (q0, q1, q2))
def lp_b4 (fu : Nat) : Lp RT den (Int × Nat × (Nat → Int)) := fun b s k => match b with | 0 => handle ps_b4_0 os_b4_0 conv_b4_0 (Bk_b4_0 fu) fu s k | _ => none
def pso_b4 : List (Pat RT) := [.flat (.int .i64)]
def oso_b4 : List (OP RT) := [.row true .i64]
def conv_b4 (r : Raw den pso_b4 oso_b4) : Int × Nat × (Nat → Int) := (r.1.1, r.2.1.1, r.2.1.2)
def enc_b4 (y : Int × Nat × (Nat → Int)) : D RT den × List (Ob RT den) := ((.int .i64 y.1), [(.row true .i64 y.2.1 y.2.2)])
def out_b4 (d : D RT den) (os : List (Ob RT den)) : Option (Int × Nat × (Nat → Int)) := (unSt pso_b4 oso_b4 ⟨[d], os⟩).bind fun v => some (conv_b4 v.1)
theorem out_b4_enc (d : D RT den) (os : List (Ob RT den)) (y : Int × Nat × (Nat → Int)) (h : out_b4 d os = some y) : d = (enc_b4 y).1 ∧ os = (enc_b4 y).2 :=
  outM (conv := conv_b4) (enc := enc_b4) (fun raw => by kernel_rfl) h
theorem ev_b4 (fu : Nat) (a_0_0 : Nat) (k_1 : Int) (rn0 : Nat) (rf0 : (Nat → Int)) : evFunU E (pc_b4 fu) msk_b4 (lp_b4 fu) out_b4 122 [(.os 0 a_0_0), (.int .i64 k_1)] [(.row true .i64 rn0 rf0)] = F_laws_markInt64S_U fu a_0_0 k_1 rn0 rf0 := by kernel_rfl
noncomputable def body_b4 : Code := Try.f122.body.getD .skip
noncomputable def lc_b4_0 : Code := ((loops 0 body_b4).getD 0 (0, .skip)).2
theorem round_b4_0 (fu : Nat) (it : St RT den → Option (Int × Nat × (Nat → Int))) (k : Ex → St RT den → Option (Int × Nat × (Nat → Int))) c w : evCode E (pc_b4 fu) msk_b4 (lp_b4 fu) 0 lc_b4_0 (back_b4_0 c w) (after (msk_b4 0) (msk_b4 100000) 1 it k) = Bk_b4_0 fu c k w (fun w => it (back_b4_0 c w)) := by kernel_rfl
theorem lpok_b4_0 (fu : Nat) : ∀ s k r, lp_b4 fu 0 s k = some r → ∃ fuel, iter (msk_b4 0) (msk_b4 100000) s.objs.length (evCode E (pc_b4 fu) msk_b4 (lp_b4 fu) 0 lc_b4_0) fuel s k = some r :=
  handle_ok (ps := ps_b4_0) (os := os_b4_0) (conv := conv_b4_0) (B := Bk_b4_0 fu) (fu := fu) back_b4_0 (fun raw => by kernel_rfl) 1 (fun c w => by kernel_rfl) (round_b4_0 fu)
theorem lpok_b4 (fu : Nat) : LpOk E (pc_b4 fu) msk_b4 (lp_b4 fu) (loops 0 body_b4) := loop_all 1 (by kernel_rfl) fun i hi => match i, hi with
  | 0, _ => by
    have h : (loops 0 body_b4).getD 0 (0, .skip) = (0, lc_b4_0) := by kernel_rfl
    rw [h]; exact lpok_b4_0 fu
  | i + 1, hi => absurd hi (by omega)
def S_b4 (fu : Nat) (xs : List (D RT den)) (ins : List (Ob RT den)) : Option (OutX RT den) := match xs, ins with | [.os 0 a0_0, .int .i64 a1_0], [.row true .i64 rn0 rf0] => some ⟨Int × Nat × (Nat → Int), F_laws_markInt64S_U fu a0_0 a1_0 rn0 rf0, enc_b4⟩ | _, _ => none
theorem goodv_b4 (fu : Nat) (a_0_0 : Nat) (k_1 : Int) (rn0 : Nat) (rf0 : (Nat → Int)) (y : Int × Nat × (Nat → Int)) (hy : F_laws_markInt64S_U fu a_0_0 k_1 rn0 rf0 = some y) : GoodD E Try.prog 122 [(.os 0 a_0_0), (.int .i64 k_1)] [(.row true .i64 rn0 rf0)] (enc_b4 y).1 (enc_b4 y).2 :=
  funU_good E_ok (pc_good (pc := pc_b4 fu) hpc0 hpx0) (fn := Try.f122) (c := body_b4) (out := out_b4) (y := y) (by kernel_rfl) (by kernel_rfl) (by kernel_rfl) (lpok_b4 fu) (by kernel_rfl) (Nat.le_of_ble_eq_true (by kernel_rfl)) (Fulls.get 1 trivial) (fun d os hd => out_b4_enc d os _ hd) ((ev_b4 fu a_0_0 k_1 rn0 rf0).trans hy)
theorem good_b4 (fu : Nat) : ∀ xs ins o, S_b4 fu xs ins = some o → ∀ y, o.x = some y → GoodD E Try.prog 122 xs ins (o.g y).1 (o.g y).2 := by
  intro xs ins o h y hy
  unfold S_b4 at h
  split at h
  · rename_i a0_0 a1_0 rn0 rf0
    cases h
    exact goodv_b4 fu a0_0 a1_0 rn0 rf0 y hy
  · cases h

/-! laws.markVipS -/
def F_laws_markVipS_U_B0 {ρ : Type} (fu : Nat) (a0_0 : Nat) (on0_3 : Nat) (op0_4 : Nat) (k0 : Int → (Nat → S_impl_Vip) → Option ρ) (k1_1 : Int) (i5_2 : Int) (of0_5 : (Nat → S_impl_Vip)) (go : Int → Int → (Nat → S_impl_Vip) → Option ρ) : Option ρ :=
  (bif (decide (i5_2 < ((a0_0 : Nat) : Int))) then ((bif (decide (0 ≤ i5_2) && decide ((Int.toNat i5_2) < a0_0)) then some () else none : Option Unit).bind fun _ => ((bif (decide (0 ≤ i5_2) &&
    decide ((Int.toNat i5_2) < a0_0)) then some () else none : Option Unit).bind fun _ => ((bif (decide (0 ≤ i5_2) && decide ((Int.toNat i5_2) < a0_0)) then some () else none : Option Unit).bind fun _ =>
    ((bif (decide (0 ≤ i5_2) && decide ((Int.toNat i5_2) < a0_0)) then some () else none : Option Unit).bind fun _ => ((bif (decide ((Int.toNat i5_2) < op0_4)) then some () else
    none : Option Unit).bind fun _ => (bif (decide ((Int.toNat i5_2) < op0_4) && true) then ((F_laws_markInt64S_U fu (((upd_impl_Vip_2_1 (upd_impl_Vip_1_1 (upd_impl_Vip_0_1 of0_5 (Int.toNat i5_2) k1_1) (Int.toNat i5_2) (IntKind.wrap .i64 (k1_1 + 1))) (Int.toNat i5_2) (IntKind.wrap .i64 ((IntKind.wrap .i64 (k1_1 + 1)) + 1))) (Int.toNat i5_2)).Names.n) (IntKind.wrap .i64 ((IntKind.wrap .i64 ((IntKind.wrap .i64 (k1_1 + 1)) + 1)) + 1)) (((upd_impl_Vip_2_1 (upd_impl_Vip_1_1 (upd_impl_Vip_0_1 of0_5 (Int.toNat i5_2) k1_1) (Int.toNat i5_2) (IntKind.wrap .i64 (k1_1 + 1))) (Int.toNat i5_2) (IntKind.wrap .i64 ((IntKind.wrap .i64 (k1_1 + 1)) + 1))) (Int.toNat i5_2)).Names.n) (((upd_impl_Vip_2_1 (upd_impl_Vip_1_1 (upd_impl_Vip_0_1 of0_5 (Int.toNat i5_2) k1_1) (Int.toNat i5_2) (IntKind.wrap .i64 (k1_1 + 1))) (Int.toNat i5_2) (IntKind.wrap .i64 ((IntKind.wrap .i64 (k1_1 + 1)) + 1))) (Int.toNat i5_2)).Names.f)).bind fun y204 =>
    (go y204.1 (IntKind.wrap .i64 (i5_2 + 1)) (upd_impl_Vip_3_1 (upd_impl_Vip_2_1 (upd_impl_Vip_1_1 (upd_impl_Vip_0_1 of0_5 (Int.toNat i5_2) k1_1) (Int.toNat i5_2) (IntKind.wrap .i64 (k1_1 + 1))) (Int.toNat i5_2) (IntKind.wrap .i64 ((IntKind.wrap .i64 (k1_1 + 1)) + 1))) (Int.toNat i5_2) (⟨none,
    ((upd_impl_Vip_2_1 (upd_impl_Vip_1_1 (upd_impl_Vip_0_1 of0_5 (Int.toNat i5_2) k1_1) (Int.toNat i5_2) (IntKind.wrap .i64 (k1_1 + 1))) (Int.toNat i5_2) (IntKind.wrap .i64 ((IntKind.wrap .i64 (k1_1 + 1)) + 1))) (Int.toNat i5_2)).Names.n,
    y204.2.2⟩ : (Sl Int))))) else none)))))) else (k0 k1_1 of0_5))
def F_laws_markVipS_U (fu : Nat) (a_0_0 : Nat) (k_1 : Int) (dn0 : Nat) (dp0 : Nat) (df0 : (Nat → S_impl_Vip)) : Option (Int × Nat × Nat × (Nat → S_impl_Vip)) :=
  (L (fun w0 go0 => F_laws_markVipS_U_B0 fu a_0_0 dn0 dp0 (fun z205 z206 => (some (z205, dn0, dp0, z206))) w0.1 w0.2.1 w0.2.2 (fun q0 q1 q2 => go0 (q0, q1, q2))) fu ((k_1, 0, df0) : Int × Int × (Nat → S_impl_Vip)))
def pcx_b5 (fu : Nat) (f : Nat) (xs : List (D RT den)) (ins : List (Ob RT den)) : Option (OutX RT den) := match f with | 122 => S_b4 fu xs ins | _ => none
def pcd_b5 : Nat → Bool := fun f => match f with | 122 => true | _ => false
def pc_b5 (fu : Nat) : Pc RT den := ⟨pcf0, fun f => match f with | 122 => true | _ => false, fun f => match f with | 122 => true | _ => false, pcd_b5, pcx_b5 fu⟩
def msk_b5 (b : Nat) : List Nat := match b with | 0 => [2, 3, 4, 6, 7, 8, 9, 10, 11, 12, 13, 14, 15, 16, 17, 18, 19, 20, 21, 22, 23, 24, 25, 26, 27, 28, 29, 30, 31, 32, 33, 34, 35, 36, 37, 38, 39, 40] | 100000 => [0, 2, 3, 5, 6, 7, 8, 9, 10, 11, 12, 13, 14, 15, 16, 17, 18, 19, 20, 21, 22, 23, 24, 25, 26, 27, 28, 29, 30, 31, 32, 33, 34, 35, 36, 37, 38, 39, 40] | _ => []
def ps_b5_0 : List (Pat RT) := [.flat (.os 0), .flat (.int .i64), .flat .q, .flat .q, .flat .q, .flat (.int .i64), .flat .q, .flat .q, .flat .q, .flat .q, .flat .q, .flat .q, .flat .q, .flat .q, .flat .q, .flat .q, .flat .q, .flat .q, .flat .q, .flat .q, .flat .q, .flat .q, .flat .q, .flat .q, .flat .q, .flat .q, .flat .q, .flat .q, .flat .q, .flat .q, .flat .q, .flat .q, .flat .q, .flat .q, .flat .q, .flat .q, .flat .q, .flat .q, .flat .q, .flat .q, .flat .q]
def os_b5_0 : List (OP RT) := [.deep true .impl_Vip]
def conv_b5_0 (r : Raw den ps_b5_0 os_b5_0) : (Nat × Nat × Nat) × (Int × Int × (Nat → S_impl_Vip)) := ((r.1.1, r.2.1.1, r.2.1.2.1), (r.1.2.1, r.1.2.2.2.2.2.1, r.2.1.2.2))
def back_b5_0 (c : Nat × Nat × Nat) (w : Int × Int × (Nat → S_impl_Vip)) : St RT den := ⟨[(.os 0 c.1), (.int .i64 w.1), .q, .q, .q, (.int .i64 w.2.1), .q, .q, .q, .q, .q, .q, .q, .q, .q, .q, .q, .q, .q, .q, .q, .q, .q, .q, .q, .q, .q, .q, .q, .q, .q, .q, .q, .q, .q, .q, .q, .q, .q, .q, .q], [(.deep true .impl_Vip c.2.1 c.2.2 w.2.2)]⟩
def Bk_b5_0 {ρ : Type} (fu : Nat) (c : Nat × Nat × Nat) (k : Ex → St RT den → Option ρ) (w : Int × Int × (Nat → S_impl_Vip)) (go : (Int × Int × (Nat → S_impl_Vip)) → Option ρ) : Option ρ := F_laws_markVipS_U_B0 fu c.1 c.2.1 c.2.2 (fun a0 a1 => k (.exit 0) ⟨[.q, (.int .i64 a0), .q, .q, .q, .q, .q, .q, .q, .q, .q, .q, .q, .q, .q, .q, .q, .q, .q, .q, .q, .q, .q, .q, .q, .q, .q, .q, .q, .q, .q, .q, .q, .q, .q, .q, .q, .q, .q, .q, .q], [(.deep true .impl_Vip c.2.1 c.2.2 a1)]⟩) w.1 w.2.1 w.2.2 (fun q0 q1 q2 => go (q0, q1, q2))
def lp_b5 (fu : Nat) : Lp RT den (Int × Nat × Nat × (Nat → S_impl_Vip)) := fun b s k => match b with | 0 => handle ps_b5_0 os_b5_0 conv_b5_0 (Bk_b5_0 fu) fu s k | _ => none
def pso_b5 : List (Pat RT) := [.flat (.int .i64)]
def oso_b5 : List (OP RT) := [.deep true .impl_Vip]
def conv_b5 (r : Raw den pso_b5 oso_b5) : Int × Nat × Nat × (Nat → S_impl_Vip) := (r.1.1, r.2.1.1, r.2.1.2.1, r.2.1.2.2)
def enc_b5 (y : Int × Nat × Nat × (Nat → S_impl_Vip)) : D RT den × List (Ob RT den) := ((.int .i64 y.1), [(.deep true .impl_Vip y.2.1 y.2.2.1 y.2.2.2)])
def out_b5 (d : D RT den) (os : List (Ob RT den)) : Option (Int × Nat × Nat × (Nat → S_impl_Vip)) := (unSt pso_b5 oso_b5 ⟨[d], os⟩).bind fun v => some (conv_b5 v.1)
theorem out_b5_enc (d : D RT den) (os : List (Ob RT den)) (y : Int × Nat × Nat × (Nat → S_impl_Vip)) (h : out_b5 d os = some y) : d = (enc_b5 y).1 ∧ os = (enc_b5 y).2 :=
  outM (conv := conv_b5) (enc := enc_b5) (fun raw => by kernel_rfl) h
theorem ev_b5 (fu : Nat) (a_0_0 : Nat) (k_1 : Int) (dn0 : Nat) (dp0 : Nat) (df0 : (Nat → S_impl_Vip)) : evFunU E (pc_b5 fu) msk_b5 (lp_b5 fu) out_b5 79 [(.os 0 a_0_0), (.int .i64 k_1)] [(.deep true .impl_Vip dn0 dp0 df0)] = F_laws_markVipS_U fu a_0_0 k_1 dn0 dp0 df0 := by kernel_rfl
noncomputable def body_b5 : Code := Try.f79.body.getD .skip
noncomputable def lc_b5_0 : Code := ((loops 0 body_b5).getD 0 (0, .skip)).2
theorem round_b5_0 (fu : Nat) (it : St RT den → Option (Int × Nat × Nat × (Nat → S_impl_Vip))) (k : Ex → St RT den → Option (Int × Nat × Nat × (Nat → S_impl_Vip))) c w : evCode E (pc_b5 fu) msk_b5 (lp_b5 fu) 0 lc_b5_0 (back_b5_0 c w) (after (msk_b5 0) (msk_b5 100000) 1 it k) = Bk_b5_0 fu c k w (fun w => it (back_b5_0 c w)) := by kernel_rfl
theorem lpok_b5_0 (fu : Nat) : ∀ s k r, lp_b5 fu 0 s k = some r → ∃ fuel, iter (msk_b5 0) (msk_b5 100000) s.objs.length (evCode E (pc_b5 fu) msk_b5 (lp_b5 fu) 0 lc_b5_0) fuel s k = some r :=
  handle_ok (ps := ps_b5_0) (os := os_b5_0) (conv := conv_b5_0) (B := Bk_b5_0 fu) (fu := fu) back_b5_0 (fun raw => by kernel_rfl) 1 (fun c w => by kernel_rfl) (round_b5_0 fu)
theorem lpok_b5 (fu : Nat) : LpOk E (pc_b5 fu) msk_b5 (lp_b5 fu) (loops 0 body_b5) := loop_all 1 (by kernel_rfl) fun i hi => match i, hi with
  | 0, _ => by
    have h : (loops 0 body_b5).getD 0 (0, .skip) = (0, lc_b5_0) := by kernel_rfl
    rw [h]; exact lpok_b5_0 fu
  | i + 1, hi => absurd hi (by omega)
def S_b5 (fu : Nat) (xs : List (D RT den)) (ins : List (Ob RT den)) : Option (OutX RT den) := match xs, ins with | [.os 0 a0_0, .int .i64 a1_0], [.deep true .impl_Vip dn0 dp0 df0] => some ⟨Int × Nat × Nat × (Nat → S_impl_Vip), F_laws_markVipS_U fu a0_0 a1_0 dn0 dp0 df0, enc_b5⟩ | _, _ => none
theorem hpx_b5 (fu : Nat) : ∀ f xs ins o, pcx_b5 fu f xs ins = some o → ∀ y, o.x = some y → GoodXD E Try.prog (pcd_b5 f) f xs ins (o.g y).1 (o.g y).2 := by
  intro f xs ins o h
  unfold pcx_b5 at h
  split at h
  · exact good_b4 fu xs ins o h
  · cases h
theorem goodv_b5 (fu : Nat) (a_0_0 : Nat) (k_1 : Int) (dn0 : Nat) (dp0 : Nat) (df0 : (Nat → S_impl_Vip)) (y : Int × Nat × Nat × (Nat → S_impl_Vip)) (hy : F_laws_markVipS_U fu a_0_0 k_1 dn0 dp0 df0 = some y) : GoodD E Try.prog 79 [(.os 0 a_0_0), (.int .i64 k_1)] [(.deep true .impl_Vip dn0 dp0 df0)] (enc_b5 y).1 (enc_b5 y).2 :=
  funU_good E_ok (pc_good (pc := pc_b5 fu) hpc0 (hpx_b5 fu)) (fn := Try.f79) (c := body_b5) (out := out_b5) (y := y) (by kernel_rfl) (by kernel_rfl) (by kernel_rfl) (lpok_b5 fu) (by kernel_rfl) (Nat.le_of_ble_eq_true (by kernel_rfl)) (Fulls.get 1 trivial) (fun d os hd => out_b5_enc d os _ hd) ((ev_b5 fu a_0_0 k_1 dn0 dp0 df0).trans hy)
theorem good_b5 (fu : Nat) : ∀ xs ins o, S_b5 fu xs ins = some o → ∀ y, o.x = some y → GoodD E Try.prog 79 xs ins (o.g y).1 (o.g y).2 := by
  intro xs ins o h y hy
  unfold S_b5 at h
  split at h
  · rename_i a0_0 a1_0 dn0 dp0 df0
    cases h
    exact goodv_b5 fu a0_0 a1_0 dn0 dp0 df0 y hy
  · cases h

/-! laws.markConfig -/
def F_laws_markConfig_U (fu : Nat) (a_0_0 : Int) (a_0_1 : Nat) (a_0_2 : Nat) (k_1 : Int) (rn0 : Nat) (rf0 : (Nat → S_impl_Backend)) (dn1 : Nat) (dp1 : Nat) (df1 : (Nat → S_impl_Vip)) : Option (Int × Nat × (Nat → S_impl_Backend) × Nat × Nat × (Nat → S_impl_Vip)) :=
  ((F_laws_markBackendS_U fu a_0_1 k_1 rn0 rf0).bind fun y201 => ((F_laws_markVipS_U fu a_0_2 y201.1 dn1 dp1 df1).bind fun y207 => (some (y207.1, y201.2.1, y201.2.2, y207.2.1,
    y207.2.2.1, y207.2.2.2))))
def pcx_b6 (fu : Nat) (f : Nat) (xs : List (D RT den)) (ins : List (Ob RT den)) : Option (OutX RT den) := match f with | 78 => S_b3 fu xs ins | 79 => S_b5 fu xs ins | _ => none
def pcd_b6 : Nat → Bool := fun f => match f with | 78 => true | 79 => true | _ => false
def pc_b6 (fu : Nat) : Pc RT den := ⟨pcf0, fun f => match f with | 78 => true | 79 => true | _ => false, fun f => match f with | 78 => true | 79 => true | _ => false, pcd_b6, pcx_b6 fu⟩
def msk_b6 (b : Nat) : List Nat := []
def lp_b6 (fu : Nat) : Lp RT den (Int × Nat × (Nat → S_impl_Backend) × Nat × Nat × (Nat → S_impl_Vip)) := fun b s k => none
def pso_b6 : List (Pat RT) := [.flat (.int .i64)]
def oso_b6 : List (OP RT) := [.row true .impl_Backend, .deep true .impl_Vip]
def conv_b6 (r : Raw den pso_b6 oso_b6) : Int × Nat × (Nat → S_impl_Backend) × Nat × Nat × (Nat → S_impl_Vip) := (r.1.1, r.2.1.1, r.2.1.2, r.2.2.1.1, r.2.2.1.2.1, r.2.2.1.2.2)
def enc_b6 (y : Int × Nat × (Nat → S_impl_Backend) × Nat × Nat × (Nat → S_impl_Vip)) : D RT den × List (Ob RT den) := ((.int .i64 y.1), [(.row true .impl_Backend y.2.1 y.2.2.1), (.deep true .impl_Vip y.2.2.2.1 y.2.2.2.2.1 y.2.2.2.2.2)])
def out_b6 (d : D RT den) (os : List (Ob RT den)) : Option (Int × Nat × (Nat → S_impl_Backend) × Nat × Nat × (Nat → S_impl_Vip)) := (unSt pso_b6 oso_b6 ⟨[d], os⟩).bind fun v => some (conv_b6 v.1)
theorem out_b6_enc (d : D RT den) (os : List (Ob RT den)) (y : Int × Nat × (Nat → S_impl_Backend) × Nat × Nat × (Nat → S_impl_Vip)) (h : out_b6 d os = some y) : d = (enc_b6 y).1 ∧ os = (enc_b6 y).2 :=
  outM (conv := conv_b6) (enc := enc_b6) (fun raw => by kernel_rfl) h
theorem ev_b6 (fu : Nat) (a_0_0 : Int) (a_0_1 : Nat) (a_0_2 : Nat) (k_1 : Int) (rn0 : Nat) (rf0 : (Nat → S_impl_Backend)) (dn1 : Nat) (dp1 : Nat) (df1 : (Nat → S_impl_Vip)) : evFunU E (pc_b6 fu) msk_b6 (lp_b6 fu) out_b6 25 [(.agg [(.int .i64 a_0_0), (.os 0 a_0_1), (.os 1 a_0_2)]), (.int .i64 k_1)] [(.row true .impl_Backend rn0 rf0), (.deep true .impl_Vip dn1 dp1 df1)] = F_laws_markConfig_U fu a_0_0 a_0_1 a_0_2 k_1 rn0 rf0 dn1 dp1 df1 := by kernel_rfl
noncomputable def body_b6 : Code := Try.f25.body.getD .skip
theorem lpok_b6 (fu : Nat) : LpOk E (pc_b6 fu) msk_b6 (lp_b6 fu) (loops 0 body_b6) := by
  have h : loops 0 body_b6 = [] := by kernel_rfl
  rw [h]; intro p hp; cases hp
def S_b6 (fu : Nat) (xs : List (D RT den)) (ins : List (Ob RT den)) : Option (OutX RT den) := match xs, ins with | [.agg [.int .i64 a0_0, .os 0 a0_1, .os 1 a0_2], .int .i64 a1_0], [.row true .impl_Backend rn0 rf0, .deep true .impl_Vip dn1 dp1 df1] => some ⟨Int × Nat × (Nat → S_impl_Backend) × Nat × Nat × (Nat → S_impl_Vip), F_laws_markConfig_U fu a0_0 a0_1 a0_2 a1_0 rn0 rf0 dn1 dp1 df1, enc_b6⟩ | _, _ => none
theorem hpx_b6 (fu : Nat) : ∀ f xs ins o, pcx_b6 fu f xs ins = some o → ∀ y, o.x = some y → GoodXD E Try.prog (pcd_b6 f) f xs ins (o.g y).1 (o.g y).2 := by
  intro f xs ins o h
  unfold pcx_b6 at h
  split at h
  · exact good_b3 fu xs ins o h
  · exact good_b5 fu xs ins o h
  · cases h
theorem goodv_b6 (fu : Nat) (a_0_0 : Int) (a_0_1 : Nat) (a_0_2 : Nat) (k_1 : Int) (rn0 : Nat) (rf0 : (Nat → S_impl_Backend)) (dn1 : Nat) (dp1 : Nat) (df1 : (Nat → S_impl_Vip)) (y : Int × Nat × (Nat → S_impl_Backend) × Nat × Nat × (Nat → S_impl_Vip)) (hy : F_laws_markConfig_U fu a_0_0 a_0_1 a_0_2 k_1 rn0 rf0 dn1 dp1 df1 = some y) : GoodD E Try.prog 25 [(.agg [(.int .i64 a_0_0), (.os 0 a_0_1), (.os 1 a_0_2)]), (.int .i64 k_1)] [(.row true .impl_Backend rn0 rf0), (.deep true .impl_Vip dn1 dp1 df1)] (enc_b6 y).1 (enc_b6 y).2 :=
  funU_good E_ok (pc_good (pc := pc_b6 fu) hpc0 (hpx_b6 fu)) (fn := Try.f25) (c := body_b6) (out := out_b6) (y := y) (by kernel_rfl) (by kernel_rfl) (by kernel_rfl) (lpok_b6 fu) (by kernel_rfl) (Nat.le_of_ble_eq_true (by kernel_rfl)) (Fulls.get 2 trivial) (fun d os hd => out_b6_enc d os _ hd) ((ev_b6 fu a_0_0 a_0_1 a_0_2 k_1 rn0 rf0 dn1 dp1 df1).trans hy)
theorem good_b6 (fu : Nat) : ∀ xs ins o, S_b6 fu xs ins = some o → ∀ y, o.x = some y → GoodD E Try.prog 25 xs ins (o.g y).1 (o.g y).2 := by
  intro xs ins o h y hy
  unfold S_b6 at h
  split at h
  · rename_i a0_0 a0_1 a0_2 a1_0 rn0 rf0 dn1 dp1 df1
    cases h
    exact goodv_b6 fu a0_0 a0_1 a0_2 a1_0 rn0 rf0 dn1 dp1 df1 y hy
  · cases h
end Go.Proofs.Ytmnbmponjhglcaa.Pe
