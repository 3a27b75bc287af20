/- The functions' evaluated forms, each a proved summary. Conditions: none. -/
import Derived.Test.YtmnbmponjhglcaaPdF1
namespace Go.Proofs.Ytmnbmponjhglcaa.Pd
open Go Go.RowKit Go.Proofs Vm
set_option linter.unusedVariables false
set_option linter.unusedSimpArgs false
set_option maxRecDepth 100000
/-! slices.ContainsFunc[[]int64,int64] -/
def F_slices_ContainsFunc_int64_int64_w_impl_ConfigFault_c1 (fu : Nat) (s_0 : (Sl Int)) (f_1_1 : Int) (f_1_2 : (Sl S_impl_Backend)) (f_1_3 : (Sl S_impl_Vip)) : Option (Bool) :=
  ((F_slices_IndexFunc_int64_int64_w_impl_ConfigFault_c1 fu s_0 f_1_1 f_1_2 f_1_3).bind fun y116 => (some (decide (y116 ≥ 0))))
def pcf_a39 (fu : Nat) (f : Nat) (xs : List (D RT den)) : Option (Out RT den) := match f with | 151 => S_a38 fu xs | _ => none
def pc_a39 (fu : Nat) : Pc RT den := ⟨pcf_a39 fu, fun _ => false, fun _ => false, pcd0, pcx0⟩
def msk_a39 (b : Nat) : List Nat := []
def lp_a39 (fu : Nat) : Lp RT den (Bool) := fun b s k => none
theorem ev_a39 (fu : Nat) (s_0 : (Sl Int)) (f_1_1 : Int) (f_1_2 : (Sl S_impl_Backend)) (f_1_3 : (Sl S_impl_Vip)) : evFun E (pc_a39 fu) msk_a39 (lp_a39 fu) out_bo 96 [(.rs s_0.z .i64 s_0.n s_0.f), (.fn 135 [(.rptr [(.int .i64 f_1_1), (.rs f_1_2.z .impl_Backend f_1_2.n f_1_2.f), (.rs f_1_3.z .impl_Vip f_1_3.n f_1_3.f)])])] = F_slices_ContainsFunc_int64_int64_w_impl_ConfigFault_c1 fu s_0 f_1_1 f_1_2 f_1_3 := by kernel_rfl
noncomputable def body_a39 : Code := Try.f96.body.getD .skip
theorem lpok_a39 (fu : Nat) : LpOk E (pc_a39 fu) msk_a39 (lp_a39 fu) (loops 0 body_a39) := by
  have h : loops 0 body_a39 = [] := by kernel_rfl
  rw [h]; intro p hp; cases hp
def S_a39 (fu : Nat) (xs : List (D RT den)) : Option (Out RT den) := match xs with | [.rs za0_0 .i64 na0_0 fa0_0, .fn 135 [.rptr [.int .i64 a1_0, .rs za1_1 .impl_Backend na1_1 fa1_1, .rs za1_2 .impl_Vip na1_2 fa1_2]]] => some ⟨Bool, F_slices_ContainsFunc_int64_int64_w_impl_ConfigFault_c1 fu (⟨za0_0, na0_0, fa0_0⟩ : (Sl Int)) a1_0 (⟨za1_1, na1_1, fa1_1⟩ : (Sl S_impl_Backend)) (⟨za1_2, na1_2, fa1_2⟩ : (Sl S_impl_Vip)), enc_bo, fun _ => true⟩ | _ => none
theorem hpc_a39 (fu : Nat) : ∀ f xs o, pcf_a39 fu f xs = some o → ∀ y, o.x = some y → Good E Try.prog f xs (o.g y) := by
  intro f xs o h
  unfold pcf_a39 at h
  split at h
  · exact good_a38 fu xs o h
  · cases h
theorem goodv_a39 (fu : Nat) (s_0 : (Sl Int)) (f_1_1 : Int) (f_1_2 : (Sl S_impl_Backend)) (f_1_3 : (Sl S_impl_Vip)) (y : Bool) (hy : F_slices_ContainsFunc_int64_int64_w_impl_ConfigFault_c1 fu s_0 f_1_1 f_1_2 f_1_3 = some y) : Good E Try.prog 96 [(.rs s_0.z .i64 s_0.n s_0.f), (.fn 135 [(.rptr [(.int .i64 f_1_1), (.rs f_1_2.z .impl_Backend f_1_2.n f_1_2.f), (.rs f_1_3.z .impl_Vip f_1_3.n f_1_3.f)])])] (enc_bo y) :=
  fun_good E_ok (pc_good (pc := pc_a39 fu) (hpc_a39 fu) hpx0) (fn := Try.f96) (c := body_a39) (out := out_bo) (y := y) (by kernel_rfl) (by kernel_rfl) (by kernel_rfl) (lpok_a39 fu) (fun d hd => out_bo_enc d _ hd) ((ev_a39 fu s_0 f_1_1 f_1_2 f_1_3).trans hy)
theorem good_a39 (fu : Nat) : ∀ xs o, S_a39 fu xs = some o → ∀ y, o.x = some y → Good E Try.prog 96 xs (o.g y) := by
  intro xs o h y hy
  unfold S_a39 at h
  split at h
  · rename_i za0_0 na0_0 fa0_0 a1_0 za1_1 na1_1 fa1_1 za1_2 na1_2 fa1_2
    cases h
    exact goodv_a39 fu (⟨za0_0, na0_0, fa0_0⟩ : (Sl Int)) a1_0 (⟨za1_1, na1_1, fa1_1⟩ : (Sl S_impl_Backend)) (⟨za1_2, na1_2, fa1_2⟩ : (Sl S_impl_Vip)) y hy
  · cases h

/-! impl.ConfigFault -/
def F_impl_ConfigFault_B1 {ρ : Type} (fu : Nat) (t25_0 : (Sl S_impl_Backend)) (t26_1 : Int) (o0_3 : Int) (o0_4 : (Sl S_impl_Backend)) (o0_5 : (Sl S_impl_Vip)) (k0 : Int → Int → Int → Int → Bool → Option ρ) (k1 : Int → Int → Int → Int → Bool → Option ρ) (k2 : Option ρ) (t27_2 : Int) (go : Int → Option ρ) : Option ρ :=
  (bif (decide (t27_2 < t26_1)) then ((bif (decide (0 ≤ t27_2) && decide ((Int.toNat t27_2) < t25_0.n)) then some () else none : Option Unit).bind fun _ => ((F_impl_isBackend fu (t25_0.f (Int.toNat t27_2))).bind fun y68 =>
    (bif (!y68) then (k0 (t25_0.f (Int.toNat t27_2)).Name (t25_0.f (Int.toNat t27_2)).Address (t25_0.f (Int.toNat t27_2)).Weight (t25_0.f (Int.toNat t27_2)).Stage (t25_0.f (Int.toNat t27_2)).Up) else
    (((bif (decide (t27_2 > 0)) then ((bif (decide (0 ≤ (IntKind.wrap .i64 (t27_2 - 1))) && decide ((Int.toNat (IntKind.wrap .i64 (t27_2 - 1))) < o0_4.n)) then some () else none : Option Unit).bind fun _ =>
    (some (decide ((t25_0.f (Int.toNat t27_2)).Name ≤ (o0_4.f (Int.toNat (IntKind.wrap .i64 (t27_2 - 1)))).Name)))) else (some false)) : Option Bool).bind fun m69 => (bif m69 then
    (k1 (t25_0.f (Int.toNat t27_2)).Name (t25_0.f (Int.toNat t27_2)).Address (t25_0.f (Int.toNat t27_2)).Weight (t25_0.f (Int.toNat t27_2)).Stage (t25_0.f (Int.toNat t27_2)).Up) else
    (go (IntKind.wrap .i64 (t27_2 + 1)))))))) else k2)
def F_impl_ConfigFault_B5 {ρ : Type} (fu : Nat) (t51_1 : (Sl S_impl_Vip)) (t52_2 : Int) (t53_3 : Int) (o0_4 : Int) (o0_5 : (Sl S_impl_Backend)) (o0_6 : (Sl S_impl_Vip)) (o1_7 : Int) (o1_8 : Int) (o1_9 : Int) (o1_10 : (Sl Int)) (k0 : Option ρ) (k1 : Option ρ) (k7_0 : Int) (go : Int → Option ρ) : Option ρ :=
  (bif (decide (k7_0 < ((o1_10.n : Nat) : Int))) then ((bif (decide (0 ≤ k7_0) && decide ((Int.toNat k7_0) < o1_10.n)) then some () else none : Option Unit).bind fun _ => ((bif (decide (0 ≤ (IntKind.wrap .i64 (k7_0 - 1))) &&
    decide ((Int.toNat (IntKind.wrap .i64 (k7_0 - 1))) < o1_10.n)) then some () else none : Option Unit).bind fun _ => (bif (decide ((o1_10.f (Int.toNat k7_0)) ≤ (o1_10.f (Int.toNat (IntKind.wrap .i64 (k7_0 - 1)))))) then
    k0 else (go (IntKind.wrap .i64 (k7_0 + 1)))))) else k1)
def F_impl_ConfigFault_B3 {ρ : Type} (fu : Nat) (t51_0 : (Sl S_impl_Vip)) (t52_1 : Int) (o0_3 : Int) (o0_4 : (Sl S_impl_Backend)) (o0_5 : (Sl S_impl_Vip)) (k0 : Int → Int → Int → (Sl Int) → Option ρ) (k1 : Int → Int → Int → (Sl Int) → Option ρ) (k2 : Int → Int → Int → (Sl Int) → Option ρ) (k3 : Option ρ) (t53_2 : Int) (go : Int → Option ρ) : Option ρ :=
  (bif (decide (t53_2 < t52_1)) then ((bif (decide (0 ≤ t53_2) && decide ((Int.toNat t53_2) < t51_0.n)) then some () else none : Option Unit).bind fun _ => ((((F_impl_isAddress fu (t51_0.f (Int.toNat t53_2)).Address).bind fun y80 =>
    (bif (!y80) then (some true) else ((F_impl_isPort fu (t51_0.f (Int.toNat t53_2)).Port).bind fun y81 => (bif (!y81) then (some true) else ((F_impl_isProto fu (t51_0.f (Int.toNat t53_2)).Proto).bind fun y82 =>
    (some (!y82))))))) : Option Bool).bind fun m83 => (bif m83 then (k0 (t51_0.f (Int.toNat t53_2)).Address (t51_0.f (Int.toNat t53_2)).Port (t51_0.f (Int.toNat t53_2)).Proto (t51_0.f (Int.toNat t53_2)).Names) else
    (((bif (decide (t53_2 > 0)) then ((bif (decide (0 ≤ (IntKind.wrap .i64 (t53_2 - 1))) && decide ((Int.toNat (IntKind.wrap .i64 (t53_2 - 1))) < o0_5.n)) then some () else none : Option Unit).bind fun _ =>
    ((F_impl_compareVip fu (o0_5.f (Int.toNat (IntKind.wrap .i64 (t53_2 - 1)))) (t51_0.f (Int.toNat t53_2))).bind fun y84 => (some (decide (y84 ≥ 0))))) else (some false)) : Option Bool).bind fun m85 =>
    (bif m85 then (k1 (t51_0.f (Int.toNat t53_2)).Address (t51_0.f (Int.toNat t53_2)).Port (t51_0.f (Int.toNat t53_2)).Proto (t51_0.f (Int.toNat t53_2)).Names) else
    ((F_slices_ContainsFunc_int64_int64_w_impl_ConfigFault_c1 fu (t51_0.f (Int.toNat t53_2)).Names o0_3 o0_4 o0_5).bind fun y86 => (bif y86 then (k2 (t51_0.f (Int.toNat t53_2)).Address (t51_0.f (Int.toNat t53_2)).Port (t51_0.f (Int.toNat t53_2)).Proto (t51_0.f (Int.toNat t53_2)).Names) else
    (L (fun w5 go5 => F_impl_ConfigFault_B5 fu t51_0 t52_1 t53_2 o0_3 o0_4 o0_5 ((t51_0.f (Int.toNat t53_2)).Address) ((t51_0.f (Int.toNat t53_2)).Port) ((t51_0.f (Int.toNat t53_2)).Proto) ((t51_0.f (Int.toNat t53_2)).Names) ((k1 (t51_0.f (Int.toNat t53_2)).Address (t51_0.f (Int.toNat t53_2)).Port (t51_0.f (Int.toNat t53_2)).Proto (t51_0.f (Int.toNat t53_2)).Names)) ((go (IntKind.wrap .i64 (t53_2 + 1)))) w5 go5) fu (1 : Int))))))))) else
    k3)
def F_impl_ConfigFault (fu : Nat) (c_0 : S_impl_Config) : Option (Int) :=
  ((F_impl_in fu c_0.Version 0 1000000).bind fun y66 => (bif (!y66) then (some 3) else (((bif (decide (((c_0.Backends.n : Nat) : Int) > 8)) then (some true) else (some (decide (((c_0.Vips.n : Nat) : Int) > 4)))) : Option Bool).bind fun m67 =>
    (bif m67 then (some 2) else (L (fun w1 go1 => F_impl_ConfigFault_B1 fu c_0.Backends ((c_0.Backends.n : Nat) : Int) c_0.Version c_0.Backends c_0.Vips (fun z70 z71 z72 z73 z74 =>
    (some 3)) (fun z75 z76 z77 z78 z79 => (some 1)) (L (fun w3 go3 => F_impl_ConfigFault_B3 fu c_0.Vips ((c_0.Vips.n : Nat) : Int) c_0.Version c_0.Backends c_0.Vips (fun z87 z88 z89 z90 =>
    (some 3)) (fun z91 z92 z93 z94 => (some 1)) (fun z95 z96 z97 z98 => (some 4)) (some 0) w3 go3) fu (0 : Int)) w1 go1) fu (0 : Int))))))
def pcf_b0 (fu : Nat) (f : Nat) (xs : List (D RT den)) : Option (Out RT den) := match f with | 72 => S_a24 fu xs | 93 => S_a26 fu xs | 96 => S_a39 fu xs | 131 => S_a27 fu xs | 132 => S_a28 fu xs | 133 => S_a29 fu xs | 134 => S_a33 fu xs | _ => none
def pc_b0 (fu : Nat) : Pc RT den := ⟨pcf_b0 fu, fun _ => false, fun _ => false, pcd0, pcx0⟩
def msk_b0 (b : Nat) : List Nat := match b with | 1 => [0, 2, 3, 4, 5, 6, 7, 8, 9, 10, 11, 12, 13, 14, 15, 16, 17, 18, 19, 20, 21, 22, 23, 24, 28, 29, 30, 31, 32, 33, 34, 35, 36, 37, 38, 39, 40, 41, 42, 43, 44, 45, 46, 47, 48, 49, 50, 51, 52, 53, 54, 55, 56, 57, 58, 59, 60, 61, 62, 63, 64, 65, 66, 67, 68, 69, 70, 71, 72, 73, 74, 75, 76, 77, 78, 79, 80, 81, 82, 83, 84, 85, 86, 87, 88, 89, 90, 91, 92, 93, 94, 95, 96, 97, 98, 99, 100, 101, 102, 103, 104, 105, 106, 107, 108, 109, 110] | 100001 => [0, 3, 4, 5, 6, 7, 8, 9, 10, 11, 12, 13, 14, 15, 16, 17, 18, 19, 20, 21, 22, 23, 24, 25, 26, 27, 28, 29, 30, 31, 32, 33, 34, 35, 36, 37, 38, 39, 40, 41, 42, 43, 44, 45, 46, 47, 48, 49, 50, 51, 52, 53, 54, 55, 56, 57, 58, 59, 60, 61, 62, 63, 64, 65, 66, 67, 68, 69, 70, 71, 72, 73, 74, 75, 76, 77, 78, 79, 80, 81, 82, 83, 84, 85, 86, 87, 88, 89, 90, 91, 92, 93, 94, 95, 96, 97, 98, 99, 100, 101, 102, 103, 104, 105, 106, 107, 108, 109, 110] | 3 => [0, 2, 3, 4, 5, 6, 7, 8, 9, 10, 11, 12, 13, 14, 15, 16, 17, 18, 19, 20, 21, 22, 23, 24, 25, 26, 27, 28, 29, 30, 31, 32, 33, 34, 35, 36, 37, 38, 39, 40, 41, 42, 43, 44, 45, 46, 47, 48, 49, 50, 54, 55, 56, 57, 58, 59, 60, 61, 62, 63, 64, 65, 66, 67, 68, 69, 70, 71, 72, 73, 74, 75, 76, 77, 78, 79, 80, 81, 82, 83, 84, 85, 86, 87, 88, 89, 90, 91, 92, 93, 94, 95, 96, 97, 98, 99, 100, 101, 102, 103, 104, 105, 106, 107, 108, 109, 110] | 100003 => [0, 1, 3, 4, 5, 6, 7, 8, 9, 10, 11, 12, 13, 14, 15, 16, 17, 18, 19, 20, 21, 22, 23, 24, 25, 26, 27, 28, 29, 30, 31, 32, 33, 34, 35, 36, 37, 38, 39, 40, 41, 42, 43, 44, 45, 46, 47, 48, 49, 50, 51, 52, 53, 54, 55, 56, 57, 58, 59, 60, 61, 62, 63, 64, 65, 66, 67, 68, 69, 70, 71, 72, 73, 74, 75, 76, 77, 78, 79, 80, 81, 82, 83, 84, 85, 86, 87, 88, 89, 90, 91, 92, 93, 94, 95, 96, 97, 98, 99, 100, 101, 102, 103, 104, 105, 106, 107, 108, 109, 110] | 5 => [0, 2, 3, 4, 5, 8, 9, 10, 11, 12, 13, 14, 15, 16, 17, 18, 19, 20, 21, 22, 23, 24, 25, 26, 27, 28, 29, 30, 31, 32, 33, 34, 35, 36, 37, 38, 39, 40, 41, 42, 43, 44, 45, 46, 47, 48, 49, 50, 54, 55, 56, 57, 58, 59, 60, 61, 62, 63, 64, 65, 66, 67, 68, 69, 70, 71, 72, 73, 74, 75, 76, 77, 78, 79, 80, 81, 82, 83, 84, 85, 86, 87, 88, 89, 90, 91, 92, 93, 94, 95, 96, 97, 98, 99, 100, 101, 102, 103, 104, 105, 106, 107, 108, 109, 110] | 100005 => [0, 3, 4, 5, 6, 7, 8, 9, 10, 11, 12, 13, 14, 15, 16, 17, 18, 19, 20, 21, 22, 23, 24, 25, 26, 27, 28, 29, 30, 31, 32, 33, 34, 35, 36, 37, 38, 39, 40, 41, 42, 43, 44, 45, 46, 47, 48, 49, 50, 54, 55, 56, 57, 58, 59, 60, 61, 62, 63, 64, 65, 66, 67, 68, 69, 70, 71, 72, 73, 74, 75, 76, 77, 78, 79, 80, 81, 82, 83, 84, 85, 86, 87, 88, 89, 90, 91, 92, 93, 94, 95, 96, 97, 98, 99, 100, 101, 102, 103, 104, 105, 106, 107, 108, 109, 110] | 200003 => [13] | 200010 => [48] | 200016 => [73] | 200018 => [86] | _ => []
def ps_b0_1 : List (Pat RT) := [.flat .q, .flat (.ref 0 0), .flat .q, .flat .q, .flat .q, .flat .q, .flat .q, .flat .q, .flat .q, .flat .q, .flat .q, .flat .q, .flat .q, .flat .q, .flat .q, .flat .q, .flat .q, .flat .q, .flat .q, .flat .q, .flat .q, .flat .q, .flat .q, .flat .q, .flat .q, .flat (.rs .impl_Backend), .flat (.int .i64), .flat (.int .i64), .flat .q, .flat .q, .flat .q, .flat .q, .flat .q, .flat .q, .flat .q, .flat .q, .flat .q, .flat .q, .flat .q, .flat .q, .flat .q, .flat .q, .flat .q, .flat .q, .flat .q, .flat .q, .flat .q, .flat .q, .flat .q, .flat .q, .flat .q, .flat .q, .flat .q, .flat .q, .flat .q, .flat .q, .flat .q, .flat .q, .flat .q, .flat .q, .flat .q, .flat .q, .flat .q, .flat .q, .flat .q, .flat .q, .flat .q, .flat .q, .flat .q, .flat .q, .flat .q, .flat .q, .flat .q, .flat .q, .flat .q, .flat .q, .flat .q, .flat .q, .flat .q, .flat .q, .flat .q, .flat .q, .flat .q, .flat .q, .flat .q, .flat .q, .flat .q, .flat .q, .flat .q, .flat .q, .flat .q, .flat .q, .flat .q, .flat .q, .flat .q, .flat .q, .flat .q, .flat .q, .flat .q, .flat .q, .flat .q, .flat .q, .flat .q, .flat .q, .flat .q, .flat .q, .flat .q, .flat .q, .flat .q, .flat .q, .flat .q]
def os_b0_1 : List (OP RT) := [.box false [(.int .i64), (.rs .impl_Backend), (.rs .impl_Vip)]]
def conv_b0_1 (r : Raw den ps_b0_1 os_b0_1) : ((Sl S_impl_Backend) × Int × Int × (Sl S_impl_Backend) × (Sl S_impl_Vip)) × (Int) := ((r.1.2.2.2.2.2.2.2.2.2.2.2.2.2.2.2.2.2.2.2.2.2.2.2.2.2.1, r.1.2.2.2.2.2.2.2.2.2.2.2.2.2.2.2.2.2.2.2.2.2.2.2.2.2.2.1, r.2.1.1, r.2.1.2.1, r.2.1.2.2.1), r.1.2.2.2.2.2.2.2.2.2.2.2.2.2.2.2.2.2.2.2.2.2.2.2.2.2.2.2.1)
def back_b0_1 (c : (Sl S_impl_Backend) × Int × Int × (Sl S_impl_Backend) × (Sl S_impl_Vip)) (w : Int) : St RT den := ⟨[.q, (.ref 0 0), .q, .q, .q, .q, .q, .q, .q, .q, .q, .q, .q, .q, .q, .q, .q, .q, .q, .q, .q, .q, .q, .q, .q, (.rs c.1.z .impl_Backend c.1.n c.1.f), (.int .i64 c.2.1), (.int .i64 w), .q, .q, .q, .q, .q, .q, .q, .q, .q, .q, .q, .q, .q, .q, .q, .q, .q, .q, .q, .q, .q, .q, .q, .q, .q, .q, .q, .q, .q, .q, .q, .q, .q, .q, .q, .q, .q, .q, .q, .q, .q, .q, .q, .q, .q, .q, .q, .q, .q, .q, .q, .q, .q, .q, .q, .q, .q, .q, .q, .q, .q, .q, .q, .q, .q, .q, .q, .q, .q, .q, .q, .q, .q, .q, .q, .q, .q, .q, .q, .q, .q, .q, .q], [(.box false [(.int .i64 c.2.2.1), (.rs c.2.2.2.1.z .impl_Backend c.2.2.2.1.n c.2.2.2.1.f), (.rs c.2.2.2.2.z .impl_Vip c.2.2.2.2.n c.2.2.2.2.f)])]⟩
def Bk_b0_1 {ρ : Type} (fu : Nat) (c : (Sl S_impl_Backend) × Int × Int × (Sl S_impl_Backend) × (Sl S_impl_Vip)) (k : Ex → St RT den → Option ρ) (w : Int) (go : (Int) → Option ρ) : Option ρ := F_impl_ConfigFault_B1 fu c.1 c.2.1 c.2.2.1 c.2.2.2.1 c.2.2.2.2 (fun a0 a1 a2 a3 a4 => k .ret ⟨[.q, (.ref 0 0), (.int .i64 3), .q, .q, .q, .q, .q, .q, .q, .q, .q, .q, .q, .q, .q, .q, .q, .q, .q, .q, .q, .q, .q, .q, .q, .q, .q, .q, .q, .q, .q, .q, .q, .q, .q, .q, .q, .q, .q, .q, .q, .q, .q, .q, .q, .q, .q, .q, .q, .q, .q, .q, .q, .q, .q, .q, .q, .q, .q, .q, .q, .q, .q, .q, .q, .q, .q, .q, .q, .q, .q, .q, .q, .q, .q, .q, .q, .q, .q, .q, .q, .q, .q, .q, .q, .q, .q, .q, .q, .q, .q, .q, .q, .q, .q, .q, .q, .q, .q, .q, .q, .q, .q, .q, .q, .q, .q, .q, .q, .q], [(.box false [(.int .i64 c.2.2.1), (.rs c.2.2.2.1.z .impl_Backend c.2.2.2.1.n c.2.2.2.1.f), (.rs c.2.2.2.2.z .impl_Vip c.2.2.2.2.n c.2.2.2.2.f)]), (.box false [(.int .i64 a0), (.int .i64 a1), (.int .i64 a2), (.int .i64 a3), (.bool a4)])]⟩) (fun a0 a1 a2 a3 a4 => k .ret ⟨[.q, (.ref 0 0), (.int .i64 1), .q, .q, .q, .q, .q, .q, .q, .q, .q, .q, .q, .q, .q, .q, .q, .q, .q, .q, .q, .q, .q, .q, .q, .q, .q, .q, .q, .q, .q, .q, .q, .q, .q, .q, .q, .q, .q, .q, .q, .q, .q, .q, .q, .q, .q, .q, .q, .q, .q, .q, .q, .q, .q, .q, .q, .q, .q, .q, .q, .q, .q, .q, .q, .q, .q, .q, .q, .q, .q, .q, .q, .q, .q, .q, .q, .q, .q, .q, .q, .q, .q, .q, .q, .q, .q, .q, .q, .q, .q, .q, .q, .q, .q, .q, .q, .q, .q, .q, .q, .q, .q, .q, .q, .q, .q, .q, .q, .q], [(.box false [(.int .i64 c.2.2.1), (.rs c.2.2.2.1.z .impl_Backend c.2.2.2.1.n c.2.2.2.1.f), (.rs c.2.2.2.2.z .impl_Vip c.2.2.2.2.n c.2.2.2.2.f)]), (.box false [(.int .i64 a0), (.int .i64 a1), (.int .i64 a2), (.int .i64 a3), (.bool a4)])]⟩) (k (.exit 1) ⟨[.q, (.ref 0 0), .q, .q, .q, .q, .q, .q, .q, .q, .q, .q, .q, .q, .q, .q, .q, .q, .q, .q, .q, .q, .q, .q, .q, .q, .q, .q, .q, .q, .q, .q, .q, .q, .q, .q, .q, .q, .q, .q, .q, .q, .q, .q, .q, .q, .q, .q, .q, .q, .q, .q, .q, .q, .q, .q, .q, .q, .q, .q, .q, .q, .q, .q, .q, .q, .q, .q, .q, .q, .q, .q, .q, .q, .q, .q, .q, .q, .q, .q, .q, .q, .q, .q, .q, .q, .q, .q, .q, .q, .q, .q, .q, .q, .q, .q, .q, .q, .q, .q, .q, .q, .q, .q, .q, .q, .q, .q, .q, .q, .q], [(.box false [(.int .i64 c.2.2.1), (.rs c.2.2.2.1.z .impl_Backend c.2.2.2.1.n c.2.2.2.1.f), (.rs c.2.2.2.2.z .impl_Vip c.2.2.2.2.n c.2.2.2.2.f)])]⟩) w go
def ps_b0_5 : List (Pat RT) := [.flat .q, .flat (.ref 0 0), .flat .q, .flat .q, .flat .q, .flat .q, .flat (.ref 1 0), .flat (.int .i64), .flat .q, .flat .q, .flat .q, .flat .q, .flat .q, .flat .q, .flat .q, .flat .q, .flat .q, .flat .q, .flat .q, .flat .q, .flat .q, .flat .q, .flat .q, .flat .q, .flat .q, .flat .q, .flat .q, .flat .q, .flat .q, .flat .q, .flat .q, .flat .q, .flat .q, .flat .q, .flat .q, .flat .q, .flat .q, .flat .q, .flat .q, .flat .q, .flat .q, .flat .q, .flat .q, .flat .q, .flat .q, .flat .q, .flat .q, .flat .q, .flat .q, .flat .q, .flat .q, .flat (.rs .impl_Vip), .flat (.int .i64), .flat (.int .i64), .flat .q, .flat .q, .flat .q, .flat .q, .flat .q, .flat .q, .flat .q, .flat .q, .flat .q, .flat .q, .flat .q, .flat .q, .flat .q, .flat .q, .flat .q, .flat .q, .flat .q, .flat .q, .flat .q, .flat .q, .flat .q, .flat .q, .flat .q, .flat .q, .flat .q, .flat .q, .flat .q, .flat .q, .flat .q, .flat .q, .flat .q, .flat .q, .flat .q, .flat .q, .flat .q, .flat .q, .flat .q, .flat .q, .flat .q, .flat .q, .flat .q, .flat .q, .flat .q, .flat .q, .flat .q, .flat .q, .flat .q, .flat .q, .flat .q, .flat .q, .flat .q, .flat .q, .flat .q, .flat .q, .flat .q, .flat .q, .flat .q]
def os_b0_5 : List (OP RT) := [.box false [(.int .i64), (.rs .impl_Backend), (.rs .impl_Vip)], .box false [(.int .i64), (.int .i64), (.int .i64), (.rs .i64)]]
def conv_b0_5 (r : Raw den ps_b0_5 os_b0_5) : ((Sl S_impl_Vip) × Int × Int × Int × (Sl S_impl_Backend) × (Sl S_impl_Vip) × Int × Int × Int × (Sl Int)) × (Int) := ((r.1.2.2.2.2.2.2.2.2.2.2.2.2.2.2.2.2.2.2.2.2.2.2.2.2.2.2.2.2.2.2.2.2.2.2.2.2.2.2.2.2.2.2.2.2.2.2.2.2.2.2.2.1, r.1.2.2.2.2.2.2.2.2.2.2.2.2.2.2.2.2.2.2.2.2.2.2.2.2.2.2.2.2.2.2.2.2.2.2.2.2.2.2.2.2.2.2.2.2.2.2.2.2.2.2.2.2.1, r.1.2.2.2.2.2.2.2.2.2.2.2.2.2.2.2.2.2.2.2.2.2.2.2.2.2.2.2.2.2.2.2.2.2.2.2.2.2.2.2.2.2.2.2.2.2.2.2.2.2.2.2.2.2.1, r.2.1.1, r.2.1.2.1, r.2.1.2.2.1, r.2.2.1.1, r.2.2.1.2.1, r.2.2.1.2.2.1, r.2.2.1.2.2.2.1), r.1.2.2.2.2.2.2.2.1)
def back_b0_5 (c : (Sl S_impl_Vip) × Int × Int × Int × (Sl S_impl_Backend) × (Sl S_impl_Vip) × Int × Int × Int × (Sl Int)) (w : Int) : St RT den := ⟨[.q, (.ref 0 0), .q, .q, .q, .q, (.ref 1 0), (.int .i64 w), .q, .q, .q, .q, .q, .q, .q, .q, .q, .q, .q, .q, .q, .q, .q, .q, .q, .q, .q, .q, .q, .q, .q, .q, .q, .q, .q, .q, .q, .q, .q, .q, .q, .q, .q, .q, .q, .q, .q, .q, .q, .q, .q, (.rs c.1.z .impl_Vip c.1.n c.1.f), (.int .i64 c.2.1), (.int .i64 c.2.2.1), .q, .q, .q, .q, .q, .q, .q, .q, .q, .q, .q, .q, .q, .q, .q, .q, .q, .q, .q, .q, .q, .q, .q, .q, .q, .q, .q, .q, .q, .q, .q, .q, .q, .q, .q, .q, .q, .q, .q, .q, .q, .q, .q, .q, .q, .q, .q, .q, .q, .q, .q, .q, .q, .q, .q, .q, .q], [(.box false [(.int .i64 c.2.2.2.1), (.rs c.2.2.2.2.1.z .impl_Backend c.2.2.2.2.1.n c.2.2.2.2.1.f), (.rs c.2.2.2.2.2.1.z .impl_Vip c.2.2.2.2.2.1.n c.2.2.2.2.2.1.f)]), (.box false [(.int .i64 c.2.2.2.2.2.2.1), (.int .i64 c.2.2.2.2.2.2.2.1), (.int .i64 c.2.2.2.2.2.2.2.2.1), (.rs c.2.2.2.2.2.2.2.2.2.z .i64 c.2.2.2.2.2.2.2.2.2.n c.2.2.2.2.2.2.2.2.2.f)])]⟩
def Bk_b0_5 {ρ : Type} (fu : Nat) (c : (Sl S_impl_Vip) × Int × Int × Int × (Sl S_impl_Backend) × (Sl S_impl_Vip) × Int × Int × Int × (Sl Int)) (k : Ex → St RT den → Option ρ) (w : Int) (go : (Int) → Option ρ) : Option ρ := F_impl_ConfigFault_B5 fu c.1 c.2.1 c.2.2.1 c.2.2.2.1 c.2.2.2.2.1 c.2.2.2.2.2.1 c.2.2.2.2.2.2.1 c.2.2.2.2.2.2.2.1 c.2.2.2.2.2.2.2.2.1 c.2.2.2.2.2.2.2.2.2 (k .ret ⟨[.q, (.ref 0 0), (.int .i64 1), .q, .q, .q, .q, .q, .q, .q, .q, .q, .q, .q, .q, .q, .q, .q, .q, .q, .q, .q, .q, .q, .q, .q, .q, .q, .q, .q, .q, .q, .q, .q, .q, .q, .q, .q, .q, .q, .q, .q, .q, .q, .q, .q, .q, .q, .q, .q, .q, (.rs c.1.z .impl_Vip c.1.n c.1.f), (.int .i64 c.2.1), (.int .i64 c.2.2.1), .q, .q, .q, .q, .q, .q, .q, .q, .q, .q, .q, .q, .q, .q, .q, .q, .q, .q, .q, .q, .q, .q, .q, .q, .q, .q, .q, .q, .q, .q, .q, .q, .q, .q, .q, .q, .q, .q, .q, .q, .q, .q, .q, .q, .q, .q, .q, .q, .q, .q, .q, .q, .q, .q, .q, .q, .q], [(.box false [(.int .i64 c.2.2.2.1), (.rs c.2.2.2.2.1.z .impl_Backend c.2.2.2.2.1.n c.2.2.2.2.1.f), (.rs c.2.2.2.2.2.1.z .impl_Vip c.2.2.2.2.2.1.n c.2.2.2.2.2.1.f)]), (.box false [(.int .i64 c.2.2.2.2.2.2.1), (.int .i64 c.2.2.2.2.2.2.2.1), (.int .i64 c.2.2.2.2.2.2.2.2.1), (.rs c.2.2.2.2.2.2.2.2.2.z .i64 c.2.2.2.2.2.2.2.2.2.n c.2.2.2.2.2.2.2.2.2.f)])]⟩) (k (.exit 5) ⟨[.q, (.ref 0 0), .q, .q, .q, .q, .q, .q, .q, .q, .q, .q, .q, .q, .q, .q, .q, .q, .q, .q, .q, .q, .q, .q, .q, .q, .q, .q, .q, .q, .q, .q, .q, .q, .q, .q, .q, .q, .q, .q, .q, .q, .q, .q, .q, .q, .q, .q, .q, .q, .q, (.rs c.1.z .impl_Vip c.1.n c.1.f), (.int .i64 c.2.1), (.int .i64 c.2.2.1), .q, .q, .q, .q, .q, .q, .q, .q, .q, .q, .q, .q, .q, .q, .q, .q, .q, .q, .q, .q, .q, .q, .q, .q, .q, .q, .q, .q, .q, .q, .q, .q, .q, .q, .q, .q, .q, .q, .q, .q, .q, .q, .q, .q, .q, .q, .q, .q, .q, .q, .q, .q, .q, .q, .q, .q, .q], [(.box false [(.int .i64 c.2.2.2.1), (.rs c.2.2.2.2.1.z .impl_Backend c.2.2.2.2.1.n c.2.2.2.2.1.f), (.rs c.2.2.2.2.2.1.z .impl_Vip c.2.2.2.2.2.1.n c.2.2.2.2.2.1.f)]), (.box false [(.int .i64 c.2.2.2.2.2.2.1), (.int .i64 c.2.2.2.2.2.2.2.1), (.int .i64 c.2.2.2.2.2.2.2.2.1), (.rs c.2.2.2.2.2.2.2.2.2.z .i64 c.2.2.2.2.2.2.2.2.2.n c.2.2.2.2.2.2.2.2.2.f)])]⟩) w go
def ps_b0_3 : List (Pat RT) := [.flat .q, .flat (.ref 0 0), .flat .q, .flat .q, .flat .q, .flat .q, .flat .q, .flat .q, .flat .q, .flat .q, .flat .q, .flat .q, .flat .q, .flat .q, .flat .q, .flat .q, .flat .q, .flat .q, .flat .q, .flat .q, .flat .q, .flat .q, .flat .q, .flat .q, .flat .q, .flat .q, .flat .q, .flat .q, .flat .q, .flat .q, .flat .q, .flat .q, .flat .q, .flat .q, .flat .q, .flat .q, .flat .q, .flat .q, .flat .q, .flat .q, .flat .q, .flat .q, .flat .q, .flat .q, .flat .q, .flat .q, .flat .q, .flat .q, .flat .q, .flat .q, .flat .q, .flat (.rs .impl_Vip), .flat (.int .i64), .flat (.int .i64), .flat .q, .flat .q, .flat .q, .flat .q, .flat .q, .flat .q, .flat .q, .flat .q, .flat .q, .flat .q, .flat .q, .flat .q, .flat .q, .flat .q, .flat .q, .flat .q, .flat .q, .flat .q, .flat .q, .flat .q, .flat .q, .flat .q, .flat .q, .flat .q, .flat .q, .flat .q, .flat .q, .flat .q, .flat .q, .flat .q, .flat .q, .flat .q, .flat .q, .flat .q, .flat .q, .flat .q, .flat .q, .flat .q, .flat .q, .flat .q, .flat .q, .flat .q, .flat .q, .flat .q, .flat .q, .flat .q, .flat .q, .flat .q, .flat .q, .flat .q, .flat .q, .flat .q, .flat .q, .flat .q, .flat .q, .flat .q, .flat .q]
def os_b0_3 : List (OP RT) := [.box false [(.int .i64), (.rs .impl_Backend), (.rs .impl_Vip)]]
def conv_b0_3 (r : Raw den ps_b0_3 os_b0_3) : ((Sl S_impl_Vip) × Int × Int × (Sl S_impl_Backend) × (Sl S_impl_Vip)) × (Int) := ((r.1.2.2.2.2.2.2.2.2.2.2.2.2.2.2.2.2.2.2.2.2.2.2.2.2.2.2.2.2.2.2.2.2.2.2.2.2.2.2.2.2.2.2.2.2.2.2.2.2.2.2.2.1, r.1.2.2.2.2.2.2.2.2.2.2.2.2.2.2.2.2.2.2.2.2.2.2.2.2.2.2.2.2.2.2.2.2.2.2.2.2.2.2.2.2.2.2.2.2.2.2.2.2.2.2.2.2.1, r.2.1.1, r.2.1.2.1, r.2.1.2.2.1), r.1.2.2.2.2.2.2.2.2.2.2.2.2.2.2.2.2.2.2.2.2.2.2.2.2.2.2.2.2.2.2.2.2.2.2.2.2.2.2.2.2.2.2.2.2.2.2.2.2.2.2.2.2.2.1)
def back_b0_3 (c : (Sl S_impl_Vip) × Int × Int × (Sl S_impl_Backend) × (Sl S_impl_Vip)) (w : Int) : St RT den := ⟨[.q, (.ref 0 0), .q, .q, .q, .q, .q, .q, .q, .q, .q, .q, .q, .q, .q, .q, .q, .q, .q, .q, .q, .q, .q, .q, .q, .q, .q, .q, .q, .q, .q, .q, .q, .q, .q, .q, .q, .q, .q, .q, .q, .q, .q, .q, .q, .q, .q, .q, .q, .q, .q, (.rs c.1.z .impl_Vip c.1.n c.1.f), (.int .i64 c.2.1), (.int .i64 w), .q, .q, .q, .q, .q, .q, .q, .q, .q, .q, .q, .q, .q, .q, .q, .q, .q, .q, .q, .q, .q, .q, .q, .q, .q, .q, .q, .q, .q, .q, .q, .q, .q, .q, .q, .q, .q, .q, .q, .q, .q, .q, .q, .q, .q, .q, .q, .q, .q, .q, .q, .q, .q, .q, .q, .q, .q], [(.box false [(.int .i64 c.2.2.1), (.rs c.2.2.2.1.z .impl_Backend c.2.2.2.1.n c.2.2.2.1.f), (.rs c.2.2.2.2.z .impl_Vip c.2.2.2.2.n c.2.2.2.2.f)])]⟩
def Bk_b0_3 {ρ : Type} (fu : Nat) (c : (Sl S_impl_Vip) × Int × Int × (Sl S_impl_Backend) × (Sl S_impl_Vip)) (k : Ex → St RT den → Option ρ) (w : Int) (go : (Int) → Option ρ) : Option ρ := F_impl_ConfigFault_B3 fu c.1 c.2.1 c.2.2.1 c.2.2.2.1 c.2.2.2.2 (fun a0 a1 a2 a3 => k .ret ⟨[.q, .q, (.int .i64 3), .q, .q, .q, .q, .q, .q, .q, .q, .q, .q, .q, .q, .q, .q, .q, .q, .q, .q, .q, .q, .q, .q, .q, .q, .q, .q, .q, .q, .q, .q, .q, .q, .q, .q, .q, .q, .q, .q, .q, .q, .q, .q, .q, .q, .q, .q, .q, .q, .q, .q, .q, .q, .q, .q, .q, .q, .q, .q, .q, .q, .q, .q, .q, .q, .q, .q, .q, .q, .q, .q, .q, .q, .q, .q, .q, .q, .q, .q, .q, .q, .q, .q, .q, .q, .q, .q, .q, .q, .q, .q, .q, .q, .q, .q, .q, .q, .q, .q, .q, .q, .q, .q, .q, .q, .q, .q, .q, .q], [(.box false [(.int .i64 c.2.2.1), (.rs c.2.2.2.1.z .impl_Backend c.2.2.2.1.n c.2.2.2.1.f), (.rs c.2.2.2.2.z .impl_Vip c.2.2.2.2.n c.2.2.2.2.f)]), (.box false [(.int .i64 a0), (.int .i64 a1), (.int .i64 a2), (.rs a3.z .i64 a3.n a3.f)])]⟩) (fun a0 a1 a2 a3 => k .ret ⟨[.q, .q, (.int .i64 1), .q, .q, .q, .q, .q, .q, .q, .q, .q, .q, .q, .q, .q, .q, .q, .q, .q, .q, .q, .q, .q, .q, .q, .q, .q, .q, .q, .q, .q, .q, .q, .q, .q, .q, .q, .q, .q, .q, .q, .q, .q, .q, .q, .q, .q, .q, .q, .q, .q, .q, .q, .q, .q, .q, .q, .q, .q, .q, .q, .q, .q, .q, .q, .q, .q, .q, .q, .q, .q, .q, .q, .q, .q, .q, .q, .q, .q, .q, .q, .q, .q, .q, .q, .q, .q, .q, .q, .q, .q, .q, .q, .q, .q, .q, .q, .q, .q, .q, .q, .q, .q, .q, .q, .q, .q, .q, .q, .q], [(.box false [(.int .i64 c.2.2.1), (.rs c.2.2.2.1.z .impl_Backend c.2.2.2.1.n c.2.2.2.1.f), (.rs c.2.2.2.2.z .impl_Vip c.2.2.2.2.n c.2.2.2.2.f)]), (.box false [(.int .i64 a0), (.int .i64 a1), (.int .i64 a2), (.rs a3.z .i64 a3.n a3.f)])]⟩) (fun a0 a1 a2 a3 => k .ret ⟨[.q, .q, (.int .i64 4), .q, .q, .q, .q, .q, .q, .q, .q, .q, .q, .q, .q, .q, .q, .q, .q, .q, .q, .q, .q, .q, .q, .q, .q, .q, .q, .q, .q, .q, .q, .q, .q, .q, .q, .q, .q, .q, .q, .q, .q, .q, .q, .q, .q, .q, .q, .q, .q, .q, .q, .q, .q, .q, .q, .q, .q, .q, .q, .q, .q, .q, .q, .q, .q, .q, .q, .q, .q, .q, .q, .q, .q, .q, .q, .q, .q, .q, .q, .q, .q, .q, .q, .q, .q, .q, .q, .q, .q, .q, .q, .q, .q, .q, .q, .q, .q, .q, .q, .q, .q, .q, .q, .q, .q, .q, .q, .q, .q], [(.box false [(.int .i64 c.2.2.1), (.rs c.2.2.2.1.z .impl_Backend c.2.2.2.1.n c.2.2.2.1.f), (.rs c.2.2.2.2.z .impl_Vip c.2.2.2.2.n c.2.2.2.2.f)]), (.box false [(.int .i64 a0), (.int .i64 a1), (.int .i64 a2), (.rs a3.z .i64 a3.n a3.f)])]⟩) (k (.exit 3) ⟨[.q, .q, .q, .q, .q, .q, .q, .q, .q, .q, .q, .q, .q, .q, .q, .q, .q, .q, .q, .q, .q, .q, .q, .q, .q, .q, .q, .q, .q, .q, .q, .q, .q, .q, .q, .q, .q, .q, .q, .q, .q, .q, .q, .q, .q, .q, .q, .q, .q, .q, .q, .q, .q, .q, .q, .q, .q, .q, .q, .q, .q, .q, .q, .q, .q, .q, .q, .q, .q, .q, .q, .q, .q, .q, .q, .q, .q, .q, .q, .q, .q, .q, .q, .q, .q, .q, .q, .q, .q, .q, .q, .q, .q, .q, .q, .q, .q, .q, .q, .q, .q, .q, .q, .q, .q, .q, .q, .q, .q, .q, .q], [(.box false [(.int .i64 c.2.2.1), (.rs c.2.2.2.1.z .impl_Backend c.2.2.2.1.n c.2.2.2.1.f), (.rs c.2.2.2.2.z .impl_Vip c.2.2.2.2.n c.2.2.2.2.f)])]⟩) w go
def lp_b0 (fu : Nat) : Lp RT den (Int) := fun b s k => match b with | 1 => handle ps_b0_1 os_b0_1 conv_b0_1 (Bk_b0_1 fu) fu s k | 3 => handle ps_b0_3 os_b0_3 conv_b0_3 (Bk_b0_3 fu) fu s k | 5 => handle ps_b0_5 os_b0_5 conv_b0_5 (Bk_b0_5 fu) fu s k | _ => none
theorem ev_b0 (fu : Nat) (c_0 : S_impl_Config) : evFun E (pc_b0 fu) msk_b0 (lp_b0 fu) out_i64 70 [(.agg [(.int .i64 c_0.Version), (.rs c_0.Backends.z .impl_Backend c_0.Backends.n c_0.Backends.f), (.rs c_0.Vips.z .impl_Vip c_0.Vips.n c_0.Vips.f)])] = F_impl_ConfigFault fu c_0 := by kernel_rfl
noncomputable def body_b0 : Code := Try.f70.body.getD .skip
noncomputable def lc_b0_1 : Code := ((loops 0 body_b0).getD 0 (0, .skip)).2
theorem round_b0_1 (fu : Nat) (it : St RT den → Option (Int)) (k : Ex → St RT den → Option (Int)) c w : evCode E (pc_b0 fu) msk_b0 (lp_b0 fu) 1 lc_b0_1 (back_b0_1 c w) (after (msk_b0 1) (msk_b0 100001) 1 it k) = Bk_b0_1 fu c k w (fun w => it (back_b0_1 c w)) := by kernel_rfl
theorem lpok_b0_1 (fu : Nat) : ∀ s k r, lp_b0 fu 1 s k = some r → ∃ fuel, iter (msk_b0 1) (msk_b0 100001) s.objs.length (evCode E (pc_b0 fu) msk_b0 (lp_b0 fu) 1 lc_b0_1) fuel s k = some r :=
  handle_ok (ps := ps_b0_1) (os := os_b0_1) (conv := conv_b0_1) (B := Bk_b0_1 fu) (fu := fu) back_b0_1 (fun raw => by kernel_rfl) 1 (fun c w => by kernel_rfl) (round_b0_1 fu)
noncomputable def lc_b0_3 : Code := ((loops 0 body_b0).getD 1 (0, .skip)).2
theorem round_b0_3 (fu : Nat) (it : St RT den → Option (Int)) (k : Ex → St RT den → Option (Int)) c w : evCode E (pc_b0 fu) msk_b0 (lp_b0 fu) 3 lc_b0_3 (back_b0_3 c w) (after (msk_b0 3) (msk_b0 100003) 1 it k) = Bk_b0_3 fu c k w (fun w => it (back_b0_3 c w)) := by kernel_rfl
theorem lpok_b0_3 (fu : Nat) : ∀ s k r, lp_b0 fu 3 s k = some r → ∃ fuel, iter (msk_b0 3) (msk_b0 100003) s.objs.length (evCode E (pc_b0 fu) msk_b0 (lp_b0 fu) 3 lc_b0_3) fuel s k = some r :=
  handle_ok (ps := ps_b0_3) (os := os_b0_3) (conv := conv_b0_3) (B := Bk_b0_3 fu) (fu := fu) back_b0_3 (fun raw => by kernel_rfl) 1 (fun c w => by kernel_rfl) (round_b0_3 fu)
noncomputable def lc_b0_5 : Code := ((loops 0 body_b0).getD 2 (0, .skip)).2
theorem round_b0_5 (fu : Nat) (it : St RT den → Option (Int)) (k : Ex → St RT den → Option (Int)) c w : evCode E (pc_b0 fu) msk_b0 (lp_b0 fu) 5 lc_b0_5 (back_b0_5 c w) (after (msk_b0 5) (msk_b0 100005) 2 it k) = Bk_b0_5 fu c k w (fun w => it (back_b0_5 c w)) := by kernel_rfl
theorem lpok_b0_5 (fu : Nat) : ∀ s k r, lp_b0 fu 5 s k = some r → ∃ fuel, iter (msk_b0 5) (msk_b0 100005) s.objs.length (evCode E (pc_b0 fu) msk_b0 (lp_b0 fu) 5 lc_b0_5) fuel s k = some r :=
  handle_ok (ps := ps_b0_5) (os := os_b0_5) (conv := conv_b0_5) (B := Bk_b0_5 fu) (fu := fu) back_b0_5 (fun raw => by kernel_rfl) 2 (fun c w => by kernel_rfl) (round_b0_5 fu)
theorem lpok_b0 (fu : Nat) : LpOk E (pc_b0 fu) msk_b0 (lp_b0 fu) (loops 0 body_b0) := loop_all 3 (by kernel_rfl) fun i hi => match i, hi with
  | 0, _ => by
    have h : (loops 0 body_b0).getD 0 (0, .skip) = (1, lc_b0_1) := by kernel_rfl
    rw [h]; exact lpok_b0_1 fu
  | 1, _ => by
    have h : (loops 0 body_b0).getD 1 (0, .skip) = (3, lc_b0_3) := by kernel_rfl
    rw [h]; exact lpok_b0_3 fu
  | 2, _ => by
    have h : (loops 0 body_b0).getD 2 (0, .skip) = (5, lc_b0_5) := by kernel_rfl
    rw [h]; exact lpok_b0_5 fu
  | i + 3, hi => absurd hi (by omega)
def S_b0 (fu : Nat) (xs : List (D RT den)) : Option (Out RT den) := match xs with | [.agg [.int .i64 a0_1, .rs za0_2 .impl_Backend na0_2 fa0_2, .rs za0_3 .impl_Vip na0_3 fa0_3]] => some ⟨Int, F_impl_ConfigFault fu (⟨a0_1, (⟨za0_2, na0_2, fa0_2⟩ : (Sl S_impl_Backend)), (⟨za0_3, na0_3, fa0_3⟩ : (Sl S_impl_Vip))⟩ : S_impl_Config), enc_i64, fun _ => true⟩ | _ => none
theorem hpc_b0 (fu : Nat) : ∀ f xs o, pcf_b0 fu f xs = some o → ∀ y, o.x = some y → Good E Try.prog f xs (o.g y) := by
  intro f xs o h
  unfold pcf_b0 at h
  split at h
  · exact good_a24 fu xs o h
  · exact good_a26 fu xs o h
  · exact good_a39 fu xs o h
  · exact good_a27 fu xs o h
  · exact good_a28 fu xs o h
  · exact good_a29 fu xs o h
  · exact good_a33 fu xs o h
  · cases h
theorem goodv_b0 (fu : Nat) (c_0 : S_impl_Config) (y : Int) (hy : F_impl_ConfigFault fu c_0 = some y) : Good E Try.prog 70 [(.agg [(.int .i64 c_0.Version), (.rs c_0.Backends.z .impl_Backend c_0.Backends.n c_0.Backends.f), (.rs c_0.Vips.z .impl_Vip c_0.Vips.n c_0.Vips.f)])] (enc_i64 y) :=
  fun_good E_ok (pc_good (pc := pc_b0 fu) (hpc_b0 fu) hpx0) (fn := Try.f70) (c := body_b0) (out := out_i64) (y := y) (by kernel_rfl) (by kernel_rfl) (by kernel_rfl) (lpok_b0 fu) (fun d hd => out_i64_enc d _ hd) ((ev_b0 fu c_0).trans hy)
theorem good_b0 (fu : Nat) : ∀ xs o, S_b0 fu xs = some o → ∀ y, o.x = some y → Good E Try.prog 70 xs (o.g y) := by
  intro xs o h y hy
  unfold S_b0 at h
  split at h
  · rename_i a0_1 za0_2 na0_2 fa0_2 za0_3 na0_3 fa0_3
    cases h
    exact goodv_b0 fu (⟨a0_1, (⟨za0_2, na0_2, fa0_2⟩ : (Sl S_impl_Backend)), (⟨za0_3, na0_3, fa0_3⟩ : (Sl S_impl_Vip))⟩ : S_impl_Config) y hy
  · cases h

/-! impl.FullUpdate -/
def F_impl_FullUpdate_U (fu : Nat) (c_0 : S_impl_Config) : Option (Int × Int × Int × Bool × Int × Nat × Nat × Nat × Nat × (Nat → S_impl_Backend) × Nat × (Nat → S_impl_Vip) × Nat × (Nat → S_impl_Cmd)) :=
  ((F_impl_ConfigFault fu c_0).bind fun y50 => (bif (y50 != 0) then (bif (decide ((0 : Nat) = 0) && true) then (some (y50, 0, 0, false, 0, 0, 0, 0, 0, (fun _ => dflt .impl_Backend),
    0, (fun _ => dflt .impl_Vip), 0, (fun _ => dflt .impl_Cmd))) else none) else ((F_impl_full_U fu c_0).bind fun y65 => (bif (decide (y65.2.2.2.2.2.1 ≤ y65.2.2.2.2.2.2.2.2.2.1) &&
    true) then (bif (decide (y65.2.2.2.2.2.1 = y65.2.2.2.2.2.1) && true) then (some (0, y65.1, y65.2.1, y65.2.2.1, y65.2.2.2.1, y65.2.2.2.2.1, y65.2.2.2.2.2.1, y65.2.2.2.2.2.2.1,
    y65.2.2.2.2.1, y65.2.2.2.2.2.2.2.2.1, y65.2.2.2.2.2.1, y65.2.2.2.2.2.2.2.2.2.2.1, y65.2.2.2.2.2.2.1, y65.2.2.2.2.2.2.2.2.2.2.2.2)) else none) else none))))
def pcf_b1 (fu : Nat) (f : Nat) (xs : List (D RT den)) : Option (Out RT den) := match f with | 70 => S_b0 fu xs | _ => none
def pcx_b1 (fu : Nat) (f : Nat) (xs : List (D RT den)) (ins : List (Ob RT den)) : Option (OutX RT den) := match f with | 83 => S_a23 fu xs ins | _ => none
def pcd_b1 : Nat → Bool := fun f => match f with | 83 => true | _ => false
def pc_b1 (fu : Nat) : Pc RT den := ⟨pcf_b1 fu, fun f => match f with | 83 => true | _ => false, fun _ => false, pcd_b1, pcx_b1 fu⟩
def msk_b1 (b : Nat) : List Nat := []
def lp_b1 (fu : Nat) : Lp RT den (Int × Int × Int × Bool × Int × Nat × Nat × Nat × Nat × (Nat → S_impl_Backend) × Nat × (Nat → S_impl_Vip) × Nat × (Nat → S_impl_Cmd)) := fun b s k => none
def pso_b1 : List (Pat RT) := [.agg [(.int .i64), (.int .i64), (.int .i64), .bool, (.int .i64), (.os 0), (.os 1), (.os 2)]]
def oso_b1 : List (OP RT) := [.row false .impl_Backend, .deep false .impl_Vip, .row false .impl_Cmd]
def conv_b1 (r : Raw den pso_b1 oso_b1) : Int × Int × Int × Bool × Int × Nat × Nat × Nat × Nat × (Nat → S_impl_Backend) × Nat × (Nat → S_impl_Vip) × Nat × (Nat → S_impl_Cmd) := (r.1.1.1, r.1.1.2.1, r.1.1.2.2.1, r.1.1.2.2.2.1, r.1.1.2.2.2.2.1, r.1.1.2.2.2.2.2.1, r.1.1.2.2.2.2.2.2.1, r.1.1.2.2.2.2.2.2.2.1, r.2.1.1, r.2.1.2, r.2.2.1.1, r.2.2.1.2.2, r.2.2.2.1.1, r.2.2.2.1.2)
def enc_b1 (y : Int × Int × Int × Bool × Int × Nat × Nat × Nat × Nat × (Nat → S_impl_Backend) × Nat × (Nat → S_impl_Vip) × Nat × (Nat → S_impl_Cmd)) : D RT den × List (Ob RT den) := ((.agg [(.int .i64 y.1), (.int .i64 y.2.1), (.int .i64 y.2.2.1), (.bool y.2.2.2.1), (.int .i64 y.2.2.2.2.1), (.os 0 y.2.2.2.2.2.1), (.os 1 y.2.2.2.2.2.2.1), (.os 2 y.2.2.2.2.2.2.2.1)]), [(.row false .impl_Backend y.2.2.2.2.2.2.2.2.1 y.2.2.2.2.2.2.2.2.2.1), (.deep false .impl_Vip y.2.2.2.2.2.2.2.2.2.2.1 y.2.2.2.2.2.2.2.2.2.2.1 y.2.2.2.2.2.2.2.2.2.2.2.1), (.row false .impl_Cmd y.2.2.2.2.2.2.2.2.2.2.2.2.1 y.2.2.2.2.2.2.2.2.2.2.2.2.2)])
def chk_b1 (r : Raw den pso_b1 oso_b1) : Bool := (decide (r.2.2.1.2.1 = r.2.2.1.1) && true)
def raw_b1 (r : Raw den pso_b1 oso_b1) : St RT den := ⟨[(.agg [(.int .i64 r.1.1.1), (.int .i64 r.1.1.2.1), (.int .i64 r.1.1.2.2.1), (.bool r.1.1.2.2.2.1), (.int .i64 r.1.1.2.2.2.2.1), (.os 0 r.1.1.2.2.2.2.2.1), (.os 1 r.1.1.2.2.2.2.2.2.1), (.os 2 r.1.1.2.2.2.2.2.2.2.1)])], [(.row false .impl_Backend r.2.1.1 r.2.1.2), (.deep false .impl_Vip r.2.2.1.1 r.2.2.1.2.1 r.2.2.1.2.2), (.row false .impl_Cmd r.2.2.2.1.1 r.2.2.2.1.2)]⟩
theorem chkd_b1 (r : Raw den pso_b1 oso_b1) (h : chk_b1 r = true) : raw_b1 r = ⟨[(enc_b1 (conv_b1 r)).1], (enc_b1 (conv_b1 r)).2⟩ := by
  simp only [chk_b1, Bool.and_eq_true, decide_eq_true_eq, and_true] at h
  simp only [raw_b1, enc_b1, conv_b1, h]
def out_b1 (d : D RT den) (os : List (Ob RT den)) : Option (Int × Int × Int × Bool × Int × Nat × Nat × Nat × Nat × (Nat → S_impl_Backend) × Nat × (Nat → S_impl_Vip) × Nat × (Nat → S_impl_Cmd)) := (unSt pso_b1 oso_b1 ⟨[d], os⟩).bind fun v => bif chk_b1 v.1 then some (conv_b1 v.1) else none
theorem out_b1_enc (d : D RT den) (os : List (Ob RT den)) (y : Int × Int × Int × Bool × Int × Nat × Nat × Nat × Nat × (Nat → S_impl_Backend) × Nat × (Nat → S_impl_Vip) × Nat × (Nat → S_impl_Cmd)) (h : out_b1 d os = some y) : d = (enc_b1 y).1 ∧ os = (enc_b1 y).2 :=
  outU (conv := conv_b1) (enc := enc_b1) (chk := chk_b1) (fun raw h => Eq.trans (by kernel_rfl) (chkd_b1 raw h)) h
theorem ev_b1 (fu : Nat) (c_0 : S_impl_Config) : evFunU E (pc_b1 fu) msk_b1 (lp_b1 fu) out_b1 30 [(.agg [(.int .i64 c_0.Version), (.rs c_0.Backends.z .impl_Backend c_0.Backends.n c_0.Backends.f), (.rs c_0.Vips.z .impl_Vip c_0.Vips.n c_0.Vips.f)])] [] = F_impl_FullUpdate_U fu c_0 := by kernel_rfl
noncomputable def body_b1 : Code := Try.f30.body.getD .skip
theorem lpok_b1 (fu : Nat) : LpOk E (pc_b1 fu) msk_b1 (lp_b1 fu) (loops 0 body_b1) := by
  have h : loops 0 body_b1 = [] := by kernel_rfl
  rw [h]; intro p hp; cases hp
def S_b1 (fu : Nat) (xs : List (D RT den)) (ins : List (Ob RT den)) : Option (OutX RT den) := match xs, ins with | [.agg [.int .i64 a0_1, .rs za0_2 .impl_Backend na0_2 fa0_2, .rs za0_3 .impl_Vip na0_3 fa0_3]], [] => some ⟨Int × Int × Int × Bool × Int × Nat × Nat × Nat × Nat × (Nat → S_impl_Backend) × Nat × (Nat → S_impl_Vip) × Nat × (Nat → S_impl_Cmd), F_impl_FullUpdate_U fu (⟨a0_1, (⟨za0_2, na0_2, fa0_2⟩ : (Sl S_impl_Backend)), (⟨za0_3, na0_3, fa0_3⟩ : (Sl S_impl_Vip))⟩ : S_impl_Config), enc_b1⟩ | _, _ => none
theorem hpc_b1 (fu : Nat) : ∀ f xs o, pcf_b1 fu f xs = some o → ∀ y, o.x = some y → Good E Try.prog f xs (o.g y) := by
  intro f xs o h
  unfold pcf_b1 at h
  split at h
  · exact good_b0 fu xs o h
  · cases h
theorem hpx_b1 (fu : Nat) : ∀ f xs ins o, pcx_b1 fu f xs ins = some o → ∀ y, o.x = some y → GoodXD E Try.prog (pcd_b1 f) f xs ins (o.g y).1 (o.g y).2 := by
  intro f xs ins o h
  unfold pcx_b1 at h
  split at h
  · exact good_a23 fu xs ins o h
  · cases h
theorem goodv_b1 (fu : Nat) (c_0 : S_impl_Config) (y : Int × Int × Int × Bool × Int × Nat × Nat × Nat × Nat × (Nat → S_impl_Backend) × Nat × (Nat → S_impl_Vip) × Nat × (Nat → S_impl_Cmd)) (hy : F_impl_FullUpdate_U fu c_0 = some y) : GoodD E Try.prog 30 [(.agg [(.int .i64 c_0.Version), (.rs c_0.Backends.z .impl_Backend c_0.Backends.n c_0.Backends.f), (.rs c_0.Vips.z .impl_Vip c_0.Vips.n c_0.Vips.f)])] [] (enc_b1 y).1 (enc_b1 y).2 :=
  funU_good E_ok (pc_good (pc := pc_b1 fu) (hpc_b1 fu) (hpx_b1 fu)) (fn := Try.f30) (c := body_b1) (out := out_b1) (y := y) (by kernel_rfl) (by kernel_rfl) (by kernel_rfl) (lpok_b1 fu) (by kernel_rfl) (Nat.le_of_ble_eq_true (by kernel_rfl)) (Fulls.get 0 (And.intro (Nat.le_refl _) trivial)) (fun d os hd => out_b1_enc d os _ hd) ((ev_b1 fu c_0).trans hy)
theorem good_b1 (fu : Nat) : ∀ xs ins o, S_b1 fu xs ins = some o → ∀ y, o.x = some y → GoodD E Try.prog 30 xs ins (o.g y).1 (o.g y).2 := by
  intro xs ins o h y hy
  unfold S_b1 at h
  split at h
  · rename_i a0_1 za0_2 na0_2 fa0_2 za0_3 na0_3 fa0_3
    cases h
    exact goodv_b1 fu (⟨a0_1, (⟨za0_2, na0_2, fa0_2⟩ : (Sl S_impl_Backend)), (⟨za0_3, na0_3, fa0_3⟩ : (Sl S_impl_Vip))⟩ : S_impl_Config) y hy
  · cases h

/-! laws.markBackendS -/
def F_laws_markBackendS_U_B0 {ρ : Type} (fu : Nat) (a0_0 : Nat) (on0_3 : Nat) (k0 : Int → (Nat → S_impl_Backend) → Option ρ) (k1_1 : Int) (i5_2 : Int) (of0_4 : (Nat → S_impl_Backend)) (go : Int → Int → (Nat → S_impl_Backend) → Option ρ) : Option ρ :=
  (bif (decide (i5_2 < ((a0_0 : Nat) : Int))) then ((bif (decide (0 ≤ i5_2) && decide ((Int.toNat i5_2) < a0_0)) then some () else none : Option Unit).bind fun _ => ((bif (decide (0 ≤ i5_2) &&
    decide ((Int.toNat i5_2) < a0_0)) then some () else none : Option Unit).bind fun _ => ((bif (decide (0 ≤ i5_2) && decide ((Int.toNat i5_2) < a0_0)) then some () else none : Option Unit).bind fun _ =>
    ((bif (decide (0 ≤ i5_2) && decide ((Int.toNat i5_2) < a0_0)) then some () else none : Option Unit).bind fun _ => ((bif (decide (0 ≤ i5_2) && decide ((Int.toNat i5_2) < a0_0)) then
    some () else none : Option Unit).bind fun _ => (go (IntKind.wrap .i64 ((IntKind.wrap .i64 ((IntKind.wrap .i64 ((IntKind.wrap .i64 ((IntKind.wrap .i64 (k1_1 + 1)) + 1)) + 1)) + 1)) + 1)) (IntKind.wrap .i64 (i5_2 + 1)) (upd_impl_Backend_4_1 (upd_impl_Backend_3_1 (upd_impl_Backend_2_1 (upd_impl_Backend_1_1 (upd_impl_Backend_0_1 of0_4 (Int.toNat i5_2) k1_1) (Int.toNat i5_2) (IntKind.wrap .i64 (k1_1 + 1))) (Int.toNat i5_2) (IntKind.wrap .i64 ((IntKind.wrap .i64 (k1_1 + 1)) + 1))) (Int.toNat i5_2) (IntKind.wrap .i64 ((IntKind.wrap .i64 ((IntKind.wrap .i64 (k1_1 + 1)) + 1)) + 1))) (Int.toNat i5_2) ((Int.tmod (IntKind.wrap .i64 ((IntKind.wrap .i64 ((IntKind.wrap .i64 ((IntKind.wrap .i64 (k1_1 + 1)) + 1)) + 1)) + 1)) 3) == 0)))))))) else
    (k0 k1_1 of0_4))
def F_laws_markBackendS_U (fu : Nat) (a_0_0 : Nat) (k_1 : Int) (rn0 : Nat) (rf0 : (Nat → S_impl_Backend)) : Option (Int × Nat × (Nat → S_impl_Backend)) :=
  (L (fun w0 go0 => F_laws_markBackendS_U_B0 fu a_0_0 rn0 (fun z127 z128 => (some (z127, rn0, z128))) w0.1 w0.2.1 w0.2.2 (fun q0 q1 q2 => go0 (q0, q1, q2))) fu ((k_1, 0, rf0) : Int × Int × (Nat → S_impl_Backend)))
def pc_b2 (fu : Nat) : Pc RT den := ⟨pcf0, fun _ => false, fun _ => false, pcd0, pcx0⟩
def msk_b2 (b : Nat) : List Nat := match b with | 0 => [2, 3, 4, 6, 7, 8, 9, 10, 11, 12, 13, 14, 15, 16, 17, 18, 19, 20, 21, 22, 23, 24, 25, 26, 27, 28, 29, 30, 31, 32, 33, 34, 35, 36, 37, 38, 39, 40, 41, 42, 43, 44, 45, 46, 47, 48, 49] | 100000 => [0, 2, 3, 5, 6, 7, 8, 9, 10, 11, 12, 13, 14, 15, 16, 17, 18, 19, 20, 21, 22, 23, 24, 25, 26, 27, 28, 29, 30, 31, 32, 33, 34, 35, 36, 37, 38, 39, 40, 41, 42, 43, 44, 45, 46, 47, 48, 49] | _ => []
def ps_b2_0 : List (Pat RT) := [.flat (.os 0), .flat (.int .i64), .flat .q, .flat .q, .flat .q, .flat (.int .i64), .flat .q, .flat .q, .flat .q, .flat .q, .flat .q, .flat .q, .flat .q, .flat .q, .flat .q, .flat .q, .flat .q, .flat .q, .flat .q, .flat .q, .flat .q, .flat .q, .flat .q, .flat .q, .flat .q, .flat .q, .flat .q, .flat .q, .flat .q, .flat .q, .flat .q, .flat .q, .flat .q, .flat .q, .flat .q, .flat .q, .flat .q, .flat .q, .flat .q, .flat .q, .flat .q, .flat .q, .flat .q, .flat .q, .flat .q, .flat .q, .flat .q, .flat .q, .flat .q, .flat .q]
def os_b2_0 : List (OP RT) := [.row true .impl_Backend]
def conv_b2_0 (r : Raw den ps_b2_0 os_b2_0) : (Nat × Nat) × (Int × Int × (Nat → S_impl_Backend)) := ((r.1.1, r.2.1.1), (r.1.2.1, r.1.2.2.2.2.2.1, r.2.1.2))
def back_b2_0 (c : Nat × Nat) (w : Int × Int × (Nat → S_impl_Backend)) : St RT den := ⟨[(.os 0 c.1), (.int .i64 w.1), .q, .q, .q, (.int .i64 w.2.1), .q, .q, .q, .q, .q, .q, .q, .q, .q, .q, .q, .q, .q, .q, .q, .q, .q, .q, .q, .q, .q, .q, .q, .q, .q, .q, .q, .q, .q, .q, .q, .q, .q, .q, .q, .q, .q, .q, .q, .q, .q, .q, .q, .q], [(.row true .impl_Backend c.2 w.2.2)]⟩
def Bk_b2_0 {ρ : Type} (fu : Nat) (c : Nat × Nat) (k : Ex → St RT den → Option ρ) (w : Int × Int × (Nat → S_impl_Backend)) (go : (Int × Int × (Nat → S_impl_Backend)) → Option ρ) : Option ρ := F_laws_markBackendS_U_B0 fu c.1 c.2 (fun a0 a1 => k (.exit 0) ⟨[.q, (.int .i64 a0), .q, .q, .q, .q, .q, .q, .q, .q, .q, .q, .q, .q, .q, .q, .q, .q, .q, .q, .q, .q, .q, .q, .q, .q, .q, .q, .q, .q, .q, .q, .q, .q, .q, .q, .q, .q, .q, .q, .q, .q, .q, .q, .q, .q, .q, .q, .q, .q], [(.row true .impl_Backend c.2 a1)]⟩) w.1 w.2.1 w.2.2 (fun q0 q1 q2 => go (q0, q1, q2))
def lp_b2 (fu : Nat) : Lp RT den (Int × Nat × (Nat → S_impl_Backend)) := fun b s k => match b with | 0 => handle ps_b2_0 os_b2_0 conv_b2_0 (Bk_b2_0 fu) fu s k | _ => none
def pso_b2 : List (Pat RT) := [.flat (.int .i64)]
def oso_b2 : List (OP RT) := [.row true .impl_Backend]
def conv_b2 (r : Raw den pso_b2 oso_b2) : Int × Nat × (Nat → S_impl_Backend) := (r.1.1, r.2.1.1, r.2.1.2)
def enc_b2 (y : Int × Nat × (Nat → S_impl_Backend)) : D RT den × List (Ob RT den) := ((.int .i64 y.1), [(.row true .impl_Backend y.2.1 y.2.2)])
def out_b2 (d : D RT den) (os : List (Ob RT den)) : Option (Int × Nat × (Nat → S_impl_Backend)) := (unSt pso_b2 oso_b2 ⟨[d], os⟩).bind fun v => some (conv_b2 v.1)
theorem out_b2_enc (d : D RT den) (os : List (Ob RT den)) (y : Int × Nat × (Nat → S_impl_Backend)) (h : out_b2 d os = some y) : d = (enc_b2 y).1 ∧ os = (enc_b2 y).2 :=
  outM (conv := conv_b2) (enc := enc_b2) (fun raw => by kernel_rfl) h
theorem ev_b2 (fu : Nat) (a_0_0 : Nat) (k_1 : Int) (rn0 : Nat) (rf0 : (Nat → S_impl_Backend)) : evFunU E (pc_b2 fu) msk_b2 (lp_b2 fu) out_b2 78 [(.os 0 a_0_0), (.int .i64 k_1)] [(.row true .impl_Backend rn0 rf0)] = F_laws_markBackendS_U fu a_0_0 k_1 rn0 rf0 := by kernel_rfl
noncomputable def body_b2 : Code := Try.f78.body.getD .skip
noncomputable def lc_b2_0 : Code := ((loops 0 body_b2).getD 0 (0, .skip)).2
theorem round_b2_0 (fu : Nat) (it : St RT den → Option (Int × Nat × (Nat → S_impl_Backend))) (k : Ex → St RT den → Option (Int × Nat × (Nat → S_impl_Backend))) c w : evCode E (pc_b2 fu) msk_b2 (lp_b2 fu) 0 lc_b2_0 (back_b2_0 c w) (after (msk_b2 0) (msk_b2 100000) 1 it k) = Bk_b2_0 fu c k w (fun w => it (back_b2_0 c w)) := by kernel_rfl
theorem lpok_b2_0 (fu : Nat) : ∀ s k r, lp_b2 fu 0 s k = some r → ∃ fuel, iter (msk_b2 0) (msk_b2 100000) s.objs.length (evCode E (pc_b2 fu) msk_b2 (lp_b2 fu) 0 lc_b2_0) fuel s k = some r :=
  handle_ok (ps := ps_b2_0) (os := os_b2_0) (conv := conv_b2_0) (B := Bk_b2_0 fu) (fu := fu) back_b2_0 (fun raw => by kernel_rfl) 1 (fun c w => by kernel_rfl) (round_b2_0 fu)
theorem lpok_b2 (fu : Nat) : LpOk E (pc_b2 fu) msk_b2 (lp_b2 fu) (loops 0 body_b2) := loop_all 1 (by kernel_rfl) fun i hi => match i, hi with
  | 0, _ => by
    have h : (loops 0 body_b2).getD 0 (0, .skip) = (0, lc_b2_0) := by kernel_rfl
    rw [h]; exact lpok_b2_0 fu
  | i + 1, hi => absurd hi (by omega)
def S_b2 (fu : Nat) (xs : List (D RT den)) (ins : List (Ob RT den)) : Option (OutX RT den) := match xs, ins with | [.os 0 a0_0, .int .i64 a1_0], [.row true .impl_Backend rn0 rf0] => some ⟨Int × Nat × (Nat → S_impl_Backend), F_laws_markBackendS_U fu a0_0 a1_0 rn0 rf0, enc_b2⟩ | _, _ => none
theorem goodv_b2 (fu : Nat) (a_0_0 : Nat) (k_1 : Int) (rn0 : Nat) (rf0 : (Nat → S_impl_Backend)) (y : Int × Nat × (Nat → S_impl_Backend)) (hy : F_laws_markBackendS_U fu a_0_0 k_1 rn0 rf0 = some y) : GoodD E Try.prog 78 [(.os 0 a_0_0), (.int .i64 k_1)] [(.row true .impl_Backend rn0 rf0)] (enc_b2 y).1 (enc_b2 y).2 :=
  funU_good E_ok (pc_good (pc := pc_b2 fu) hpc0 hpx0) (fn := Try.f78) (c := body_b2) (out := out_b2) (y := y) (by kernel_rfl) (by kernel_rfl) (by kernel_rfl) (lpok_b2 fu) (by kernel_rfl) (Nat.le_of_ble_eq_true (by kernel_rfl)) (Fulls.get 1 trivial) (fun d os hd => out_b2_enc d os _ hd) ((ev_b2 fu a_0_0 k_1 rn0 rf0).trans hy)
theorem good_b2 (fu : Nat) : ∀ xs ins o, S_b2 fu xs ins = some o → ∀ y, o.x = some y → GoodD E Try.prog 78 xs ins (o.g y).1 (o.g y).2 := by
  intro xs ins o h y hy
  unfold S_b2 at h
  split at h
  · rename_i a0_0 a1_0 rn0 rf0
    cases h
    exact goodv_b2 fu a0_0 a1_0 rn0 rf0 y hy
  · cases h

/-! laws.markInt64S -/
def F_laws_markInt64S_U_B0 {ρ : Type} (fu : Nat) (a0_0 : Nat) (on0_3 : Nat) (k0 : Int → (Nat → Int) → Option ρ) (k1_1 : Int) (i5_2 : Int) (of0_4 : (Nat → Int)) (go : Int → Int → (Nat → Int) → Option ρ) : Option ρ :=
  (bif (decide (i5_2 < ((a0_0 : Nat) : Int))) then ((bif (decide (0 ≤ i5_2) && decide ((Int.toNat i5_2) < a0_0)) then some () else none : Option Unit).bind fun _ => (go (IntKind.wrap .i64 (k1_1 + 1)) (IntKind.wrap .i64 (i5_2 + 1)) (fun j =>
    if j = (Int.toNat i5_2) then k1_1 else of0_4 j))) else (k0 k1_1 of0_4))
def F_laws_markInt64S_U (fu : Nat) (a_0_0 : Nat) (k_1 : Int) (rn0 : Nat) (rf0 : (Nat → Int)) : Option (Int × Nat × (Nat → Int)) :=
  (L (fun w0 go0 => F_laws_markInt64S_U_B0 fu a_0_0 rn0 (fun z130 z131 => (some (z130, rn0, z131))) w0.1 w0.2.1 w0.2.2 (fun q0 q1 q2 => go0 (q0, q1, q2))) fu ((k_1, 0, rf0) : Int × Int × (Nat → Int)))
def pc_b3 (fu : Nat) : Pc RT den := ⟨pcf0, fun _ => false, fun _ => false, pcd0, pcx0⟩
def msk_b3 (b : Nat) : List Nat := match b with | 0 => [2, 3, 4, 6, 7, 8, 9, 10, 11, 12, 13, 14, 15, 16, 17, 18] | 100000 => [0, 2, 3, 5, 6, 7, 8, 9, 10, 11, 12, 13, 14, 15, 16, 17, 18] | _ => []
def ps_b3_0 : List (Pat RT) := [.flat (.os 0), .flat (.int .i64), .flat .q, .flat .q, .flat .q, .flat (.int .i64), .flat .q, .flat .q, .flat .q, .flat .q, .flat .q, .flat .q, .flat .q, .flat .q, .flat .q, .flat .q, .flat .q, .flat .q, .flat .q]
def os_b3_0 : List (OP RT) := [.row true .i64]
def conv_b3_0 (r : Raw den ps_b3_0 os_b3_0) : (Nat × Nat) × (Int × Int × (Nat → Int)) := ((r.1.1, r.2.1.1), (r.1.2.1, r.1.2.2.2.2.2.1, r.2.1.2))
def back_b3_0 (c : Nat × Nat) (w : Int × Int × (Nat → Int)) : St RT den := ⟨[(.os 0 c.1), (.int .i64 w.1), .q, .q, .q, (.int .i64 w.2.1), .q, .q, .q, .q, .q, .q, .q, .q, .q, .q, .q, .q, .q], [(.row true .i64 c.2 w.2.2)]⟩
def Bk_b3_0 {ρ : Type} (fu : Nat) (c : Nat × Nat) (k : Ex → St RT den → Option ρ) (w : Int × Int × (Nat → Int)) (go : (Int × Int × (Nat → Int)) → Option ρ) : Option ρ := F_laws_markInt64S_U_B0 fu c.1 c.2 (fun a0 a1 => k (.exit 0) ⟨[.q, (.int .i64 a0), .q, .q, .q, .q, .q, .q, .q, .q, .q, .q, .q, .q, .q, .q, .q, .q, .q], [(.row true .i64 c.2 a1)]⟩) w.1 w.2.1 w.2.2 (fun q0 q1 q2 => go (q0, q1, q2))
def lp_b3 (fu : Nat) : Lp RT den (Int × Nat × (Nat → Int)) := fun b s k => match b with | 0 => handle ps_b3_0 os_b3_0 conv_b3_0 (Bk_b3_0 fu) fu s k | _ => none
def pso_b3 : List (Pat RT) := [.flat (.int .i64)]
def oso_b3 : List (OP RT) := [.row true .i64]
def conv_b3 (r : Raw den pso_b3 oso_b3) : Int × Nat × (Nat → Int) := (r.1.1, r.2.1.1, r.2.1.2)
def enc_b3 (y : Int × Nat × (Nat → Int)) : D RT den × List (Ob RT den) := ((.int .i64 y.1), [(.row true .i64 y.2.1 y.2.2)])
def out_b3 (d : D RT den) (os : List (Ob RT den)) : Option (Int × Nat × (Nat → Int)) := (unSt pso_b3 oso_b3 ⟨[d], os⟩).bind fun v => some (conv_b3 v.1)
theorem out_b3_enc (d : D RT den) (os : List (Ob RT den)) (y : Int × Nat × (Nat → Int)) (h : out_b3 d os = some y) : d = (enc_b3 y).1 ∧ os = (enc_b3 y).2 :=
  outM (conv := conv_b3) (enc := enc_b3) (fun raw => by kernel_rfl) h
theorem ev_b3 (fu : Nat) (a_0_0 : Nat) (k_1 : Int) (rn0 : Nat) (rf0 : (Nat → Int)) : evFunU E (pc_b3 fu) msk_b3 (lp_b3 fu) out_b3 122 [(.os 0 a_0_0), (.int .i64 k_1)] [(.row true .i64 rn0 rf0)] = F_laws_markInt64S_U fu a_0_0 k_1 rn0 rf0 := by kernel_rfl
noncomputable def body_b3 : Code := Try.f122.body.getD .skip
noncomputable def lc_b3_0 : Code := ((loops 0 body_b3).getD 0 (0, .skip)).2
theorem round_b3_0 (fu : Nat) (it : St RT den → Option (Int × Nat × (Nat → Int))) (k : Ex → St RT den → Option (Int × Nat × (Nat → Int))) c w : evCode E (pc_b3 fu) msk_b3 (lp_b3 fu) 0 lc_b3_0 (back_b3_0 c w) (after (msk_b3 0) (msk_b3 100000) 1 it k) = Bk_b3_0 fu c k w (fun w => it (back_b3_0 c w)) := by kernel_rfl
theorem lpok_b3_0 (fu : Nat) : ∀ s k r, lp_b3 fu 0 s k = some r → ∃ fuel, iter (msk_b3 0) (msk_b3 100000) s.objs.length (evCode E (pc_b3 fu) msk_b3 (lp_b3 fu) 0 lc_b3_0) fuel s k = some r :=
  handle_ok (ps := ps_b3_0) (os := os_b3_0) (conv := conv_b3_0) (B := Bk_b3_0 fu) (fu := fu) back_b3_0 (fun raw => by kernel_rfl) 1 (fun c w => by kernel_rfl) (round_b3_0 fu)
theorem lpok_b3 (fu : Nat) : LpOk E (pc_b3 fu) msk_b3 (lp_b3 fu) (loops 0 body_b3) := loop_all 1 (by kernel_rfl) fun i hi => match i, hi with
  | 0, _ => by
    have h : (loops 0 body_b3).getD 0 (0, .skip) = (0, lc_b3_0) := by kernel_rfl
    rw [h]; exact lpok_b3_0 fu
  | i + 1, hi => absurd hi (by omega)
def S_b3 (fu : Nat) (xs : List (D RT den)) (ins : List (Ob RT den)) : Option (OutX RT den) := match xs, ins with | [.os 0 a0_0, .int .i64 a1_0], [.row true .i64 rn0 rf0] => some ⟨Int × Nat × (Nat → Int), F_laws_markInt64S_U fu a0_0 a1_0 rn0 rf0, enc_b3⟩ | _, _ => none
theorem goodv_b3 (fu : Nat) (a_0_0 : Nat) (k_1 : Int) (rn0 : Nat) (rf0 : (Nat → Int)) (y : Int × Nat × (Nat → Int)) (hy : F_laws_markInt64S_U fu a_0_0 k_1 rn0 rf0 = some y) : GoodD E Try.prog 122 [(.os 0 a_0_0), (.int .i64 k_1)] [(.row true .i64 rn0 rf0)] (enc_b3 y).1 (enc_b3 y).2 :=
  funU_good E_ok (pc_good (pc := pc_b3 fu) hpc0 hpx0) (fn := Try.f122) (c := body_b3) (out := out_b3) (y := y) (by kernel_rfl) (by kernel_rfl) (by kernel_rfl) (lpok_b3 fu) (by kernel_rfl) (Nat.le_of_ble_eq_true (by kernel_rfl)) (Fulls.get 1 trivial) (fun d os hd => out_b3_enc d os _ hd) ((ev_b3 fu a_0_0 k_1 rn0 rf0).trans hy)
theorem good_b3 (fu : Nat) : ∀ xs ins o, S_b3 fu xs ins = some o → ∀ y, o.x = some y → GoodD E Try.prog 122 xs ins (o.g y).1 (o.g y).2 := by
  intro xs ins o h y hy
  unfold S_b3 at h
  split at h
  · rename_i a0_0 a1_0 rn0 rf0
    cases h
    exact goodv_b3 fu a0_0 a1_0 rn0 rf0 y hy
  · cases h

/-! laws.markVipS -/
def F_laws_markVipS_U_B0 {ρ : Type} (fu : Nat) (a0_0 : Nat) (on0_3 : Nat) (op0_4 : Nat) (k0 : Int → (Nat → S_impl_Vip) → Option ρ) (k1_1 : Int) (i5_2 : Int) (of0_5 : (Nat → S_impl_Vip)) (go : Int → Int → (Nat → S_impl_Vip) → Option ρ) : Option ρ :=
  (bif (decide (i5_2 < ((a0_0 : Nat) : Int))) then ((bif (decide (0 ≤ i5_2) && decide ((Int.toNat i5_2) < a0_0)) then some () else none : Option Unit).bind fun _ => ((bif (decide (0 ≤ i5_2) &&
    decide ((Int.toNat i5_2) < a0_0)) then some () else none : Option Unit).bind fun _ => ((bif (decide (0 ≤ i5_2) && decide ((Int.toNat i5_2) < a0_0)) then some () else none : Option Unit).bind fun _ =>
    ((bif (decide (0 ≤ i5_2) && decide ((Int.toNat i5_2) < a0_0)) then some () else none : Option Unit).bind fun _ => ((bif (decide ((Int.toNat i5_2) < op0_4)) then some () else
    none : Option Unit).bind fun _ => (bif (decide ((Int.toNat i5_2) < op0_4) && true) then ((F_laws_markInt64S_U fu (((upd_impl_Vip_2_1 (upd_impl_Vip_1_1 (upd_impl_Vip_0_1 of0_5 (Int.toNat i5_2) k1_1) (Int.toNat i5_2) (IntKind.wrap .i64 (k1_1 + 1))) (Int.toNat i5_2) (IntKind.wrap .i64 ((IntKind.wrap .i64 (k1_1 + 1)) + 1))) (Int.toNat i5_2)).Names.n) (IntKind.wrap .i64 ((IntKind.wrap .i64 ((IntKind.wrap .i64 (k1_1 + 1)) + 1)) + 1)) (((upd_impl_Vip_2_1 (upd_impl_Vip_1_1 (upd_impl_Vip_0_1 of0_5 (Int.toNat i5_2) k1_1) (Int.toNat i5_2) (IntKind.wrap .i64 (k1_1 + 1))) (Int.toNat i5_2) (IntKind.wrap .i64 ((IntKind.wrap .i64 (k1_1 + 1)) + 1))) (Int.toNat i5_2)).Names.n) (((upd_impl_Vip_2_1 (upd_impl_Vip_1_1 (upd_impl_Vip_0_1 of0_5 (Int.toNat i5_2) k1_1) (Int.toNat i5_2) (IntKind.wrap .i64 (k1_1 + 1))) (Int.toNat i5_2) (IntKind.wrap .i64 ((IntKind.wrap .i64 (k1_1 + 1)) + 1))) (Int.toNat i5_2)).Names.f)).bind fun y132 =>
    (go y132.1 (IntKind.wrap .i64 (i5_2 + 1)) (upd_impl_Vip_3_1 (upd_impl_Vip_2_1 (upd_impl_Vip_1_1 (upd_impl_Vip_0_1 of0_5 (Int.toNat i5_2) k1_1) (Int.toNat i5_2) (IntKind.wrap .i64 (k1_1 + 1))) (Int.toNat i5_2) (IntKind.wrap .i64 ((IntKind.wrap .i64 (k1_1 + 1)) + 1))) (Int.toNat i5_2) (⟨none,
    ((upd_impl_Vip_2_1 (upd_impl_Vip_1_1 (upd_impl_Vip_0_1 of0_5 (Int.toNat i5_2) k1_1) (Int.toNat i5_2) (IntKind.wrap .i64 (k1_1 + 1))) (Int.toNat i5_2) (IntKind.wrap .i64 ((IntKind.wrap .i64 (k1_1 + 1)) + 1))) (Int.toNat i5_2)).Names.n,
    y132.2.2⟩ : (Sl Int))))) else none)))))) else (k0 k1_1 of0_5))
def F_laws_markVipS_U (fu : Nat) (a_0_0 : Nat) (k_1 : Int) (dn0 : Nat) (dp0 : Nat) (df0 : (Nat → S_impl_Vip)) : Option (Int × Nat × Nat × (Nat → S_impl_Vip)) :=
  (L (fun w0 go0 => F_laws_markVipS_U_B0 fu a_0_0 dn0 dp0 (fun z133 z134 => (some (z133, dn0, dp0, z134))) w0.1 w0.2.1 w0.2.2 (fun q0 q1 q2 => go0 (q0, q1, q2))) fu ((k_1, 0, df0) : Int × Int × (Nat → S_impl_Vip)))
def pcx_b4 (fu : Nat) (f : Nat) (xs : List (D RT den)) (ins : List (Ob RT den)) : Option (OutX RT den) := match f with | 122 => S_b3 fu xs ins | _ => none
def pcd_b4 : Nat → Bool := fun f => match f with | 122 => true | _ => false
def pc_b4 (fu : Nat) : Pc RT den := ⟨pcf0, fun f => match f with | 122 => true | _ => false, fun f => match f with | 122 => true | _ => false, pcd_b4, pcx_b4 fu⟩
def msk_b4 (b : Nat) : List Nat := match b with | 0 => [2, 3, 4, 6, 7, 8, 9, 10, 11, 12, 13, 14, 15, 16, 17, 18, 19, 20, 21, 22, 23, 24, 25, 26, 27, 28, 29, 30, 31, 32, 33, 34, 35, 36, 37, 38, 39, 40] | 100000 => [0, 2, 3, 5, 6, 7, 8, 9, 10, 11, 12, 13, 14, 15, 16, 17, 18, 19, 20, 21, 22, 23, 24, 25, 26, 27, 28, 29, 30, 31, 32, 33, 34, 35, 36, 37, 38, 39, 40] | _ => []
def ps_b4_0 : List (Pat RT) := [.flat (.os 0), .flat (.int .i64), .flat .q, .flat .q, .flat .q, .flat (.int .i64), .flat .q, .flat .q, .flat .q, .flat .q, .flat .q, .flat .q, .flat .q, .flat .q, .flat .q, .flat .q, .flat .q, .flat .q, .flat .q, .flat .q, .flat .q, .flat .q, .flat .q, .flat .q, .flat .q, .flat .q, .flat .q, .flat .q, .flat .q, .flat .q, .flat .q, .flat .q, .flat .q, .flat .q, .flat .q, .flat .q, .flat .q, .flat .q, .flat .q, .flat .q, .flat .q]
def os_b4_0 : List (OP RT) := [.deep true .impl_Vip]
def conv_b4_0 (r : Raw den ps_b4_0 os_b4_0) : (Nat × Nat × Nat) × (Int × Int × (Nat → S_impl_Vip)) := ((r.1.1, r.2.1.1, r.2.1.2.1), (r.1.2.1, r.1.2.2.2.2.2.1, r.2.1.2.2))
def back_b4_0 (c : Nat × Nat × Nat) (w : Int × Int × (Nat → S_impl_Vip)) : St RT den := ⟨[(.os 0 c.1), (.int .i64 w.1), .q, .q, .q, (.int .i64 w.2.1), .q, .q, .q, .q, .q, .q, .q, .q, .q, .q, .q, .q, .q, .q, .q, .q, .q, .q, .q, .q, .q, .q, .q, .q, .q, .q, .q, .q, .q, .q, .q, .q, .q, .q, .q], [(.deep true .impl_Vip c.2.1 c.2.2 w.2.2)]⟩
def Bk_b4_0 {ρ : Type} (fu : Nat) (c : Nat × Nat × Nat) (k : Ex → St RT den → Option ρ) (w : Int × Int × (Nat → S_impl_Vip)) (go : (Int × Int × (Nat → S_impl_Vip)) → Option ρ) : Option ρ := F_laws_markVipS_U_B0 fu c.1 c.2.1 c.2.2 (fun a0 a1 => k (.exit 0) ⟨[.q, (.int .i64 a0), .q, .q, .q, .q, .q, .q, .q, .q, .q, .q, .q, .q, .q, .q, .q, .q, .q, .q, .q, .q, .q, .q, .q, .q, .q, .q, .q, .q, .q, .q, .q, .q, .q, .q, .q, .q, .q, .q, .q], [(.deep true .impl_Vip c.2.1 c.2.2 a1)]⟩) w.1 w.2.1 w.2.2 (fun q0 q1 q2 => go (q0, q1, q2))
def lp_b4 (fu : Nat) : Lp RT den (Int × Nat × Nat × (Nat → S_impl_Vip)) := fun b s k => match b with | 0 => handle ps_b4_0 os_b4_0 conv_b4_0 (Bk_b4_0 fu) fu s k | _ => none
def pso_b4 : List (Pat RT) := [.flat (.int .i64)]
def oso_b4 : List (OP RT) := [.deep true .impl_Vip]
def conv_b4 (r : Raw den pso_b4 oso_b4) : Int × Nat × Nat × (Nat → S_impl_Vip) := (r.1.1, r.2.1.1, r.2.1.2.1, r.2.1.2.2)
def enc_b4 (y : Int × Nat × Nat × (Nat → S_impl_Vip)) : D RT den × List (Ob RT den) := ((.int .i64 y.1), [(.deep true .impl_Vip y.2.1 y.2.2.1 y.2.2.2)])
def out_b4 (d : D RT den) (os : List (Ob RT den)) : Option (Int × Nat × Nat × (Nat → S_impl_Vip)) := (unSt pso_b4 oso_b4 ⟨[d], os⟩).bind fun v => some (conv_b4 v.1)
theorem out_b4_enc (d : D RT den) (os : List (Ob RT den)) (y : Int × Nat × Nat × (Nat → S_impl_Vip)) (h : out_b4 d os = some y) : d = (enc_b4 y).1 ∧ os = (enc_b4 y).2 :=
  outM (conv := conv_b4) (enc := enc_b4) (fun raw => by kernel_rfl) h
theorem ev_b4 (fu : Nat) (a_0_0 : Nat) (k_1 : Int) (dn0 : Nat) (dp0 : Nat) (df0 : (Nat → S_impl_Vip)) : evFunU E (pc_b4 fu) msk_b4 (lp_b4 fu) out_b4 79 [(.os 0 a_0_0), (.int .i64 k_1)] [(.deep true .impl_Vip dn0 dp0 df0)] = F_laws_markVipS_U fu a_0_0 k_1 dn0 dp0 df0 := by kernel_rfl
noncomputable def body_b4 : Code := Try.f79.body.getD .skip
noncomputable def lc_b4_0 : Code := ((loops 0 body_b4).getD 0 (0, .skip)).2
theorem round_b4_0 (fu : Nat) (it : St RT den → Option (Int × Nat × Nat × (Nat → S_impl_Vip))) (k : Ex → St RT den → Option (Int × Nat × Nat × (Nat → S_impl_Vip))) c w : evCode E (pc_b4 fu) msk_b4 (lp_b4 fu) 0 lc_b4_0 (back_b4_0 c w) (after (msk_b4 0) (msk_b4 100000) 1 it k) = Bk_b4_0 fu c k w (fun w => it (back_b4_0 c w)) := by kernel_rfl
theorem lpok_b4_0 (fu : Nat) : ∀ s k r, lp_b4 fu 0 s k = some r → ∃ fuel, iter (msk_b4 0) (msk_b4 100000) s.objs.length (evCode E (pc_b4 fu) msk_b4 (lp_b4 fu) 0 lc_b4_0) fuel s k = some r :=
  handle_ok (ps := ps_b4_0) (os := os_b4_0) (conv := conv_b4_0) (B := Bk_b4_0 fu) (fu := fu) back_b4_0 (fun raw => by kernel_rfl) 1 (fun c w => by kernel_rfl) (round_b4_0 fu)
theorem lpok_b4 (fu : Nat) : LpOk E (pc_b4 fu) msk_b4 (lp_b4 fu) (loops 0 body_b4) := loop_all 1 (by kernel_rfl) fun i hi => match i, hi with
  | 0, _ => by
    have h : (loops 0 body_b4).getD 0 (0, .skip) = (0, lc_b4_0) := by kernel_rfl
    rw [h]; exact lpok_b4_0 fu
  | i + 1, hi => absurd hi (by omega)
def S_b4 (fu : Nat) (xs : List (D RT den)) (ins : List (Ob RT den)) : Option (OutX RT den) := match xs, ins with | [.os 0 a0_0, .int .i64 a1_0], [.deep true .impl_Vip dn0 dp0 df0] => some ⟨Int × Nat × Nat × (Nat → S_impl_Vip), F_laws_markVipS_U fu a0_0 a1_0 dn0 dp0 df0, enc_b4⟩ | _, _ => none
theorem hpx_b4 (fu : Nat) : ∀ f xs ins o, pcx_b4 fu f xs ins = some o → ∀ y, o.x = some y → GoodXD E Try.prog (pcd_b4 f) f xs ins (o.g y).1 (o.g y).2 := by
  intro f xs ins o h
  unfold pcx_b4 at h
  split at h
  · exact good_b3 fu xs ins o h
  · cases h
theorem goodv_b4 (fu : Nat) (a_0_0 : Nat) (k_1 : Int) (dn0 : Nat) (dp0 : Nat) (df0 : (Nat → S_impl_Vip)) (y : Int × Nat × Nat × (Nat → S_impl_Vip)) (hy : F_laws_markVipS_U fu a_0_0 k_1 dn0 dp0 df0 = some y) : GoodD E Try.prog 79 [(.os 0 a_0_0), (.int .i64 k_1)] [(.deep true .impl_Vip dn0 dp0 df0)] (enc_b4 y).1 (enc_b4 y).2 :=
  funU_good E_ok (pc_good (pc := pc_b4 fu) hpc0 (hpx_b4 fu)) (fn := Try.f79) (c := body_b4) (out := out_b4) (y := y) (by kernel_rfl) (by kernel_rfl) (by kernel_rfl) (lpok_b4 fu) (by kernel_rfl) (Nat.le_of_ble_eq_true (by kernel_rfl)) (Fulls.get 1 trivial) (fun d os hd => out_b4_enc d os _ hd) ((ev_b4 fu a_0_0 k_1 dn0 dp0 df0).trans hy)
theorem good_b4 (fu : Nat) : ∀ xs ins o, S_b4 fu xs ins = some o → ∀ y, o.x = some y → GoodD E Try.prog 79 xs ins (o.g y).1 (o.g y).2 := by
  intro xs ins o h y hy
  unfold S_b4 at h
  split at h
  · rename_i a0_0 a1_0 dn0 dp0 df0
    cases h
    exact goodv_b4 fu a0_0 a1_0 dn0 dp0 df0 y hy
  · cases h

/-! laws.markConfig -/
def F_laws_markConfig_U (fu : Nat) (a_0_0 : Int) (a_0_1 : Nat) (a_0_2 : Nat) (k_1 : Int) (rn0 : Nat) (rf0 : (Nat → S_impl_Backend)) (dn1 : Nat) (dp1 : Nat) (df1 : (Nat → S_impl_Vip)) : Option (Int × Nat × (Nat → S_impl_Backend) × Nat × Nat × (Nat → S_impl_Vip)) :=
  ((F_laws_markBackendS_U fu a_0_1 k_1 rn0 rf0).bind fun y129 => ((F_laws_markVipS_U fu a_0_2 y129.1 dn1 dp1 df1).bind fun y135 => (some (y135.1, y129.2.1, y129.2.2, y135.2.1,
    y135.2.2.1, y135.2.2.2))))
def pcx_b5 (fu : Nat) (f : Nat) (xs : List (D RT den)) (ins : List (Ob RT den)) : Option (OutX RT den) := match f with | 78 => S_b2 fu xs ins | 79 => S_b4 fu xs ins | _ => none
def pcd_b5 : Nat → Bool := fun f => match f with | 78 => true | 79 => true | _ => false
def pc_b5 (fu : Nat) : Pc RT den := ⟨pcf0, fun f => match f with | 78 => true | 79 => true | _ => false, fun f => match f with | 78 => true | 79 => true | _ => false, pcd_b5, pcx_b5 fu⟩
def msk_b5 (b : Nat) : List Nat := []
def lp_b5 (fu : Nat) : Lp RT den (Int × Nat × (Nat → S_impl_Backend) × Nat × Nat × (Nat → S_impl_Vip)) := fun b s k => none
def pso_b5 : List (Pat RT) := [.flat (.int .i64)]
def oso_b5 : List (OP RT) := [.row true .impl_Backend, .deep true .impl_Vip]
def conv_b5 (r : Raw den pso_b5 oso_b5) : Int × Nat × (Nat → S_impl_Backend) × Nat × Nat × (Nat → S_impl_Vip) := (r.1.1, r.2.1.1, r.2.1.2, r.2.2.1.1, r.2.2.1.2.1, r.2.2.1.2.2)
def enc_b5 (y : Int × Nat × (Nat → S_impl_Backend) × Nat × Nat × (Nat → S_impl_Vip)) : D RT den × List (Ob RT den) := ((.int .i64 y.1), [(.row true .impl_Backend y.2.1 y.2.2.1), (.deep true .impl_Vip y.2.2.2.1 y.2.2.2.2.1 y.2.2.2.2.2)])
def out_b5 (d : D RT den) (os : List (Ob RT den)) : Option (Int × Nat × (Nat → S_impl_Backend) × Nat × Nat × (Nat → S_impl_Vip)) := (unSt pso_b5 oso_b5 ⟨[d], os⟩).bind fun v => some (conv_b5 v.1)
theorem out_b5_enc (d : D RT den) (os : List (Ob RT den)) (y : Int × Nat × (Nat → S_impl_Backend) × Nat × Nat × (Nat → S_impl_Vip)) (h : out_b5 d os = some y) : d = (enc_b5 y).1 ∧ os = (enc_b5 y).2 :=
  outM (conv := conv_b5) (enc := enc_b5) (fun raw => by kernel_rfl) h
theorem ev_b5 (fu : Nat) (a_0_0 : Int) (a_0_1 : Nat) (a_0_2 : Nat) (k_1 : Int) (rn0 : Nat) (rf0 : (Nat → S_impl_Backend)) (dn1 : Nat) (dp1 : Nat) (df1 : (Nat → S_impl_Vip)) : evFunU E (pc_b5 fu) msk_b5 (lp_b5 fu) out_b5 25 [(.agg [(.int .i64 a_0_0), (.os 0 a_0_1), (.os 1 a_0_2)]), (.int .i64 k_1)] [(.row true .impl_Backend rn0 rf0), (.deep true .impl_Vip dn1 dp1 df1)] = F_laws_markConfig_U fu a_0_0 a_0_1 a_0_2 k_1 rn0 rf0 dn1 dp1 df1 := by kernel_rfl
noncomputable def body_b5 : Code := Try.f25.body.getD .skip
theorem lpok_b5 (fu : Nat) : LpOk E (pc_b5 fu) msk_b5 (lp_b5 fu) (loops 0 body_b5) := by
  have h : loops 0 body_b5 = [] := by kernel_rfl
  rw [h]; intro p hp; cases hp
def S_b5 (fu : Nat) (xs : List (D RT den)) (ins : List (Ob RT den)) : Option (OutX RT den) := match xs, ins with | [.agg [.int .i64 a0_0, .os 0 a0_1, .os 1 a0_2], .int .i64 a1_0], [.row true .impl_Backend rn0 rf0, .deep true .impl_Vip dn1 dp1 df1] => some ⟨Int × Nat × (Nat → S_impl_Backend) × Nat × Nat × (Nat → S_impl_Vip), F_laws_markConfig_U fu a0_0 a0_1 a0_2 a1_0 rn0 rf0 dn1 dp1 df1, enc_b5⟩ | _, _ => none
theorem hpx_b5 (fu : Nat) : ∀ f xs ins o, pcx_b5 fu f xs ins = some o → ∀ y, o.x = some y → GoodXD E Try.prog (pcd_b5 f) f xs ins (o.g y).1 (o.g y).2 := by
  intro f xs ins o h
  unfold pcx_b5 at h
  split at h
  · exact good_b2 fu xs ins o h
  · exact good_b4 fu xs ins o h
  · cases h
theorem goodv_b5 (fu : Nat) (a_0_0 : Int) (a_0_1 : Nat) (a_0_2 : Nat) (k_1 : Int) (rn0 : Nat) (rf0 : (Nat → S_impl_Backend)) (dn1 : Nat) (dp1 : Nat) (df1 : (Nat → S_impl_Vip)) (y : Int × Nat × (Nat → S_impl_Backend) × Nat × Nat × (Nat → S_impl_Vip)) (hy : F_laws_markConfig_U fu a_0_0 a_0_1 a_0_2 k_1 rn0 rf0 dn1 dp1 df1 = some y) : GoodD E Try.prog 25 [(.agg [(.int .i64 a_0_0), (.os 0 a_0_1), (.os 1 a_0_2)]), (.int .i64 k_1)] [(.row true .impl_Backend rn0 rf0), (.deep true .impl_Vip dn1 dp1 df1)] (enc_b5 y).1 (enc_b5 y).2 :=
  funU_good E_ok (pc_good (pc := pc_b5 fu) hpc0 (hpx_b5 fu)) (fn := Try.f25) (c := body_b5) (out := out_b5) (y := y) (by kernel_rfl) (by kernel_rfl) (by kernel_rfl) (lpok_b5 fu) (by kernel_rfl) (Nat.le_of_ble_eq_true (by kernel_rfl)) (Fulls.get 2 trivial) (fun d os hd => out_b5_enc d os _ hd) ((ev_b5 fu a_0_0 a_0_1 a_0_2 k_1 rn0 rf0 dn1 dp1 df1).trans hy)
theorem good_b5 (fu : Nat) : ∀ xs ins o, S_b5 fu xs ins = some o → ∀ y, o.x = some y → GoodD E Try.prog 25 xs ins (o.g y).1 (o.g y).2 := by
  intro xs ins o h y hy
  unfold S_b5 at h
  split at h
  · rename_i a0_0 a0_1 a0_2 a1_0 rn0 rf0 dn1 dp1 df1
    cases h
    exact goodv_b5 fu a0_0 a0_1 a0_2 a1_0 rn0 rf0 dn1 dp1 df1 y hy
  · cases h

/-! laws.markCmdS -/
def F_laws_markCmdS_U_B0 {ρ : Type} (fu : Nat) (a0_0 : Nat) (on0_3 : Nat) (k0 : Int → (Nat → S_impl_Cmd) → Option ρ) (k1_1 : Int) (i5_2 : Int) (of0_4 : (Nat → S_impl_Cmd)) (go : Int → Int → (Nat → S_impl_Cmd) → Option ρ) : Option ρ :=
  (bif (decide (i5_2 < ((a0_0 : Nat) : Int))) then ((bif (decide (0 ≤ i5_2) && decide ((Int.toNat i5_2) < a0_0)) then some () else none : Option Unit).bind fun _ => ((bif (decide (0 ≤ i5_2) &&
    decide ((Int.toNat i5_2) < a0_0)) then some () else none : Option Unit).bind fun _ => ((bif (decide (0 ≤ i5_2) && decide ((Int.toNat i5_2) < a0_0)) then some () else none : Option Unit).bind fun _ =>
    ((bif (decide (0 ≤ i5_2) && decide ((Int.toNat i5_2) < a0_0)) then some () else none : Option Unit).bind fun _ => ((bif (decide (0 ≤ i5_2) && decide ((Int.toNat i5_2) < a0_0)) then
    some () else none : Option Unit).bind fun _ => ((bif (decide (0 ≤ i5_2) && decide ((Int.toNat i5_2) < a0_0)) then some () else none : Option Unit).bind fun _ => (go (IntKind.wrap .i64 ((IntKind.wrap .i64 ((IntKind.wrap .i64 ((IntKind.wrap .i64 ((IntKind.wrap .i64 ((IntKind.wrap .i64 (k1_1 + 1)) + 1)) + 1)) + 1)) + 1)) + 1)) (IntKind.wrap .i64 (i5_2 + 1)) (upd_impl_Cmd_5_1 (upd_impl_Cmd_4_1 (upd_impl_Cmd_3_1 (upd_impl_Cmd_2_1 (upd_impl_Cmd_1_1 (upd_impl_Cmd_0_1 of0_4 (Int.toNat i5_2) k1_1) (Int.toNat i5_2) (IntKind.wrap .i64 (k1_1 + 1))) (Int.toNat i5_2) (IntKind.wrap .i64 ((IntKind.wrap .i64 (k1_1 + 1)) + 1))) (Int.toNat i5_2) (IntKind.wrap .i64 ((IntKind.wrap .i64 ((IntKind.wrap .i64 (k1_1 + 1)) + 1)) + 1))) (Int.toNat i5_2) (IntKind.wrap .i64 ((IntKind.wrap .i64 ((IntKind.wrap .i64 ((IntKind.wrap .i64 (k1_1 + 1)) + 1)) + 1)) + 1))) (Int.toNat i5_2) (IntKind.wrap .i64 ((IntKind.wrap .i64 ((IntKind.wrap .i64 ((IntKind.wrap .i64 ((IntKind.wrap .i64 (k1_1 + 1)) + 1)) + 1)) + 1)) + 1)))))))))) else
    (k0 k1_1 of0_4))
def F_laws_markCmdS_U (fu : Nat) (a_0_0 : Nat) (k_1 : Int) (rn0 : Nat) (rf0 : (Nat → S_impl_Cmd)) : Option (Int × Nat × (Nat → S_impl_Cmd)) :=
  (L (fun w0 go0 => F_laws_markCmdS_U_B0 fu a_0_0 rn0 (fun z140 z141 => (some (z140, rn0, z141))) w0.1 w0.2.1 w0.2.2 (fun q0 q1 q2 => go0 (q0, q1, q2))) fu ((k_1, 0, rf0) : Int × Int × (Nat → S_impl_Cmd)))
def pc_b6 (fu : Nat) : Pc RT den := ⟨pcf0, fun _ => false, fun _ => false, pcd0, pcx0⟩
def msk_b6 (b : Nat) : List Nat := match b with | 0 => [2, 3, 4, 6, 7, 8, 9, 10, 11, 12, 13, 14, 15, 16, 17, 18, 19, 20, 21, 22, 23, 24, 25, 26, 27, 28, 29, 30, 31, 32, 33, 34, 35, 36, 37, 38, 39, 40, 41, 42, 43, 44, 45, 46, 47, 48, 49, 50, 51, 52, 53, 54] | 100000 => [0, 2, 3, 5, 6, 7, 8, 9, 10, 11, 12, 13, 14, 15, 16, 17, 18, 19, 20, 21, 22, 23, 24, 25, 26, 27, 28, 29, 30, 31, 32, 33, 34, 35, 36, 37, 38, 39, 40, 41, 42, 43, 44, 45, 46, 47, 48, 49, 50, 51, 52, 53, 54] | _ => []
def ps_b6_0 : List (Pat RT) := [.flat (.os 0), .flat (.int .i64), .flat .q, .flat .q, .flat .q, .flat (.int .i64), .flat .q, .flat .q, .flat .q, .flat .q, .flat .q, .flat .q, .flat .q, .flat .q, .flat .q, .flat .q, .flat .q, .flat .q, .flat .q, .flat .q, .flat .q, .flat .q, .flat .q, .flat .q, .flat .q, .flat .q, .flat .q, .flat .q, .flat .q, .flat .q, .flat .q, .flat .q, .flat .q, .flat .q, .flat .q, .flat .q, .flat .q, .flat .q, .flat .q, .flat .q, .flat .q, .flat .q, .flat .q, .flat .q, .flat .q, .flat .q, .flat .q, .flat .q, .flat .q, .flat .q, .flat .q, .flat .q, .flat .q, .flat .q, .flat .q]
def os_b6_0 : List (OP RT) := [.row true .impl_Cmd]
def conv_b6_0 (r : Raw den ps_b6_0 os_b6_0) : (Nat × Nat) × (Int × Int × (Nat → S_impl_Cmd)) := ((r.1.1, r.2.1.1), (r.1.2.1, r.1.2.2.2.2.2.1, r.2.1.2))
def back_b6_0 (c : Nat × Nat) (w : Int × Int × (Nat → S_impl_Cmd)) : St RT den := ⟨[(.os 0 c.1), (.int .i64 w.1), .q, .q, .q, (.int .i64 w.2.1), .q, .q, .q, .q, .q, .q, .q, .q, .q, .q, .q, .q, .q, .q, .q, .q, .q, .q, .q, .q, .q, .q, .q, .q, .q, .q, .q, .q, .q, .q, .q, .q, .q, .q, .q, .q, .q, .q, .q, .q, .q, .q, .q, .q, .q, .q, .q, .q, .q], [(.row true .impl_Cmd c.2 w.2.2)]⟩
def Bk_b6_0 {ρ : Type} (fu : Nat) (c : Nat × Nat) (k : Ex → St RT den → Option ρ) (w : Int × Int × (Nat → S_impl_Cmd)) (go : (Int × Int × (Nat → S_impl_Cmd)) → Option ρ) : Option ρ := F_laws_markCmdS_U_B0 fu c.1 c.2 (fun a0 a1 => k (.exit 0) ⟨[.q, (.int .i64 a0), .q, .q, .q, .q, .q, .q, .q, .q, .q, .q, .q, .q, .q, .q, .q, .q, .q, .q, .q, .q, .q, .q, .q, .q, .q, .q, .q, .q, .q, .q, .q, .q, .q, .q, .q, .q, .q, .q, .q, .q, .q, .q, .q, .q, .q, .q, .q, .q, .q, .q, .q, .q, .q], [(.row true .impl_Cmd c.2 a1)]⟩) w.1 w.2.1 w.2.2 (fun q0 q1 q2 => go (q0, q1, q2))
def lp_b6 (fu : Nat) : Lp RT den (Int × Nat × (Nat → S_impl_Cmd)) := fun b s k => match b with | 0 => handle ps_b6_0 os_b6_0 conv_b6_0 (Bk_b6_0 fu) fu s k | _ => none
def pso_b6 : List (Pat RT) := [.flat (.int .i64)]
def oso_b6 : List (OP RT) := [.row true .impl_Cmd]
def conv_b6 (r : Raw den pso_b6 oso_b6) : Int × Nat × (Nat → S_impl_Cmd) := (r.1.1, r.2.1.1, r.2.1.2)
def enc_b6 (y : Int × Nat × (Nat → S_impl_Cmd)) : D RT den × List (Ob RT den) := ((.int .i64 y.1), [(.row true .impl_Cmd y.2.1 y.2.2)])
def out_b6 (d : D RT den) (os : List (Ob RT den)) : Option (Int × Nat × (Nat → S_impl_Cmd)) := (unSt pso_b6 oso_b6 ⟨[d], os⟩).bind fun v => some (conv_b6 v.1)
theorem out_b6_enc (d : D RT den) (os : List (Ob RT den)) (y : Int × Nat × (Nat → S_impl_Cmd)) (h : out_b6 d os = some y) : d = (enc_b6 y).1 ∧ os = (enc_b6 y).2 :=
  outM (conv := conv_b6) (enc := enc_b6) (fun raw => by kernel_rfl) h
theorem ev_b6 (fu : Nat) (a_0_0 : Nat) (k_1 : Int) (rn0 : Nat) (rf0 : (Nat → S_impl_Cmd)) : evFunU E (pc_b6 fu) msk_b6 (lp_b6 fu) out_b6 80 [(.os 0 a_0_0), (.int .i64 k_1)] [(.row true .impl_Cmd rn0 rf0)] = F_laws_markCmdS_U fu a_0_0 k_1 rn0 rf0 := by kernel_rfl
noncomputable def body_b6 : Code := Try.f80.body.getD .skip
noncomputable def lc_b6_0 : Code := ((loops 0 body_b6).getD 0 (0, .skip)).2
theorem round_b6_0 (fu : Nat) (it : St RT den → Option (Int × Nat × (Nat → S_impl_Cmd))) (k : Ex → St RT den → Option (Int × Nat × (Nat → S_impl_Cmd))) c w : evCode E (pc_b6 fu) msk_b6 (lp_b6 fu) 0 lc_b6_0 (back_b6_0 c w) (after (msk_b6 0) (msk_b6 100000) 1 it k) = Bk_b6_0 fu c k w (fun w => it (back_b6_0 c w)) := by kernel_rfl
theorem lpok_b6_0 (fu : Nat) : ∀ s k r, lp_b6 fu 0 s k = some r → ∃ fuel, iter (msk_b6 0) (msk_b6 100000) s.objs.length (evCode E (pc_b6 fu) msk_b6 (lp_b6 fu) 0 lc_b6_0) fuel s k = some r :=
  handle_ok (ps := ps_b6_0) (os := os_b6_0) (conv := conv_b6_0) (B := Bk_b6_0 fu) (fu := fu) back_b6_0 (fun raw => by kernel_rfl) 1 (fun c w => by kernel_rfl) (round_b6_0 fu)
theorem lpok_b6 (fu : Nat) : LpOk E (pc_b6 fu) msk_b6 (lp_b6 fu) (loops 0 body_b6) := loop_all 1 (by kernel_rfl) fun i hi => match i, hi with
  | 0, _ => by
    have h : (loops 0 body_b6).getD 0 (0, .skip) = (0, lc_b6_0) := by kernel_rfl
    rw [h]; exact lpok_b6_0 fu
  | i + 1, hi => absurd hi (by omega)
def S_b6 (fu : Nat) (xs : List (D RT den)) (ins : List (Ob RT den)) : Option (OutX RT den) := match xs, ins with | [.os 0 a0_0, .int .i64 a1_0], [.row true .impl_Cmd rn0 rf0] => some ⟨Int × Nat × (Nat → S_impl_Cmd), F_laws_markCmdS_U fu a0_0 a1_0 rn0 rf0, enc_b6⟩ | _, _ => none
theorem goodv_b6 (fu : Nat) (a_0_0 : Nat) (k_1 : Int) (rn0 : Nat) (rf0 : (Nat → S_impl_Cmd)) (y : Int × Nat × (Nat → S_impl_Cmd)) (hy : F_laws_markCmdS_U fu a_0_0 k_1 rn0 rf0 = some y) : GoodD E Try.prog 80 [(.os 0 a_0_0), (.int .i64 k_1)] [(.row true .impl_Cmd rn0 rf0)] (enc_b6 y).1 (enc_b6 y).2 :=
  funU_good E_ok (pc_good (pc := pc_b6 fu) hpc0 hpx0) (fn := Try.f80) (c := body_b6) (out := out_b6) (y := y) (by kernel_rfl) (by kernel_rfl) (by kernel_rfl) (lpok_b6 fu) (by kernel_rfl) (Nat.le_of_ble_eq_true (by kernel_rfl)) (Fulls.get 1 trivial) (fun d os hd => out_b6_enc d os _ hd) ((ev_b6 fu a_0_0 k_1 rn0 rf0).trans hy)
theorem good_b6 (fu : Nat) : ∀ xs ins o, S_b6 fu xs ins = some o → ∀ y, o.x = some y → GoodD E Try.prog 80 xs ins (o.g y).1 (o.g y).2 := by
  intro xs ins o h y hy
  unfold S_b6 at h
  split at h
  · rename_i a0_0 a1_0 rn0 rf0
    cases h
    exact goodv_b6 fu a0_0 a1_0 rn0 rf0 y hy
  · cases h

/-! laws.markUpdate -/
def F_laws_markUpdate_U (fu : Nat) (a_0_0 : Int) (a_0_1 : Int) (a_0_2 : Bool) (a_0_3 : Int) (a_0_4 : Nat) (a_0_5 : Nat) (a_0_6 : Nat) (k_1 : Int) (rn0 : Nat) (rf0 : (Nat → S_impl_Backend)) (dn1 : Nat) (dp1 : Nat) (df1 : (Nat → S_impl_Vip)) (rn2 : Nat) (rf2 : (Nat → S_impl_Cmd)) : Option (Int × Nat × (Nat → S_impl_Backend) × Nat × Nat × (Nat → S_impl_Vip) × Nat × (Nat → S_impl_Cmd)) :=
  ((F_laws_markConfig_U fu a_0_3 a_0_4 a_0_5 k_1 rn0 rf0 dn1 dp1 df1).bind fun y139 => ((F_laws_markCmdS_U fu a_0_6 y139.1 rn2 rf2).bind fun y142 => (some (y142.1, y139.2.1,
    y139.2.2.1, y139.2.2.2.1, y139.2.2.2.2.1, y139.2.2.2.2.2, y142.2.1, y142.2.2))))
def pcx_b7 (fu : Nat) (f : Nat) (xs : List (D RT den)) (ins : List (Ob RT den)) : Option (OutX RT den) := match f with | 25 => S_b5 fu xs ins | 80 => S_b6 fu xs ins | _ => none
def pcd_b7 : Nat → Bool := fun f => match f with | 25 => true | 80 => true | _ => false
def pc_b7 (fu : Nat) : Pc RT den := ⟨pcf0, fun f => match f with | 25 => true | 80 => true | _ => false, fun f => match f with | 25 => true | 80 => true | _ => false, pcd_b7, pcx_b7 fu⟩
def msk_b7 (b : Nat) : List Nat := []
def lp_b7 (fu : Nat) : Lp RT den (Int × Nat × (Nat → S_impl_Backend) × Nat × Nat × (Nat → S_impl_Vip) × Nat × (Nat → S_impl_Cmd)) := fun b s k => none
def pso_b7 : List (Pat RT) := [.flat (.int .i64)]
def oso_b7 : List (OP RT) := [.row true .impl_Backend, .deep true .impl_Vip, .row true .impl_Cmd]
def conv_b7 (r : Raw den pso_b7 oso_b7) : Int × Nat × (Nat → S_impl_Backend) × Nat × Nat × (Nat → S_impl_Vip) × Nat × (Nat → S_impl_Cmd) := (r.1.1, r.2.1.1, r.2.1.2, r.2.2.1.1, r.2.2.1.2.1, r.2.2.1.2.2, r.2.2.2.1.1, r.2.2.2.1.2)
def enc_b7 (y : Int × Nat × (Nat → S_impl_Backend) × Nat × Nat × (Nat → S_impl_Vip) × Nat × (Nat → S_impl_Cmd)) : D RT den × List (Ob RT den) := ((.int .i64 y.1), [(.row true .impl_Backend y.2.1 y.2.2.1), (.deep true .impl_Vip y.2.2.2.1 y.2.2.2.2.1 y.2.2.2.2.2.1), (.row true .impl_Cmd y.2.2.2.2.2.2.1 y.2.2.2.2.2.2.2)])
def out_b7 (d : D RT den) (os : List (Ob RT den)) : Option (Int × Nat × (Nat → S_impl_Backend) × Nat × Nat × (Nat → S_impl_Vip) × Nat × (Nat → S_impl_Cmd)) := (unSt pso_b7 oso_b7 ⟨[d], os⟩).bind fun v => some (conv_b7 v.1)
theorem out_b7_enc (d : D RT den) (os : List (Ob RT den)) (y : Int × Nat × (Nat → S_impl_Backend) × Nat × Nat × (Nat → S_impl_Vip) × Nat × (Nat → S_impl_Cmd)) (h : out_b7 d os = some y) : d = (enc_b7 y).1 ∧ os = (enc_b7 y).2 :=
  outM (conv := conv_b7) (enc := enc_b7) (fun raw => by kernel_rfl) h
theorem ev_b7 (fu : Nat) (a_0_0 : Int) (a_0_1 : Int) (a_0_2 : Bool) (a_0_3 : Int) (a_0_4 : Nat) (a_0_5 : Nat) (a_0_6 : Nat) (k_1 : Int) (rn0 : Nat) (rf0 : (Nat → S_impl_Backend)) (dn1 : Nat) (dp1 : Nat) (df1 : (Nat → S_impl_Vip)) (rn2 : Nat) (rf2 : (Nat → S_impl_Cmd)) : evFunU E (pc_b7 fu) msk_b7 (lp_b7 fu) out_b7 85 [(.agg [(.int .i64 a_0_0), (.int .i64 a_0_1), (.bool a_0_2), (.int .i64 a_0_3), (.os 0 a_0_4), (.os 1 a_0_5), (.os 2 a_0_6)]), (.int .i64 k_1)] [(.row true .impl_Backend rn0 rf0), (.deep true .impl_Vip dn1 dp1 df1), (.row true .impl_Cmd rn2 rf2)] = F_laws_markUpdate_U fu a_0_0 a_0_1 a_0_2 a_0_3 a_0_4 a_0_5 a_0_6 k_1 rn0 rf0 dn1 dp1 df1 rn2 rf2 := by kernel_rfl
noncomputable def body_b7 : Code := Try.f85.body.getD .skip
theorem lpok_b7 (fu : Nat) : LpOk E (pc_b7 fu) msk_b7 (lp_b7 fu) (loops 0 body_b7) := by
  have h : loops 0 body_b7 = [] := by kernel_rfl
  rw [h]; intro p hp; cases hp
def S_b7 (fu : Nat) (xs : List (D RT den)) (ins : List (Ob RT den)) : Option (OutX RT den) := match xs, ins with | [.agg [.int .i64 a0_0, .int .i64 a0_1, .bool a0_2, .int .i64 a0_3, .os 0 a0_4, .os 1 a0_5, .os 2 a0_6], .int .i64 a1_0], [.row true .impl_Backend rn0 rf0, .deep true .impl_Vip dn1 dp1 df1, .row true .impl_Cmd rn2 rf2] => some ⟨Int × Nat × (Nat → S_impl_Backend) × Nat × Nat × (Nat → S_impl_Vip) × Nat × (Nat → S_impl_Cmd), F_laws_markUpdate_U fu a0_0 a0_1 a0_2 a0_3 a0_4 a0_5 a0_6 a1_0 rn0 rf0 dn1 dp1 df1 rn2 rf2, enc_b7⟩ | _, _ => none
theorem hpx_b7 (fu : Nat) : ∀ f xs ins o, pcx_b7 fu f xs ins = some o → ∀ y, o.x = some y → GoodXD E Try.prog (pcd_b7 f) f xs ins (o.g y).1 (o.g y).2 := by
  intro f xs ins o h
  unfold pcx_b7 at h
  split at h
  · exact good_b5 fu xs ins o h
  · exact good_b6 fu xs ins o h
  · cases h
theorem goodv_b7 (fu : Nat) (a_0_0 : Int) (a_0_1 : Int) (a_0_2 : Bool) (a_0_3 : Int) (a_0_4 : Nat) (a_0_5 : Nat) (a_0_6 : Nat) (k_1 : Int) (rn0 : Nat) (rf0 : (Nat → S_impl_Backend)) (dn1 : Nat) (dp1 : Nat) (df1 : (Nat → S_impl_Vip)) (rn2 : Nat) (rf2 : (Nat → S_impl_Cmd)) (y : Int × Nat × (Nat → S_impl_Backend) × Nat × Nat × (Nat → S_impl_Vip) × Nat × (Nat → S_impl_Cmd)) (hy : F_laws_markUpdate_U fu a_0_0 a_0_1 a_0_2 a_0_3 a_0_4 a_0_5 a_0_6 k_1 rn0 rf0 dn1 dp1 df1 rn2 rf2 = some y) : GoodD E Try.prog 85 [(.agg [(.int .i64 a_0_0), (.int .i64 a_0_1), (.bool a_0_2), (.int .i64 a_0_3), (.os 0 a_0_4), (.os 1 a_0_5), (.os 2 a_0_6)]), (.int .i64 k_1)] [(.row true .impl_Backend rn0 rf0), (.deep true .impl_Vip dn1 dp1 df1), (.row true .impl_Cmd rn2 rf2)] (enc_b7 y).1 (enc_b7 y).2 :=
  funU_good E_ok (pc_good (pc := pc_b7 fu) hpc0 (hpx_b7 fu)) (fn := Try.f85) (c := body_b7) (out := out_b7) (y := y) (by kernel_rfl) (by kernel_rfl) (by kernel_rfl) (lpok_b7 fu) (by kernel_rfl) (Nat.le_of_ble_eq_true (by kernel_rfl)) (Fulls.get 3 trivial) (fun d os hd => out_b7_enc d os _ hd) ((ev_b7 fu a_0_0 a_0_1 a_0_2 a_0_3 a_0_4 a_0_5 a_0_6 k_1 rn0 rf0 dn1 dp1 df1 rn2 rf2).trans hy)
theorem good_b7 (fu : Nat) : ∀ xs ins o, S_b7 fu xs ins = some o → ∀ y, o.x = some y → GoodD E Try.prog 85 xs ins (o.g y).1 (o.g y).2 := by
  intro xs ins o h y hy
  unfold S_b7 at h
  split at h
  · rename_i a0_0 a0_1 a0_2 a0_3 a0_4 a0_5 a0_6 a1_0 rn0 rf0 dn1 dp1 df1 rn2 rf2
    cases h
    exact goodv_b7 fu a0_0 a0_1 a0_2 a0_3 a0_4 a0_5 a0_6 a1_0 rn0 rf0 dn1 dp1 df1 rn2 rf2 y hy
  · cases h

/-! laws.markUpdateResult -/
def F_laws_markUpdateResult_U (fu : Nat) (a_0_0 : Int) (a_0_1 : Int) (a_0_2 : Int) (a_0_3 : Bool) (a_0_4 : Int) (a_0_5 : Nat) (a_0_6 : Nat) (a_0_7 : Nat) (k_1 : Int) (rn0 : Nat) (rf0 : (Nat → S_impl_Backend)) (dn1 : Nat) (dp1 : Nat) (df1 : (Nat → S_impl_Vip)) (rn2 : Nat) (rf2 : (Nat → S_impl_Cmd)) : Option (Int × Nat × (Nat → S_impl_Backend) × Nat × Nat × (Nat → S_impl_Vip) × Nat × (Nat → S_impl_Cmd)) :=
  ((F_laws_markUpdate_U fu a_0_1 a_0_2 a_0_3 a_0_4 a_0_5 a_0_6 a_0_7 k_1 rn0 rf0 dn1 dp1 df1 rn2 rf2).bind fun y143 => (some (y143.1, y143.2.1, y143.2.2.1, y143.2.2.2.1,
    y143.2.2.2.2.1, y143.2.2.2.2.2.1, y143.2.2.2.2.2.2.1, y143.2.2.2.2.2.2.2)))
def pcx_b8 (fu : Nat) (f : Nat) (xs : List (D RT den)) (ins : List (Ob RT den)) : Option (OutX RT den) := match f with | 85 => S_b7 fu xs ins | _ => none
def pcd_b8 : Nat → Bool := fun f => match f with | 85 => true | _ => false
def pc_b8 (fu : Nat) : Pc RT den := ⟨pcf0, fun f => match f with | 85 => true | _ => false, fun f => match f with | 85 => true | _ => false, pcd_b8, pcx_b8 fu⟩
def msk_b8 (b : Nat) : List Nat := []
def lp_b8 (fu : Nat) : Lp RT den (Int × Nat × (Nat → S_impl_Backend) × Nat × Nat × (Nat → S_impl_Vip) × Nat × (Nat → S_impl_Cmd)) := fun b s k => none
def pso_b8 : List (Pat RT) := [.flat (.int .i64)]
def oso_b8 : List (OP RT) := [.row true .impl_Backend, .deep true .impl_Vip, .row true .impl_Cmd]
def conv_b8 (r : Raw den pso_b8 oso_b8) : Int × Nat × (Nat → S_impl_Backend) × Nat × Nat × (Nat → S_impl_Vip) × Nat × (Nat → S_impl_Cmd) := (r.1.1, r.2.1.1, r.2.1.2, r.2.2.1.1, r.2.2.1.2.1, r.2.2.1.2.2, r.2.2.2.1.1, r.2.2.2.1.2)
def enc_b8 (y : Int × Nat × (Nat → S_impl_Backend) × Nat × Nat × (Nat → S_impl_Vip) × Nat × (Nat → S_impl_Cmd)) : D RT den × List (Ob RT den) := ((.int .i64 y.1), [(.row true .impl_Backend y.2.1 y.2.2.1), (.deep true .impl_Vip y.2.2.2.1 y.2.2.2.2.1 y.2.2.2.2.2.1), (.row true .impl_Cmd y.2.2.2.2.2.2.1 y.2.2.2.2.2.2.2)])
def out_b8 (d : D RT den) (os : List (Ob RT den)) : Option (Int × Nat × (Nat → S_impl_Backend) × Nat × Nat × (Nat → S_impl_Vip) × Nat × (Nat → S_impl_Cmd)) := (unSt pso_b8 oso_b8 ⟨[d], os⟩).bind fun v => some (conv_b8 v.1)
theorem out_b8_enc (d : D RT den) (os : List (Ob RT den)) (y : Int × Nat × (Nat → S_impl_Backend) × Nat × Nat × (Nat → S_impl_Vip) × Nat × (Nat → S_impl_Cmd)) (h : out_b8 d os = some y) : d = (enc_b8 y).1 ∧ os = (enc_b8 y).2 :=
  outM (conv := conv_b8) (enc := enc_b8) (fun raw => by kernel_rfl) h
theorem ev_b8 (fu : Nat) (a_0_0 : Int) (a_0_1 : Int) (a_0_2 : Int) (a_0_3 : Bool) (a_0_4 : Int) (a_0_5 : Nat) (a_0_6 : Nat) (a_0_7 : Nat) (k_1 : Int) (rn0 : Nat) (rf0 : (Nat → S_impl_Backend)) (dn1 : Nat) (dp1 : Nat) (df1 : (Nat → S_impl_Vip)) (rn2 : Nat) (rf2 : (Nat → S_impl_Cmd)) : evFunU E (pc_b8 fu) msk_b8 (lp_b8 fu) out_b8 32 [(.agg [(.int .i64 a_0_0), (.int .i64 a_0_1), (.int .i64 a_0_2), (.bool a_0_3), (.int .i64 a_0_4), (.os 0 a_0_5), (.os 1 a_0_6), (.os 2 a_0_7)]), (.int .i64 k_1)] [(.row true .impl_Backend rn0 rf0), (.deep true .impl_Vip dn1 dp1 df1), (.row true .impl_Cmd rn2 rf2)] = F_laws_markUpdateResult_U fu a_0_0 a_0_1 a_0_2 a_0_3 a_0_4 a_0_5 a_0_6 a_0_7 k_1 rn0 rf0 dn1 dp1 df1 rn2 rf2 := by kernel_rfl
noncomputable def body_b8 : Code := Try.f32.body.getD .skip
theorem lpok_b8 (fu : Nat) : LpOk E (pc_b8 fu) msk_b8 (lp_b8 fu) (loops 0 body_b8) := by
  have h : loops 0 body_b8 = [] := by kernel_rfl
  rw [h]; intro p hp; cases hp
def S_b8 (fu : Nat) (xs : List (D RT den)) (ins : List (Ob RT den)) : Option (OutX RT den) := match xs, ins with | [.agg [.int .i64 a0_0, .int .i64 a0_1, .int .i64 a0_2, .bool a0_3, .int .i64 a0_4, .os 0 a0_5, .os 1 a0_6, .os 2 a0_7], .int .i64 a1_0], [.row true .impl_Backend rn0 rf0, .deep true .impl_Vip dn1 dp1 df1, .row true .impl_Cmd rn2 rf2] => some ⟨Int × Nat × (Nat → S_impl_Backend) × Nat × Nat × (Nat → S_impl_Vip) × Nat × (Nat → S_impl_Cmd), F_laws_markUpdateResult_U fu a0_0 a0_1 a0_2 a0_3 a0_4 a0_5 a0_6 a0_7 a1_0 rn0 rf0 dn1 dp1 df1 rn2 rf2, enc_b8⟩ | _, _ => none
theorem hpx_b8 (fu : Nat) : ∀ f xs ins o, pcx_b8 fu f xs ins = some o → ∀ y, o.x = some y → GoodXD E Try.prog (pcd_b8 f) f xs ins (o.g y).1 (o.g y).2 := by
  intro f xs ins o h
  unfold pcx_b8 at h
  split at h
  · exact good_b7 fu xs ins o h
  · cases h
theorem goodv_b8 (fu : Nat) (a_0_0 : Int) (a_0_1 : Int) (a_0_2 : Int) (a_0_3 : Bool) (a_0_4 : Int) (a_0_5 : Nat) (a_0_6 : Nat) (a_0_7 : Nat) (k_1 : Int) (rn0 : Nat) (rf0 : (Nat → S_impl_Backend)) (dn1 : Nat) (dp1 : Nat) (df1 : (Nat → S_impl_Vip)) (rn2 : Nat) (rf2 : (Nat → S_impl_Cmd)) (y : Int × Nat × (Nat → S_impl_Backend) × Nat × Nat × (Nat → S_impl_Vip) × Nat × (Nat → S_impl_Cmd)) (hy : F_laws_markUpdateResult_U fu a_0_0 a_0_1 a_0_2 a_0_3 a_0_4 a_0_5 a_0_6 a_0_7 k_1 rn0 rf0 dn1 dp1 df1 rn2 rf2 = some y) : GoodD E Try.prog 32 [(.agg [(.int .i64 a_0_0), (.int .i64 a_0_1), (.int .i64 a_0_2), (.bool a_0_3), (.int .i64 a_0_4), (.os 0 a_0_5), (.os 1 a_0_6), (.os 2 a_0_7)]), (.int .i64 k_1)] [(.row true .impl_Backend rn0 rf0), (.deep true .impl_Vip dn1 dp1 df1), (.row true .impl_Cmd rn2 rf2)] (enc_b8 y).1 (enc_b8 y).2 :=
  funU_good E_ok (pc_good (pc := pc_b8 fu) hpc0 (hpx_b8 fu)) (fn := Try.f32) (c := body_b8) (out := out_b8) (y := y) (by kernel_rfl) (by kernel_rfl) (by kernel_rfl) (lpok_b8 fu) (by kernel_rfl) (Nat.le_of_ble_eq_true (by kernel_rfl)) (Fulls.get 3 trivial) (fun d os hd => out_b8_enc d os _ hd) ((ev_b8 fu a_0_0 a_0_1 a_0_2 a_0_3 a_0_4 a_0_5 a_0_6 a_0_7 k_1 rn0 rf0 dn1 dp1 df1 rn2 rf2).trans hy)
theorem good_b8 (fu : Nat) : ∀ xs ins o, S_b8 fu xs ins = some o → ∀ y, o.x = some y → GoodD E Try.prog 32 xs ins (o.g y).1 (o.g y).2 := by
  intro xs ins o h y hy
  unfold S_b8 at h
  split at h
  · rename_i a0_0 a0_1 a0_2 a0_3 a0_4 a0_5 a0_6 a0_7 a1_0 rn0 rf0 dn1 dp1 df1 rn2 rf2
    cases h
    exact goodv_b8 fu a0_0 a0_1 a0_2 a0_3 a0_4 a0_5 a0_6 a0_7 a1_0 rn0 rf0 dn1 dp1 df1 rn2 rf2 y hy
  · cases h

/-! laws.szBackendS -/
def F_laws_szBackendS (fu : Nat) (a_0 : (Sl S_impl_Backend)) (left_1 : Int) : Option (Int) :=
  (bif (decide ((IntKind.wrap .i64 (left_1 - ((a_0.n : Nat) : Int))) < 0)) then (some (-1)) else (some (IntKind.wrap .i64 (left_1 - ((a_0.n : Nat) : Int)))))
def pc_b9 (fu : Nat) : Pc RT den := ⟨pcf0, fun _ => false, fun _ => false, pcd0, pcx0⟩
def msk_b9 (b : Nat) : List Nat := []
def lp_b9 (fu : Nat) : Lp RT den (Int) := fun b s k => none
theorem ev_b9 (fu : Nat) (a_0 : (Sl S_impl_Backend)) (left_1 : Int) : evFun E (pc_b9 fu) msk_b9 (lp_b9 fu) out_i64 61 [(.rs a_0.z .impl_Backend a_0.n a_0.f), (.int .i64 left_1)] = F_laws_szBackendS fu a_0 left_1 := by kernel_rfl
noncomputable def body_b9 : Code := Try.f61.body.getD .skip
theorem lpok_b9 (fu : Nat) : LpOk E (pc_b9 fu) msk_b9 (lp_b9 fu) (loops 0 body_b9) := by
  have h : loops 0 body_b9 = [] := by kernel_rfl
  rw [h]; intro p hp; cases hp
def S_b9 (fu : Nat) (xs : List (D RT den)) : Option (Out RT den) := match xs with | [.rs za0_0 .impl_Backend na0_0 fa0_0, .int .i64 a1_0] => some ⟨Int, F_laws_szBackendS fu (⟨za0_0, na0_0, fa0_0⟩ : (Sl S_impl_Backend)) a1_0, enc_i64, fun _ => true⟩ | _ => none
theorem goodv_b9 (fu : Nat) (a_0 : (Sl S_impl_Backend)) (left_1 : Int) (y : Int) (hy : F_laws_szBackendS fu a_0 left_1 = some y) : Good E Try.prog 61 [(.rs a_0.z .impl_Backend a_0.n a_0.f), (.int .i64 left_1)] (enc_i64 y) :=
  fun_good E_ok (pc_good (pc := pc_b9 fu) hpc0 hpx0) (fn := Try.f61) (c := body_b9) (out := out_i64) (y := y) (by kernel_rfl) (by kernel_rfl) (by kernel_rfl) (lpok_b9 fu) (fun d hd => out_i64_enc d _ hd) ((ev_b9 fu a_0 left_1).trans hy)
theorem good_b9 (fu : Nat) : ∀ xs o, S_b9 fu xs = some o → ∀ y, o.x = some y → Good E Try.prog 61 xs (o.g y) := by
  intro xs o h y hy
  unfold S_b9 at h
  split at h
  · rename_i za0_0 na0_0 fa0_0 a1_0
    cases h
    exact goodv_b9 fu (⟨za0_0, na0_0, fa0_0⟩ : (Sl S_impl_Backend)) a1_0 y hy
  · cases h
end Go.Proofs.Ytmnbmponjhglcaa.Pd
