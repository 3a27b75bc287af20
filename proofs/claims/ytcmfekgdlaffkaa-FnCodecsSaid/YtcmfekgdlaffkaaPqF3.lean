/- The functions' evaluated forms, each a proved summary. Conditions: none. -/
import Derived.Test.YtcmfekgdlaffkaaPqF2
namespace Go.Proofs.Ytcmfekgdlaffkaa.Pq
open Go Go.RowKit Go.Proofs Vm
set_option linter.unusedVariables false
set_option linter.unusedSimpArgs false
set_option maxRecDepth 100000
abbrev Yd0 : Type := (Sl S_impl_Vip) × Int × Int × (Sl S_impl_Backend) × (Sl S_impl_Vip)
abbrev Yd1 : Type := (Sl S_impl_Backend) × Int × Int × (Sl S_impl_Backend) × (Sl S_impl_Vip)
abbrev Yd2 : Type := Int × Nat × Nat × (Sl Int) × Int × Nat × (Nat → S_impl_Backend) × Nat × (Nat → S_impl_Vip)
abbrev Yd3 : Type := Int × (Sl Int) × Int × Int × Nat × Nat × Nat × (Nat → S_impl_Backend) × Nat × (Nat → S_impl_Vip)
abbrev Yd4 : Type := Int × (Sl S_impl_Backend) × (Sl S_impl_Vip) × Int × Int × Int × Int × (Sl Int) × Nat × (Nat → Int) × Nat × (Nat → Int)
abbrev Yd5 : Type := (Sl S_impl_Vip) × Int × Int × (Sl Int) × Int × Int × (Sl S_impl_Backend) × (Sl S_impl_Vip) × Int × Int × Int × (Sl Int)
def F_spec_l5Right_M_B0 {ρ : Type} (fu : Nat) (o1_3 : Int) (k0 : (Sl Int) → Int → Int → Nat → Nat → Nat → (Nat → S_impl_Backend) → Nat → (Nat → S_impl_Vip) → Option ρ) (k4_0 : Int) (o0_1 : (Sl Int)) (o0_2 o2_4 : Int) (o2_5 o2_6 on3_7 : Nat) (of3_8 : (Nat → S_impl_Backend)) (on4_9 : Nat) (of4_10 : (Nat → S_impl_Vip)) (go : Int → (Sl Int) → Int → Int → Nat → Nat → Nat → (Nat → S_impl_Backend) → Nat → (Nat → S_impl_Vip) → Option ρ) : Option ρ :=
 (bif (decide (k4_0 > 0)) then ((F_spec_l5Cmd_M fu o0_1 o0_2).bind fun a => ((F_spec_l5Apply_M_3 fu o2_4 o2_5 o2_6 (⟨a.1, a.2.1, a.2.2.1, a.2.2.2.1, a.2.2.2.2.1,
  a.2.2.2.2.2.1⟩ : S_impl_Cmd) on3_7 of3_8 on4_9 of4_10).bind fun b => (bif (b.1 == 0) then (go (IntKind.wrap .i64 (k4_0 - 1)) a.2.2.2.2.2.2.1 a.2.2.2.2.2.2.2 b.2.1 b.2.2.1 b.2.2.2.1 b.2.2.2.2.2.2.2.2.1 b.2.2.2.2.2.2.2.2.2.1 b.2.2.2.2.2.2.2.2.2.2.1 b.2.2.2.2.2.2.2.2.2.2.2) else
  (go (IntKind.wrap .i64 (k4_0 - 1)) a.2.2.2.2.2.2.1 a.2.2.2.2.2.2.2 o2_4 o2_5 o2_6 b.2.2.2.2.1 b.2.2.2.2.2.1 b.2.2.2.2.2.2.1 b.2.2.2.2.2.2.2.1)))) else (k0 o0_1 o0_2 o2_4 o2_5 o2_6 on3_7 of3_8 on4_9 of4_10))
def F_spec_l5Right_M (fu : Nat) (b0_0 : (Sl Int)) (b0_1 : Int) : Option (Yd2) :=
 ((F_spec_l1Next_M fu 24 b0_0 b0_1).bind fun a => (L (fun w0 go0 => F_spec_l5Right_M_B0 fu 0 (fun b d g h j l n o p => (some (g, h, j, b,
  d, h, n, j, p))) w0.1 w0.2.1 w0.2.2.1 w0.2.2.2.1 w0.2.2.2.2.1 w0.2.2.2.2.2.1 w0.2.2.2.2.2.2.1 w0.2.2.2.2.2.2.2.1 w0.2.2.2.2.2.2.2.2.1 w0.2.2.2.2.2.2.2.2.2 (fun q0 q1 q2 q3 q4 q5 q6 q7 q8 q9 =>
  go0 (q0, q1, q2, q3, q4, q5, q6, q7, q8, q9))) fu ((a.1, a.2.1, a.2.2, 0, 0, 0, 0, (fun _ => dflt .impl_Backend), 0, (fun _ => dflt .impl_Vip)) : Yd3)))
def pcx_a18 (fu f : Nat) (xs : List (D RT den)) (ins : List (Ob RT den)) : Option (OutX RT den) := match f with | 43 => S_a6 fu xs ins | 89 => S_a3 fu xs ins | 95 => S_a17 fu xs ins | _ => none
def pcd_a18 : Nat → Bool := fun _ => false
def pc_a18 (fu : Nat) : Pc RT den := ⟨pcf0, fun f => match f with | 43 => true | 89 => true | 95 => true | _ => false, fun f => match f with | 43 => true | 89 => true | 95 => true | _ => false, pcd_a18, fun f => match f with | 43 => true | 89 => true | _ => false, pcd0, pcx_a18 fu⟩
def msk_a18 (b : Nat) : List Nat := match b with | 0 => (1 :: (rg 5 18 [])) | 100000 => (0 :: 1 :: (rg 4 19 [])) | 300000 => [1002001, 1002002] | 500007 => [1003006, 1004007] | _ => []
def ps_a18_0 : List (Pat RT) := (.flat (.ref 0 0) :: .flat .q :: .flat (.ref 1 0) :: .flat (.ref 2 0) :: .flat (.int .i64) :: (fq 18 []))
def os_a18_0 : List (OP RT) := [.box true [(.rs .u8), (.int .i64)], .box false [(.int .i64), (.emp true .impl_Backend), (.emp true .impl_Vip)], .box false [(.int .i64), (.os 3), (.os 4)], .row false .impl_Backend, .row false .impl_Vip]
def conv_a18_0 (r : Raw den ps_a18_0 os_a18_0) : (Int) × (Yd3) := (r.2.2.1.1, (r.1.2.2.2.2.1, r.2.1.1, r.2.1.2.1, r.2.2.2.1.1, r.2.2.2.1.2.1, r.2.2.2.1.2.2.1, r.2.2.2.2.1.1, r.2.2.2.2.1.2, (e5 r).1.1, (e5 r).1.2))
def back_a18_0 (c : Int) (w : Yd3) : St RT den := ⟨((.ref 0 0) :: .q :: (.ref 1 0) :: (.ref 2 0) :: (ii w.1) :: (qs 18 [])), [(.box true [(.rs w.2.1.z .u8 w.2.1.n w.2.1.f), (ii w.2.2.1)]), (.box false [(ii c), (.emp true .impl_Backend), (.emp true .impl_Vip)]), (.box false [(ii w.2.2.2.1), (.os 3 w.2.2.2.2.1), (.os 4 (e5 w).1)]), (.row false .impl_Backend (e5 w).2.1 (e5 w).2.2.1), (.row false .impl_Vip (e5 w).2.2.2.1 (e5 w).2.2.2.2)]⟩
def Bk_a18_0 {ρ : Type} (fu : Nat) (c : Int) (k : Ex → St RT den → Option ρ) (w : Yd3) (go : (Yd3) → Option ρ) : Option ρ := F_spec_l5Right_M_B0 fu c (fun a0 a1 a2 a3 a4 a5 a6 a7 a8 => k (.exit 0) ⟨(.q :: .q :: (.ref 1 0) :: (.ref 2 0) :: (qs 19 [])), [(.box true [(.rs a0.z .u8 a0.n a0.f), (ii a1)]), (.box false [(ii c), (.emp true .impl_Backend), (.emp true .impl_Vip)]), (.box false [(ii a2), (.os 3 a3), (.os 4 a4)]), (.row false .impl_Backend a5 a6), (.row false .impl_Vip a7 a8)]⟩) w.1 w.2.1 w.2.2.1 w.2.2.2.1 w.2.2.2.2.1 (e5 w).1 (e5 w).2.1 (e5 w).2.2.1 (e5 w).2.2.2.1 (e5 w).2.2.2.2 (fun q0 q1 q2 q3 q4 q5 q6 q7 q8 q9 => go (q0, q1, q2, q3, q4, q5, q6, q7, q8, q9))
def lp_a18 (fu : Nat) : Lp RT den (Yd2) := ⟨fun b s k => match b with | 0 => handle ps_a18_0 os_a18_0 conv_a18_0 (Bk_a18_0 fu) fu s k | _ => none, inl0⟩
def pso_a18 : List (Pat RT) := [.agg [(.int .i64), (.os 1), (.os 2)]]
def oso_a18 : List (OP RT) := [.box true [(.rs .u8), (.int .i64)], .row false .impl_Backend, .row false .impl_Vip]
def conv_a18 (r : Raw den pso_a18 oso_a18) : Yd2 := (r.1.1.1, r.1.1.2.1, r.1.1.2.2.1, r.2.1.1, r.2.1.2.1, r.2.2.1.1, r.2.2.1.2, r.2.2.2.1.1, r.2.2.2.1.2)
def enc_a18 (y : Yd2) : D RT den × List (Ob RT den) := ((.agg [(.int .i64 y.1), (.os 1 y.2.1), (.os 2 y.2.2.1)]), [(.box true [(.rs y.2.2.2.1.z .u8 y.2.2.2.1.n y.2.2.2.1.f), (.int .i64 y.2.2.2.2.1)]), (.row false .impl_Backend y.2.2.2.2.2.1 y.2.2.2.2.2.2.1), (.row false .impl_Vip y.2.2.2.2.2.2.2.1 y.2.2.2.2.2.2.2.2)])
def out_a18 (d : D RT den) (os : List (Ob RT den)) : Option (Yd2) := (unSt pso_a18 oso_a18 ⟨[d], os⟩).bind fun v => some (conv_a18 v.1)
theorem out_a18_enc (d : D RT den) (os : List (Ob RT den)) (y : Yd2) (h : out_a18 d os = some y) : d = (enc_a18 y).1 ∧ os = (enc_a18 y).2 :=
 outM (conv := conv_a18) (enc := enc_a18) (fun raw => by kernel_rfl) h
theorem ev_a18 (fu : Nat) (b0_0 : (Sl Int)) (b0_1 : Int) : evFunM E false (pc_a18 fu) msk_a18 (lp_a18 fu) out_a18 46 [(.ref 0 0)] [(.box true [(.rs b0_0.z .u8 b0_0.n b0_0.f), (ii b0_1)])] = F_spec_l5Right_M fu b0_0 b0_1 := by kernel_rfl
noncomputable def body_a18 : Code := Try.f46.body.getD .skip
noncomputable def lc_a18_0 : Code := ((loops 0 body_a18).getD 0 (0, .skip)).2
theorem round_a18_0 (fu : Nat) : RoundOk E (pc_a18 fu) msk_a18 (lp_a18 fu) 0 lc_a18_0 back_a18_0 0 100000 5 (Bk_a18_0 fu) := fun it k c w => by kernel_rfl
theorem lpok_a18_0 (fu : Nat) : LpAt E (pc_a18 fu) msk_a18 (lp_a18 fu) 0 0 100000 0 lc_a18_0 :=
 handle_ok (ps := ps_a18_0) (os := os_a18_0) (conv := conv_a18_0) (B := Bk_a18_0 fu) (fu := fu) back_a18_0 (fun raw => by kernel_rfl) 5 (fun c w => by kernel_rfl) (round_a18_0 fu)
theorem lpok_a18 (fu : Nat) : LpOk E (pc_a18 fu) 0 msk_a18 (lp_a18 fu) (loops 0 body_a18) := lp_nil (loop_all 1 (by kernel_rfl) fun i hi => match i, hi with
 | 0, _ => by
  have h : (loops 0 body_a18).getD 0 (0, .skip) = (0, lc_a18_0) := by kernel_rfl
  rw [h]; exact lpok_a18_0 fu
 | i + 1, hi => absurd hi (by omega)) (by kernel_rfl)
def S_a18 (fu : Nat) (xs : List (D RT den)) (ins : List (Ob RT den)) : Option (OutX RT den) := match xs, ins with | [.ref 0 0], [.box true [.rs za1000_0 .u8 na1000_0 fa1000_0, .int .i64 a1001_0]] => some ⟨Yd2, F_spec_l5Right_M fu (⟨za1000_0, na1000_0, fa1000_0⟩ : (Sl Int)) a1001_0, enc_a18⟩ | _, _ => none
theorem hpx_a18 (fu : Nat) : HpxOk E Try.prog pcd_a18 pcd0 (pcx_a18 fu) := by
 intro f xs ins o h
 unfold pcx_a18 at h
 split at h
 ·exact good_a6 fu xs ins o h
 ·exact good_a3 fu xs ins o h
 ·exact good_a17 fu xs ins o h
 ·cases h
theorem goodv_a18 (fu : Nat) (b0_0 : (Sl Int)) (b0_1 : Int) (y : Yd2) (hy : F_spec_l5Right_M fu b0_0 b0_1 = some y) : GoodX E Try.prog 46 [(.ref 0 0)] [(.box true [(.rs b0_0.z .u8 b0_0.n b0_0.f), (ii b0_1)])] (enc_a18 y).1 (enc_a18 y).2 :=
 funM_good (ke := false) E_ok (pc_good (pc := pc_a18 fu) hpc0 (hpx_a18 fu)) (fn := Try.f46) (by kernel_rfl) (by kernel_rfl) (by kernel_rfl) (lpok_a18 fu) (by kernel_rfl) (Nat.le_of_ble_eq_true (by kernel_rfl)) (fun d os hd => out_a18_enc d os _ hd) ((ev_a18 fu b0_0 b0_1).trans hy)
theorem good_a18 (fu : Nat) : GoodSX E Try.prog 46 (S_a18 fu) := by
 intro xs ins o h y hy
 unfold S_a18 at h
 split at h
 ·rename_i za1000_0 na1000_0 fa1000_0 a1001_0
  cases h
  exact goodv_a18 fu (⟨za1000_0, na1000_0, fa1000_0⟩ : (Sl Int)) a1001_0 y hy
 ·cases h
def F_spec_l6Config_H_B0 {ρ : Type} (fu : Nat) (c0_0 : Int) (c0_1 : (Sl S_impl_Backend)) (c0_2 : (Sl S_impl_Vip)) (k0 : Nat → Nat → (Nat → Int) → Option ρ) (out3_3 : Nat) (i4_4 : Int) (on0_5 : Nat) (of0_6 : (Nat → Int)) (go : Nat → Int → Nat → (Nat → Int) → Option ρ) : Option ρ :=
 (bif (decide (i4_4 < ((c0_1.n : Nat) : Int))) then ((bif (decide (0 ≤ i4_4) && decide ((Int.toNat i4_4) < c0_1.n)) then some () else none : Option Unit).bind fun _ => (bif (c0_1.f (Int.toNat i4_4)).Up then
  ((F_spec_l1Bytes_H fu (c0_1.f (Int.toNat i4_4)).Name 2).bind fun a => (bif (decide ((out3_3 + a.n) ≤ 9223372036854775807) && decide ((out3_3 + a.n) * 1 ≤ 140737488355328)) then
  ((F_spec_l1Bytes_H fu (c0_1.f (Int.toNat i4_4)).Address 4).bind fun b => (bif (decide (((out3_3 + a.n) + b.n) ≤ 9223372036854775807) && decide (((out3_3 + a.n) + b.n) * 1 ≤ 140737488355328)) then
  (bif (decide ((((out3_3 + a.n) + b.n) + 1) ≤ 9223372036854775807) && decide ((((out3_3 + a.n) + b.n) + 1) * 1 ≤ 140737488355328)) then (go (((out3_3 + a.n) + b.n) + 1) (IntKind.wrap .i64 (i4_4 + 1)) (((out3_3 + a.n) + b.n) + 1) (fun i =>
  if i < ((out3_3 + a.n) + b.n) then ((fun i => if i < (out3_3 + a.n) then ((fun i => if i < out3_3 then (of0_6 i) else (a.f (i - out3_3))) i) else (b.f (i - (out3_3 + a.n)))) i) else
  ((fun i => ([(IntKind.wrap .u8 (IntKind.wrap .i64 ((IntKind.wrap .i64 ((IntKind.wrap .i64 (8 * (c0_1.f (Int.toNat i4_4)).Weight)) + (IntKind.wrap .i64 (2 * (c0_1.f (Int.toNat i4_4)).Stage)))) + 1)))] : List (Int)).getD i (dflt .u8)) (i - ((out3_3 + a.n) + b.n))))) else
  none) else none)) else none)) else ((F_spec_l1Bytes_H fu (c0_1.f (Int.toNat i4_4)).Name 2).bind fun d => (bif (decide ((out3_3 + d.n) ≤ 9223372036854775807) && decide ((out3_3 + d.n) * 1 ≤ 140737488355328)) then
  ((F_spec_l1Bytes_H fu (c0_1.f (Int.toNat i4_4)).Address 4).bind fun g => (bif (decide (((out3_3 + d.n) + g.n) ≤ 9223372036854775807) && decide (((out3_3 + d.n) + g.n) * 1 ≤ 140737488355328)) then
  (bif (decide ((((out3_3 + d.n) + g.n) + 1) ≤ 9223372036854775807) && decide ((((out3_3 + d.n) + g.n) + 1) * 1 ≤ 140737488355328)) then (go (((out3_3 + d.n) + g.n) + 1) (IntKind.wrap .i64 (i4_4 + 1)) (((out3_3 + d.n) + g.n) + 1) (fun i =>
  if i < ((out3_3 + d.n) + g.n) then ((fun i => if i < (out3_3 + d.n) then ((fun i => if i < out3_3 then (of0_6 i) else (d.f (i - out3_3))) i) else (g.f (i - (out3_3 + d.n)))) i) else
  ((fun i => ([(IntKind.wrap .u8 (IntKind.wrap .i64 ((IntKind.wrap .i64 (8 * (c0_1.f (Int.toNat i4_4)).Weight)) + (IntKind.wrap .i64 (2 * (c0_1.f (Int.toNat i4_4)).Stage)))))] : List (Int)).getD i (dflt .u8)) (i - ((out3_3 + d.n) + g.n))))) else
  none) else none)) else none)))) else (k0 out3_3 on0_5 of0_6))
def F_spec_l6Config_H_B4 {ρ : Type} (fu : Nat) (c0_0 : Int) (c0_1 : (Sl S_impl_Backend)) (c0_2 : (Sl S_impl_Vip)) (i7_4 o1_8 o1_9 o1_10 : Int) (o1_11 : (Sl Int)) (on2_12 : Nat) (of2_13 : (Nat → Int)) (on3_14 : Nat) (of3_15 : (Nat → Int)) (k0 : Nat → Nat → (Nat → Int) → Option ρ) (out3_3 : Nat) (k9_5 : Int) (on0_6 : Nat) (of0_7 : (Nat → Int)) (go : Nat → Int → Nat → (Nat → Int) → Option ρ) : Option ρ :=
 (bif (decide (k9_5 < ((o1_11.n : Nat) : Int))) then ((bif (decide (0 ≤ k9_5) && decide ((Int.toNat k9_5) < o1_11.n)) then some () else none : Option Unit).bind fun _ =>
  ((F_spec_l1Bytes_H fu (o1_11.f (Int.toNat k9_5)) 2).bind fun a => (bif (decide ((out3_3 + a.n) ≤ 9223372036854775807) && decide ((out3_3 + a.n) * 1 ≤ 140737488355328)) then
  (go (out3_3 + a.n) (IntKind.wrap .i64 (k9_5 + 1)) (out3_3 + a.n) (fun i => if i < out3_3 then (of0_7 i) else (a.f (i - out3_3)))) else none))) else (k0 out3_3 on0_6 of0_7))
def F_spec_l6Config_H_B2 {ρ : Type} (fu : Nat) (c0_0 : Int) (c0_1 : (Sl S_impl_Backend)) (c0_2 : (Sl S_impl_Vip)) (k0 : Nat → Nat → (Nat → Int) → Option ρ) (out3_3 : Nat) (i7_4 : Int) (on0_5 : Nat) (of0_6 : (Nat → Int)) (go : Nat → Int → Nat → (Nat → Int) → Option ρ) : Option ρ :=
 (bif (decide (i7_4 < ((c0_2.n : Nat) : Int))) then ((bif (decide (0 ≤ i7_4) && decide ((Int.toNat i7_4) < c0_2.n)) then some () else none : Option Unit).bind fun _ =>
  ((F_spec_l1Bytes_H fu (c0_2.f (Int.toNat i7_4)).Address 4).bind fun a => (bif (decide ((out3_3 + a.n) ≤ 9223372036854775807) && decide ((out3_3 + a.n) * 1 ≤ 140737488355328)) then
  ((F_spec_l1Bytes_H fu (c0_2.f (Int.toNat i7_4)).Port 2).bind fun b => (bif (decide (((out3_3 + a.n) + b.n) ≤ 9223372036854775807) && decide (((out3_3 + a.n) + b.n) * 1 ≤ 140737488355328)) then
  (bif (decide ((((out3_3 + a.n) + b.n) + 2) ≤ 9223372036854775807) && decide ((((out3_3 + a.n) + b.n) + 2) * 1 ≤ 140737488355328)) then (L (fun w4 go4 =>
  F_spec_l6Config_H_B4 fu c0_0 c0_1 c0_2 i7_4 ((c0_2.f (Int.toNat i7_4)).Address) ((c0_2.f (Int.toNat i7_4)).Port) ((c0_2.f (Int.toNat i7_4)).Proto) ((c0_2.f (Int.toNat i7_4)).Names) a.n a.f b.n b.f (fun d g h =>
  (go d (IntKind.wrap .i64 (i7_4 + 1)) g h)) w4.1 w4.2.1 w4.2.2.1 w4.2.2.2 (fun q0 q1 q2 q3 => go4 (q0, q1, q2, q3))) fu (((((out3_3 + a.n) + b.n) + 2), 0,
  (((out3_3 + a.n) + b.n) + 2), (fun i => if i < ((out3_3 + a.n) + b.n) then ((fun i => if i < (out3_3 + a.n) then ((fun i => if i < out3_3 then (of0_6 i) else
  (a.f (i - out3_3))) i) else (b.f (i - (out3_3 + a.n)))) i) else ((fun i => ([(IntKind.wrap .u8 (c0_2.f (Int.toNat i7_4)).Proto), (IntKind.wrap .u8 (((c0_2.f (Int.toNat i7_4)).Names.n : Nat) : Int))] : List (Int)).getD i (dflt .u8)) (i - ((out3_3 + a.n) + b.n))))) : Nat × Int × Nat × (Nat → Int))) else
  none) else none)) else none))) else (k0 out3_3 on0_5 of0_6))
def F_spec_l6Config_H (fu : Nat) (c_0 : S_impl_Config) : Option ((Sl Int)) :=
 ((F_spec_l1Bytes_H fu c_0.Version 4).bind fun a => (bif (decide ((a.n + 1) ≤ 9223372036854775807) && decide ((a.n + 1) * 1 ≤ 140737488355328)) then (L (fun w0 go0 =>
  F_spec_l6Config_H_B0 fu c_0.Version c_0.Backends c_0.Vips (fun b d g => (bif (decide ((b + 1) ≤ 9223372036854775807) && decide ((b + 1) * 1 ≤ 140737488355328)) then
  (L (fun w2 go2 => F_spec_l6Config_H_B2 fu c_0.Version c_0.Backends c_0.Vips (fun h j l => (some (⟨none, h, l⟩ : (Sl Int)))) w2.1 w2.2.1 w2.2.2.1 w2.2.2.2 (fun q0 q1 q2 q3 =>
  go2 (q0, q1, q2, q3))) fu (((b + 1), 0, (b + 1), (fun i => if i < b then (g i) else ((fun i => ([(IntKind.wrap .u8 ((c_0.Vips.n : Nat) : Int))] : List (Int)).getD i (dflt .u8)) (i - b)))) : Nat × Int × Nat × (Nat → Int))) else
  none)) w0.1 w0.2.1 w0.2.2.1 w0.2.2.2 (fun q0 q1 q2 q3 => go0 (q0, q1, q2, q3))) fu (((a.n + 1), 0, (a.n + 1), (fun i => if i < a.n then (a.f i) else ((fun i =>
  ([(IntKind.wrap .u8 ((c_0.Backends.n : Nat) : Int))] : List (Int)).getD i (dflt .u8)) (i - a.n)))) : Nat × Int × Nat × (Nat → Int))) else none))
def pcx_a19 (fu f : Nat) (xs : List (D RT den)) (ins : List (Ob RT den)) : Option (OutX RT den) := match f with | 76 => S_a7 fu xs ins | _ => none
def pcd_a19 : Nat → Bool := fun _ => false
def pc_a19 (fu : Nat) : Pc RT den := ⟨pcf0, fun f => match f with | 76 => true | _ => false, fun _ => false, pcd_a19, fun f => match f with | 76 => true | _ => false, pcd0, pcx_a19 fu⟩
def msk_a19 (b : Nat) : List Nat := match b with | 0 => (1 :: 2 :: (rg 5 117 [])) | 100000 => (1 :: (rg 4 118 [])) | 2 => (1 :: 2 :: 4 :: 5 :: 6 :: (rg 8 114 [])) | 100002 => (0 :: 1 :: (rg 4 118 [])) | 4 => (1 :: 2 :: 4 :: 5 :: 6 :: (rg 10 112 [])) | 100004 => (1 :: 4 :: 5 :: 6 :: (rg 8 114 [])) | 300000 => [3] | 300002 => [3] | 300004 => [3] | _ => []
def ps_a19_0 : List (Pat RT) := (.rptr [(.int .i64), (.rs .impl_Backend), (.rs .impl_Vip)] :: .flat .q :: .flat .q :: .flat (.os 0) :: .flat (.int .i64) :: (fq 117 []))
def os_a19_0 : List (OP RT) := [.row false .u8]
def conv_a19_0 (r : Raw den ps_a19_0 os_a19_0) : (Int × (Sl S_impl_Backend) × (Sl S_impl_Vip)) × (Nat × Int × Nat × (Nat → Int)) := ((r.1.1.1, r.1.1.2.1, r.1.1.2.2.1), (r.1.2.2.2.1, r.1.2.2.2.2.1, r.2.1.1, r.2.1.2))
def back_a19_0 (c : Int × (Sl S_impl_Backend) × (Sl S_impl_Vip)) (w : Nat × Int × Nat × (Nat → Int)) : St RT den := ⟨((.rptr [(ii c.1), (.rs c.2.1.z .impl_Backend c.2.1.n c.2.1.f), (.rs c.2.2.z .impl_Vip c.2.2.n c.2.2.f)]) :: .q :: .q :: (.os 0 w.1) :: (ii w.2.1) :: (qs 117 [])), [(.row false .u8 w.2.2.1 w.2.2.2)]⟩
def Bk_a19_0 {ρ : Type} (fu : Nat) (c : Int × (Sl S_impl_Backend) × (Sl S_impl_Vip)) (k : Ex → St RT den → Option ρ) (w : Nat × Int × Nat × (Nat → Int)) (go : (Nat × Int × Nat × (Nat → Int)) → Option ρ) : Option ρ := F_spec_l6Config_H_B0 fu c.1 c.2.1 c.2.2 (fun a0 a1 a2 => k (.exit 0) ⟨((.rptr [(ii c.1), (.rs c.2.1.z .impl_Backend c.2.1.n c.2.1.f), (.rs c.2.2.z .impl_Vip c.2.2.n c.2.2.f)]) :: .q :: .q :: (.os 0 a0) :: (qs 118 [])), [(.row false .u8 a1 a2)]⟩) w.1 w.2.1 w.2.2.1 w.2.2.2 (fun q0 q1 q2 q3 => go (q0, q1, q2, q3))
def ps_a19_4 : List (Pat RT) := (.rptr [(.int .i64), (.rs .impl_Backend), (.rs .impl_Vip)] :: .flat .q :: .flat .q :: .flat (.os 0) :: .flat .q :: .flat .q :: .flat .q :: .flat (.int .i64) :: .flat (.ref 1 0) :: .flat (.int .i64) :: (fq 112 []))
def os_a19_4 : List (OP RT) := [.row false .u8, .box false [(.int .i64), (.int .i64), (.int .i64), (.rs .i64)], .row false .u8, .row false .u8]
def conv_a19_4 (r : Raw den ps_a19_4 os_a19_4) : (Yd4) × (Nat × Int × Nat × (Nat → Int)) := ((r.1.1.1, r.1.1.2.1, r.1.1.2.2.1, (e5 r.1).2.2.1, r.2.2.1.1, r.2.2.1.2.1, r.2.2.1.2.2.1, r.2.2.1.2.2.2.1, r.2.2.2.1.1, r.2.2.2.1.2, r.2.2.2.2.1.1, r.2.2.2.2.1.2), (r.1.2.2.2.1, (e5 r.1).2.2.2.2.1, r.2.1.1, r.2.1.2))
def back_a19_4 (c : Yd4) (w : Nat × Int × Nat × (Nat → Int)) : St RT den := ⟨((.rptr [(ii c.1), (.rs c.2.1.z .impl_Backend c.2.1.n c.2.1.f), (.rs c.2.2.1.z .impl_Vip c.2.2.1.n c.2.2.1.f)]) :: .q :: .q :: (.os 0 w.1) :: .q :: .q :: .q :: (ii c.2.2.2.1) :: (.ref 1 0) :: (ii w.2.1) :: (qs 112 [])), [(.row false .u8 w.2.2.1 w.2.2.2), (.box false [(ii c.2.2.2.2.1), (ii (e5 c).1), (ii (e5 c).2.1), (.rs (e5 c).2.2.1.z .i64 (e5 c).2.2.1.n (e5 c).2.2.1.f)]), (.row false .u8 (e5 c).2.2.2.1 (e5 c).2.2.2.2.1), (.row false .u8 (e10 c).1 (e10 c).2)]⟩
def Bk_a19_4 {ρ : Type} (fu : Nat) (c : Yd4) (k : Ex → St RT den → Option ρ) (w : Nat × Int × Nat × (Nat → Int)) (go : (Nat × Int × Nat × (Nat → Int)) → Option ρ) : Option ρ := F_spec_l6Config_H_B4 fu c.1 c.2.1 c.2.2.1 c.2.2.2.1 c.2.2.2.2.1 (e5 c).1 (e5 c).2.1 (e5 c).2.2.1 (e5 c).2.2.2.1 (e5 c).2.2.2.2.1 (e10 c).1 (e10 c).2 (fun a0 a1 a2 => k (.exit 4) ⟨((.rptr [(ii c.1), (.rs c.2.1.z .impl_Backend c.2.1.n c.2.1.f), (.rs c.2.2.1.z .impl_Vip c.2.2.1.n c.2.2.1.f)]) :: .q :: .q :: (.os 0 a0) :: .q :: .q :: .q :: (ii c.2.2.2.1) :: (qs 114 [])), [(.row false .u8 a1 a2), (.box false [(ii c.2.2.2.2.1), (ii (e5 c).1), (ii (e5 c).2.1), (.rs (e5 c).2.2.1.z .i64 (e5 c).2.2.1.n (e5 c).2.2.1.f)]), (.row false .u8 (e5 c).2.2.2.1 (e5 c).2.2.2.2.1), (.row false .u8 (e10 c).1 (e10 c).2)]⟩) w.1 w.2.1 w.2.2.1 w.2.2.2 (fun q0 q1 q2 q3 => go (q0, q1, q2, q3))
def ps_a19_2 : List (Pat RT) := (.rptr [(.int .i64), (.rs .impl_Backend), (.rs .impl_Vip)] :: .flat .q :: .flat .q :: .flat (.os 0) :: .flat .q :: .flat .q :: .flat .q :: .flat (.int .i64) :: (fq 114 []))
def os_a19_2 : List (OP RT) := [.row false .u8]
def conv_a19_2 (r : Raw den ps_a19_2 os_a19_2) : (Int × (Sl S_impl_Backend) × (Sl S_impl_Vip)) × (Nat × Int × Nat × (Nat → Int)) := ((r.1.1.1, r.1.1.2.1, r.1.1.2.2.1), (r.1.2.2.2.1, (e5 r.1).2.2.1, r.2.1.1, r.2.1.2))
def back_a19_2 (c : Int × (Sl S_impl_Backend) × (Sl S_impl_Vip)) (w : Nat × Int × Nat × (Nat → Int)) : St RT den := ⟨((.rptr [(ii c.1), (.rs c.2.1.z .impl_Backend c.2.1.n c.2.1.f), (.rs c.2.2.z .impl_Vip c.2.2.n c.2.2.f)]) :: .q :: .q :: (.os 0 w.1) :: .q :: .q :: .q :: (ii w.2.1) :: (qs 114 [])), [(.row false .u8 w.2.2.1 w.2.2.2)]⟩
def Bk_a19_2 {ρ : Type} (fu : Nat) (c : Int × (Sl S_impl_Backend) × (Sl S_impl_Vip)) (k : Ex → St RT den → Option ρ) (w : Nat × Int × Nat × (Nat → Int)) (go : (Nat × Int × Nat × (Nat → Int)) → Option ρ) : Option ρ := F_spec_l6Config_H_B2 fu c.1 c.2.1 c.2.2 (fun a0 a1 a2 => k (.exit 2) ⟨(.q :: .q :: .q :: (.os 0 a0) :: (qs 118 [])), [(.row false .u8 a1 a2)]⟩) w.1 w.2.1 w.2.2.1 w.2.2.2 (fun q0 q1 q2 q3 => go (q0, q1, q2, q3))
def lp_a19 (fu : Nat) : Lp RT den ((Sl Int)) := ⟨fun b s k => match b with | 0 => handle ps_a19_0 os_a19_0 conv_a19_0 (Bk_a19_0 fu) fu s k | 2 => handle ps_a19_2 os_a19_2 conv_a19_2 (Bk_a19_2 fu) fu s k | 4 => handle ps_a19_4 os_a19_4 conv_a19_4 (Bk_a19_4 fu) fu s k | _ => none, inl0⟩
theorem ev_a19 (fu : Nat) (c_0 : S_impl_Config) : evFunX E false (pc_a19 fu) msk_a19 (lp_a19 fu) out_sl_u8_H 33 [(.rptr [(ii c_0.Version), (.rs c_0.Backends.z .impl_Backend c_0.Backends.n c_0.Backends.f), (.rs c_0.Vips.z .impl_Vip c_0.Vips.n c_0.Vips.f)])] [] = F_spec_l6Config_H fu c_0 := by kernel_rfl
noncomputable def body_a19 : Code := Try.f33.body.getD .skip
noncomputable def lc_a19_0 : Code := ((loops 0 body_a19).getD 0 (0, .skip)).2
theorem round_a19_0 (fu : Nat) : RoundOk E (pc_a19 fu) msk_a19 (lp_a19 fu) 0 lc_a19_0 back_a19_0 0 100000 1 (Bk_a19_0 fu) := fun it k c w => by kernel_rfl
theorem lpok_a19_0 (fu : Nat) : LpAt E (pc_a19 fu) msk_a19 (lp_a19 fu) 0 0 100000 0 lc_a19_0 :=
 handle_ok (ps := ps_a19_0) (os := os_a19_0) (conv := conv_a19_0) (B := Bk_a19_0 fu) (fu := fu) back_a19_0 (fun raw => by kernel_rfl) 1 (fun c w => by kernel_rfl) (round_a19_0 fu)
noncomputable def lc_a19_2 : Code := ((loops 0 body_a19).getD 1 (0, .skip)).2
theorem round_a19_2 (fu : Nat) : RoundOk E (pc_a19 fu) msk_a19 (lp_a19 fu) 2 lc_a19_2 back_a19_2 2 100002 1 (Bk_a19_2 fu) := fun it k c w => by kernel_rfl
theorem lpok_a19_2 (fu : Nat) : LpAt E (pc_a19 fu) msk_a19 (lp_a19 fu) 2 2 100002 2 lc_a19_2 :=
 handle_ok (ps := ps_a19_2) (os := os_a19_2) (conv := conv_a19_2) (B := Bk_a19_2 fu) (fu := fu) back_a19_2 (fun raw => by kernel_rfl) 1 (fun c w => by kernel_rfl) (round_a19_2 fu)
noncomputable def lc_a19_4 : Code := ((loops 0 body_a19).getD 2 (0, .skip)).2
theorem round_a19_4 (fu : Nat) : RoundOk E (pc_a19 fu) msk_a19 (lp_a19 fu) 4 lc_a19_4 back_a19_4 4 100004 4 (Bk_a19_4 fu) := fun it k c w => by kernel_rfl
theorem lpok_a19_4 (fu : Nat) : LpAt E (pc_a19 fu) msk_a19 (lp_a19 fu) 4 4 100004 4 lc_a19_4 :=
 handle_ok (ps := ps_a19_4) (os := os_a19_4) (conv := conv_a19_4) (B := Bk_a19_4 fu) (fu := fu) back_a19_4 (fun raw => by kernel_rfl) 4 (fun c w => by kernel_rfl) (round_a19_4 fu)
theorem lpok_a19 (fu : Nat) : LpOk E (pc_a19 fu) 0 msk_a19 (lp_a19 fu) (loops 0 body_a19) := lp_nil (loop_all 3 (by kernel_rfl) fun i hi => match i, hi with
 | 0, _ => by
  have h : (loops 0 body_a19).getD 0 (0, .skip) = (0, lc_a19_0) := by kernel_rfl
  rw [h]; exact lpok_a19_0 fu
 | 1, _ => by
  have h : (loops 0 body_a19).getD 1 (0, .skip) = (2, lc_a19_2) := by kernel_rfl
  rw [h]; exact lpok_a19_2 fu
 | 2, _ => by
  have h : (loops 0 body_a19).getD 2 (0, .skip) = (4, lc_a19_4) := by kernel_rfl
  rw [h]; exact lpok_a19_4 fu
 | i + 3, hi => absurd hi (by omega)) (by kernel_rfl)
def S_a19 (fu : Nat) (xs : List (D RT den)) (ins : List (Ob RT den)) : Option (OutX RT den) := match xs, ins with | [.rptr [.int .i64 a0_1, .rs za0_2 .impl_Backend na0_2 fa0_2, .rs za0_3 .impl_Vip na0_3 fa0_3]], [] => some ⟨(Sl Int), F_spec_l6Config_H fu (⟨a0_1, (⟨za0_2, na0_2, fa0_2⟩ : (Sl S_impl_Backend)), (⟨za0_3, na0_3, fa0_3⟩ : (Sl S_impl_Vip))⟩ : S_impl_Config), enc_sl_u8_H⟩ | _, _ => none
theorem hpx_a19 (fu : Nat) : HpxOk E Try.prog pcd_a19 pcd0 (pcx_a19 fu) := by
 intro f xs ins o h
 unfold pcx_a19 at h
 split at h
 ·exact good_a7 fu xs ins o h
 ·cases h
theorem goodv_a19 (fu : Nat) (c_0 : S_impl_Config) (y : (Sl Int)) (hy : F_spec_l6Config_H fu c_0 = some y) : GoodX E Try.prog 33 [(.rptr [(ii c_0.Version), (.rs c_0.Backends.z .impl_Backend c_0.Backends.n c_0.Backends.f), (.rs c_0.Vips.z .impl_Vip c_0.Vips.n c_0.Vips.f)])] [] (enc_sl_u8_H y).1 (enc_sl_u8_H y).2 :=
 funX_good (ke := false) E_ok (pc_good (pc := pc_a19 fu) hpc0 (hpx_a19 fu)) (fn := Try.f33) (by kernel_rfl) (by kernel_rfl) (by kernel_rfl) (lpok_a19 fu) (by kernel_rfl) (Nat.zero_le _) (fun d os hd => out_sl_u8_H_enc d os _ hd) ((ev_a19 fu c_0).trans hy)
theorem good_a19 (fu : Nat) : GoodSX E Try.prog 33 (S_a19 fu) := by
 intro xs ins o h y hy
 unfold S_a19 at h
 split at h
 ·rename_i a0_1 za0_2 na0_2 fa0_2 za0_3 na0_3 fa0_3
  cases h
  exact goodv_a19 fu (⟨a0_1, (⟨za0_2, na0_2, fa0_2⟩ : (Sl S_impl_Backend)), (⟨za0_3, na0_3, fa0_3⟩ : (Sl S_impl_Vip))⟩ : S_impl_Config) y hy
 ·cases h
def F_spec_DrawUnpackConfig (fu : Nat) (code_0 : (Sl Int)) : Option ((Sl Int)) :=
 ((F_spec_l1Source_M fu code_0).bind fun a => ((F_spec_l5Right_M fu a.1 a.2).bind fun b => ((F_spec_l6Config_H fu (⟨b.1, (⟨none, b.2.1, b.2.2.2.2.2.2.1⟩ : (Sl S_impl_Backend)),
  (⟨none, b.2.2.1, b.2.2.2.2.2.2.2.2⟩ : (Sl S_impl_Vip))⟩ : S_impl_Config)).bind fun d => (bif (((d.n : Nat) : Int) == 0) then (some (⟨none, d.n, d.f⟩ : (Sl Int))) else
  ((F_spec_l1Chance_M fu 3 b.2.2.2.1 b.2.2.2.2.1).bind fun g => (bif (!g.1) then (some (⟨none, d.n, d.f⟩ : (Sl Int))) else ((F_spec_l1Next_M fu ((d.n : Nat) : Int) g.2.1 g.2.2).bind fun h =>
  ((F_spec_l1Next_M fu 3 h.2.1 h.2.2).bind fun l => (bif (l.1 == 0) then ((F_spec_l1Next_M fu 256 l.2.1 l.2.2).bind fun o => ((bif (decide (0 ≤ h.1) &&
  decide ((Int.toNat h.1) < d.n)) then some () else none : Option Unit).bind fun _ => (some (⟨none, d.n, (fun j => if j = (Int.toNat h.1) then (IntKind.wrap .u8 o.1) else
  d.f j)⟩ : (Sl Int))))) else (bif (l.1 == 1) then ((bif (decide (0 ≤ h.1) && decide ((Int.toNat h.1) ≤ d.n)) then some () else none : Option Unit).bind fun _ =>
  (some (⟨none, (Int.toNat h.1), d.f⟩ : (Sl Int)))) else (bif (l.1 == 2) then (bif (decide ((d.n + 1) ≤ 9223372036854775807) && decide ((d.n + 1) * 1 ≤ 140737488355328)) then
  (some (⟨none, (d.n + 1), (fun i => if i < d.n then (d.f i) else ((fun i => ([0] : List (Int)).getD i (dflt .u8)) (i - d.n)))⟩ : (Sl Int))) else none) else (some (⟨none,
  d.n, d.f⟩ : (Sl Int))))))))))))))
def pcx_a20 (fu f : Nat) (xs : List (D RT den)) (ins : List (Ob RT den)) : Option (OutX RT den) := match f with | 33 => S_a19 fu xs ins | 40 => S_a0 fu xs ins | 46 => S_a18 fu xs ins | 88 => S_a5 fu xs ins | 89 => S_a3 fu xs ins | _ => none
def pcd_a20 : Nat → Bool := fun _ => false
def pc_a20 (fu : Nat) : Pc RT den := ⟨pcf0, fun f => match f with | 33 => true | 40 => true | 46 => true | 88 => true | 89 => true | _ => false, fun f => match f with | 40 => true | 46 => true | 88 => true | 89 => true | _ => false, pcd_a20, fun f => match f with | 46 => true | 88 => true | 89 => true | _ => false, pcd0, pcx_a20 fu⟩
def msk_a20i0 (b : Nat) : List Nat := []
noncomputable def body_a20i0 : Code := Try.f41.body.getD .skip
def msk_a20 (b : Nat) : List Nat := match b with | 600003 => [2000] | 800003 => (0 :: 1 :: 2 :: (rg 5 7 [])) | _ => []
def lp_a20i0 (fu : Nat) : Lp RT den ((Sl Int)) := ⟨fun b s k => none, inl0⟩
noncomputable def lp_a20 (fu : Nat) : Lp RT den ((Sl Int)) := ⟨fun b s k => none, inlL [(41, evCode E (pc_a20 fu) msk_a20i0 (lp_a20i0 fu) 0 body_a20i0)]⟩
theorem ev_a20 (fu : Nat) (code_0 : (Sl Int)) : evFun E (pc_a20 fu) msk_a20 (lp_a20 fu) out_sl_u8 17 [(.rs code_0.z .u8 code_0.n code_0.f)] = F_spec_DrawUnpackConfig fu code_0 := by kernel_rfl
noncomputable def body_a20 : Code := Try.f17.body.getD .skip
theorem lpok_a20i0 (fu : Nat) : LpOk E (pc_a20 fu) 0 msk_a20i0 (lp_a20i0 fu) (loops 0 body_a20i0) := lp_nil (loop_nil (by kernel_rfl)) (by kernel_rfl)
theorem lpok_a20 (fu : Nat) : LpOk E (pc_a20 fu) 1 msk_a20 (lp_a20 fu) (loops 0 body_a20) := lp_all (loop_nil (by kernel_rfl)) (site_cons 41 Try.f41 (by kernel_rfl) (by kernel_rfl) (by kernel_rfl) (by kernel_rfl) ((lpok_a20i0 fu).mono (Nat.le_of_ble_eq_true (by kernel_rfl))) site_nil) (by kernel_rfl)
def S_a20 (fu : Nat) (xs : List (D RT den)) : Option (Out RT den) := match xs with | [.rs za0_0 .u8 na0_0 fa0_0] => some ⟨(Sl Int), F_spec_DrawUnpackConfig fu (⟨za0_0, na0_0, fa0_0⟩ : (Sl Int)), enc_sl_u8, fun _ => true⟩ | _ => none
theorem hpx_a20 (fu : Nat) : HpxOk E Try.prog pcd_a20 pcd0 (pcx_a20 fu) := by
 intro f xs ins o h
 unfold pcx_a20 at h
 split at h
 ·exact good_a19 fu xs ins o h
 ·exact good_a0 fu xs ins o h
 ·exact good_a18 fu xs ins o h
 ·exact good_a5 fu xs ins o h
 ·exact good_a3 fu xs ins o h
 ·cases h
theorem goodv_a20 (fu : Nat) (code_0 y : (Sl Int)) (hy : F_spec_DrawUnpackConfig fu code_0 = some y) : Good E Try.prog 17 [(.rs code_0.z .u8 code_0.n code_0.f)] (enc_sl_u8 y) :=
 fun_good E_ok (pc_good (pc := pc_a20 fu) hpc0 (hpx_a20 fu)) (fn := Try.f17) (by kernel_rfl) (by kernel_rfl) (by kernel_rfl) (lpok_a20 fu) (fun d hd => out_sl_u8_enc d _ hd) ((ev_a20 fu code_0).trans hy)
theorem good_a20 (fu : Nat) : GoodS E Try.prog 17 (S_a20 fu) := by
 intro xs o h y hy
 unfold S_a20 at h
 split at h
 ·rename_i za0_0 na0_0 fa0_0
  cases h
  exact goodv_a20 fu (⟨za0_0, na0_0, fa0_0⟩ : (Sl Int)) y hy
 ·cases h
def F_impl_number_B0 {ρ : Type} (fu : Nat) (t6_1 : (Sl Int)) (t7_2 : Int) (k0 : Int → Option ρ) (n3_0 t8_3 : Int) (go : Int → Int → Option ρ) : Option ρ :=
 (bif (decide (t8_3 < t7_2)) then ((bif (decide (0 ≤ t8_3) && decide ((Int.toNat t8_3) < t6_1.n)) then some () else none : Option Unit).bind fun _ => (go (bitsOr .i64 (shlInt .i64 n3_0 8) (IntKind.wrap .i64 (t6_1.f (Int.toNat t8_3)))) (IntKind.wrap .i64 (t8_3 + 1)))) else
  (k0 n3_0))
def F_impl_number (fu : Nat) (data_0 : (Sl Int)) : Option (Int) :=
 (L (fun w0 go0 => F_impl_number_B0 fu data_0 ((data_0.n : Nat) : Int) (fun a => (some a)) w0.1 w0.2 (fun q0 q1 => go0 (q0, q1))) fu ((0, 0) : Int × Int))
def pc_a21 (fu : Nat) : Pc RT den := ⟨pcf0, fun _ => false, fun _ => false, pcd0, pcd0, pcd0, pcx0⟩
def msk_a21 (b : Nat) : List Nat := match b with | 0 => (0 :: 1 :: 2 :: 4 :: 5 :: (rg 9 10 [])) | 100000 => (0 :: 1 :: (rg 4 15 [])) | _ => []
def ps_a21_0 : List (Pat RT) := (.flat .q :: .flat .q :: .flat .q :: .flat (.int .i64) :: .flat .q :: .flat .q :: .flat (.rs .u8) :: .flat (.int .i64) :: .flat (.int .i64) :: (fq 10 []))
def os_a21_0 : List (OP RT) := []
def conv_a21_0 (r : Raw den ps_a21_0 os_a21_0) : ((Sl Int) × Int) × (Int × Int) := (((e5 r.1).2.1, (e5 r.1).2.2.1), (r.1.2.2.2.1, (e5 r.1).2.2.2.1))
def back_a21_0 (c : (Sl Int) × Int) (w : Int × Int) : St RT den := ⟨(.q :: .q :: .q :: (ii w.1) :: .q :: .q :: (.rs c.1.z .u8 c.1.n c.1.f) :: (ii c.2) :: (ii w.2) :: (qs 10 [])), []⟩
def Bk_a21_0 {ρ : Type} (fu : Nat) (c : (Sl Int) × Int) (k : Ex → St RT den → Option ρ) (w : Int × Int) (go : (Int × Int) → Option ρ) : Option ρ := F_impl_number_B0 fu c.1 c.2 (fun a0 => k (.exit 0) ⟨(.q :: .q :: .q :: (ii a0) :: (qs 15 [])), []⟩) w.1 w.2 (fun q0 q1 => go (q0, q1))
def lp_a21 (fu : Nat) : Lp RT den (Int) := ⟨fun b s k => match b with | 0 => handle ps_a21_0 os_a21_0 conv_a21_0 (Bk_a21_0 fu) fu s k | _ => none, inl0⟩
theorem ev_a21 (fu : Nat) (data_0 : (Sl Int)) : evFun E (pc_a21 fu) msk_a21 (lp_a21 fu) out_i64 44 [(.rs data_0.z .u8 data_0.n data_0.f)] = F_impl_number fu data_0 := by kernel_rfl
noncomputable def body_a21 : Code := Try.f44.body.getD .skip
noncomputable def lc_a21_0 : Code := ((loops 0 body_a21).getD 0 (0, .skip)).2
theorem round_a21_0 (fu : Nat) : RoundOk E (pc_a21 fu) msk_a21 (lp_a21 fu) 0 lc_a21_0 back_a21_0 0 100000 0 (Bk_a21_0 fu) := fun it k c w => by kernel_rfl
theorem lpok_a21_0 (fu : Nat) : LpAt E (pc_a21 fu) msk_a21 (lp_a21 fu) 0 0 100000 0 lc_a21_0 :=
 handle_ok (ps := ps_a21_0) (os := os_a21_0) (conv := conv_a21_0) (B := Bk_a21_0 fu) (fu := fu) back_a21_0 (fun raw => by kernel_rfl) 0 (fun c w => by kernel_rfl) (round_a21_0 fu)
theorem lpok_a21 (fu : Nat) : LpOk E (pc_a21 fu) 0 msk_a21 (lp_a21 fu) (loops 0 body_a21) := lp_nil (loop_all 1 (by kernel_rfl) fun i hi => match i, hi with
 | 0, _ => by
  have h : (loops 0 body_a21).getD 0 (0, .skip) = (0, lc_a21_0) := by kernel_rfl
  rw [h]; exact lpok_a21_0 fu
 | i + 1, hi => absurd hi (by omega)) (by kernel_rfl)
def S_a21 (fu : Nat) (xs : List (D RT den)) : Option (Out RT den) := match xs with | [.rs za0_0 .u8 na0_0 fa0_0] => some ⟨Int, F_impl_number fu (⟨za0_0, na0_0, fa0_0⟩ : (Sl Int)), enc_i64, fun _ => true⟩ | _ => none
theorem goodv_a21 (fu : Nat) (data_0 : (Sl Int)) (y : Int) (hy : F_impl_number fu data_0 = some y) : Good E Try.prog 44 [(.rs data_0.z .u8 data_0.n data_0.f)] (enc_i64 y) :=
 fun_good E_ok (pc_good (pc := pc_a21 fu) hpc0 hpx0) (fn := Try.f44) (by kernel_rfl) (by kernel_rfl) (by kernel_rfl) (lpok_a21 fu) (fun d hd => out_i64_enc d _ hd) ((ev_a21 fu data_0).trans hy)
theorem good_a21 (fu : Nat) : GoodS E Try.prog 44 (S_a21 fu) := by
 intro xs o h y hy
 unfold S_a21 at h
 split at h
 ·rename_i za0_0 na0_0 fa0_0
  cases h
  exact goodv_a21 fu (⟨za0_0, na0_0, fa0_0⟩ : (Sl Int)) y hy
 ·cases h
def F_impl_reader_take_M (fu : Nat) (many_1 : Int) (b0_1 : (Sl Int)) (b0_2 : Bool) : Option (Int × (Sl Int) × Bool) :=
 (((bif b0_2 then (some true) else (some (decide (((b0_1.n : Nat) : Int) < many_1)))) : Option Bool).bind fun a => (bif a then (some (0, b0_1, true)) else ((bif (decide ((0 : Int) ≤ many_1) &&
  decide ((Int.toNat many_1) ≤ b0_1.n)) then some () else none : Option Unit).bind fun _ => ((F_impl_number fu (⟨b0_1.z, ((Int.toNat many_1) - 0), (fun i => b0_1.f (0 + i))⟩ : (Sl Int))).bind fun b =>
  ((bif (decide (0 ≤ many_1) && (decide (many_1 ≤ ((b0_1.n : Nat) : Int)) && decide (b0_1.n ≤ b0_1.n))) then some () else none : Option Unit).bind fun _ => (some (b, (⟨b0_1.z,
  (b0_1.n - (Int.toNat many_1)), (fun i => b0_1.f ((Int.toNat many_1) + i))⟩ : (Sl Int)), b0_2)))))))
def pcf_a22 (fu f : Nat) (xs : List (D RT den)) : Option (Out RT den) := match f with | 44 => S_a21 fu xs | _ => none
def pc_a22 (fu : Nat) : Pc RT den := ⟨pcf_a22 fu, fun _ => false, fun _ => false, pcd0, pcd0, pcd0, pcx0⟩
def msk_a22 (b : Nat) : List Nat := match b with | 200001 => [18] | _ => []
def lp_a22 (fu : Nat) : Lp RT den (Int × (Sl Int) × Bool) := ⟨fun b s k => none, inl0⟩
def pso_a22 : List (Pat RT) := [.flat (.int .i64)]
def oso_a22 : List (OP RT) := [.box true [(.rs .u8), .bool]]
def conv_a22 (r : Raw den pso_a22 oso_a22) : Int × (Sl Int) × Bool := (r.1.1, r.2.1.1, r.2.1.2.1)
def enc_a22 (y : Int × (Sl Int) × Bool) : D RT den × List (Ob RT den) := ((.int .i64 y.1), [(.box true [(.rs y.2.1.z .u8 y.2.1.n y.2.1.f), (.bool y.2.2)])])
def out_a22 (d : D RT den) (os : List (Ob RT den)) : Option (Int × (Sl Int) × Bool) := (unSt pso_a22 oso_a22 ⟨[d], os⟩).bind fun v => some (conv_a22 v.1)
theorem out_a22_enc (d : D RT den) (os : List (Ob RT den)) (y : Int × (Sl Int) × Bool) (h : out_a22 d os = some y) : d = (enc_a22 y).1 ∧ os = (enc_a22 y).2 :=
 outM (conv := conv_a22) (enc := enc_a22) (fun raw => by kernel_rfl) h
theorem ev_a22 (fu : Nat) (many_1 : Int) (b0_1 : (Sl Int)) (b0_2 : Bool) : evFunM E false (pc_a22 fu) msk_a22 (lp_a22 fu) out_a22 34 [(.ref 0 0), (ii many_1)] [(.box true [(.rs b0_1.z .u8 b0_1.n b0_1.f), (.bool b0_2)])] = F_impl_reader_take_M fu many_1 b0_1 b0_2 := by kernel_rfl
noncomputable def body_a22 : Code := Try.f34.body.getD .skip
theorem lpok_a22 (fu : Nat) : LpOk E (pc_a22 fu) 0 msk_a22 (lp_a22 fu) (loops 0 body_a22) := lp_nil (loop_nil (by kernel_rfl)) (by kernel_rfl)
def S_a22 (fu : Nat) (xs : List (D RT den)) (ins : List (Ob RT den)) : Option (OutX RT den) := match xs, ins with | [.ref 0 0, .int .i64 a1_0], [.box true [.rs za1000_0 .u8 na1000_0 fa1000_0, .bool a1001_0]] => some ⟨Int × (Sl Int) × Bool, F_impl_reader_take_M fu a1_0 (⟨za1000_0, na1000_0, fa1000_0⟩ : (Sl Int)) a1001_0, enc_a22⟩ | _, _ => none
theorem hpc_a22 (fu : Nat) : HpcOk E Try.prog (pcf_a22 fu) := by
 intro f xs o h
 unfold pcf_a22 at h
 split at h
 ·exact good_a21 fu xs o h
 ·cases h
theorem goodv_a22 (fu : Nat) (many_1 : Int) (b0_1 : (Sl Int)) (b0_2 : Bool) (y : Int × (Sl Int) × Bool) (hy : F_impl_reader_take_M fu many_1 b0_1 b0_2 = some y) : GoodX E Try.prog 34 [(.ref 0 0), (ii many_1)] [(.box true [(.rs b0_1.z .u8 b0_1.n b0_1.f), (.bool b0_2)])] (enc_a22 y).1 (enc_a22 y).2 :=
 funM_good (ke := false) E_ok (pc_good (pc := pc_a22 fu) (hpc_a22 fu) hpx0) (fn := Try.f34) (by kernel_rfl) (by kernel_rfl) (by kernel_rfl) (lpok_a22 fu) (by kernel_rfl) (Nat.le_of_ble_eq_true (by kernel_rfl)) (fun d os hd => out_a22_enc d os _ hd) ((ev_a22 fu many_1 b0_1 b0_2).trans hy)
theorem good_a22 (fu : Nat) : GoodSX E Try.prog 34 (S_a22 fu) := by
 intro xs ins o h y hy
 unfold S_a22 at h
 split at h
 ·rename_i a1_0 za1000_0 na1000_0 fa1000_0 a1001_0
  cases h
  exact goodv_a22 fu a1_0 (⟨za1000_0, na1000_0, fa1000_0⟩ : (Sl Int)) a1001_0 y hy
 ·cases h
def F_impl_put_G_B0 {ρ : Type} (fu : Nat) (n1_1 : Int) (k0 : Nat → Nat → (Nat → Int) → Option ρ) (out0_0 : Nat) (k7_2 : Int) (on0_3 : Nat) (of0_4 : (Nat → Int)) (go : Nat → Int → Nat → (Nat → Int) → Option ρ) : Option ρ :=
 (bif (decide (k7_2 ≥ 0)) then ((bif (decide (0 ≤ (IntKind.wrap .i64 (8 * k7_2)))) then some () else none : Option Unit).bind fun _ => (bif (decide ((out0_0 + 1) ≤ 9223372036854775807) &&
  decide ((out0_0 + 1) * 1 ≤ 140737488355328)) then (go (out0_0 + 1) (IntKind.wrap .i64 (k7_2 - 1)) (out0_0 + 1) (fun i => if i < out0_0 then (of0_4 i) else ((fun i =>
  ([(IntKind.wrap .u8 (shrInt .i64 n1_1 (IntKind.wrap .i64 (8 * k7_2))))] : List (Int)).getD i (dflt .u8)) (i - out0_0)))) else none)) else (k0 out0_0 on0_3 of0_4))
def F_impl_put_G (fu out_0_0 : Nat) (n_1 many_2 : Int) (rn0 : Nat) (rf0 : (Nat → Int)) : Option (Nat × Nat × (Nat → Int)) :=
 (L (fun w0 go0 => F_impl_put_G_B0 fu n_1 (fun a b d => (some (a, b, d))) w0.1 w0.2.1 w0.2.2.1 w0.2.2.2 (fun q0 q1 q2 q3 => go0 (q0, q1, q2, q3))) fu ((out_0_0,
  (IntKind.wrap .i64 (many_2 - 1)), rn0, rf0) : Nat × Int × Nat × (Nat → Int)))
def pc_a23 (fu : Nat) : Pc RT den := ⟨pcf0, fun _ => false, fun _ => false, pcd0, pcd0, pcd0, pcx0⟩
def msk_a23 (b : Nat) : List Nat := match b with | 0 => (rg 2 5 (rg 8 15 [])) | 100000 => (rg 1 5 (rg 7 16 [])) | 300000 => [0] | _ => []
def ps_a23_0 : List (Pat RT) := (.flat (.os 0) :: .flat (.int .i64) :: (fq 5 (.flat (.int .i64) :: (fq 15 []))))
def os_a23_0 : List (OP RT) := [.row false .u8]
def conv_a23_0 (r : Raw den ps_a23_0 os_a23_0) : (Int) × (Nat × Int × Nat × (Nat → Int)) := (r.1.2.1, (r.1.1, (e5 r.1).2.2.1, r.2.1.1, r.2.1.2))
def back_a23_0 (c : Int) (w : Nat × Int × Nat × (Nat → Int)) : St RT den := ⟨((.os 0 w.1) :: (ii c) :: (qs 5 ((ii w.2.1) :: (qs 15 [])))), [(.row false .u8 w.2.2.1 w.2.2.2)]⟩
def Bk_a23_0 {ρ : Type} (fu : Nat) (c : Int) (k : Ex → St RT den → Option ρ) (w : Nat × Int × Nat × (Nat → Int)) (go : (Nat × Int × Nat × (Nat → Int)) → Option ρ) : Option ρ := F_impl_put_G_B0 fu c (fun a0 a1 a2 => k (.exit 0) ⟨((.os 0 a0) :: (qs 22 [])), [(.row false .u8 a1 a2)]⟩) w.1 w.2.1 w.2.2.1 w.2.2.2 (fun q0 q1 q2 q3 => go (q0, q1, q2, q3))
def lp_a23 (fu : Nat) : Lp RT den (Nat × Nat × (Nat → Int)) := ⟨fun b s k => match b with | 0 => handle ps_a23_0 os_a23_0 conv_a23_0 (Bk_a23_0 fu) fu s k | _ => none, inl0⟩
def enc_a23 (y : Nat × Nat × (Nat → Int)) : D RT den × List (Ob RT den) := (.os 0 y.1, [.row false .u8 y.2.1 y.2.2])
noncomputable def out_a23 : D RT den → List (Ob RT den) → Option (Nat × Nat × (Nat → Int)) := outG E .u8
theorem ev_a23 (fu out_0_0 : Nat) (n_1 many_2 : Int) (rn0 : Nat) (rf0 : (Nat → Int)) : evFunG E (pc_a23 fu) msk_a23 (lp_a23 fu) out_a23 83 [(.os 0 out_0_0), (ii n_1), (ii many_2)] [(.row false .u8 rn0 rf0)] = F_impl_put_G fu out_0_0 n_1 many_2 rn0 rf0 := by kernel_rfl
noncomputable def body_a23 : Code := Try.f83.body.getD .skip
noncomputable def lc_a23_0 : Code := ((loops 0 body_a23).getD 0 (0, .skip)).2
theorem round_a23_0 (fu : Nat) : RoundOk E (pc_a23 fu) msk_a23 (lp_a23 fu) 0 lc_a23_0 back_a23_0 0 100000 1 (Bk_a23_0 fu) := fun it k c w => by kernel_rfl
theorem lpok_a23_0 (fu : Nat) : LpAt E (pc_a23 fu) msk_a23 (lp_a23 fu) 0 0 100000 0 lc_a23_0 :=
 handle_ok (ps := ps_a23_0) (os := os_a23_0) (conv := conv_a23_0) (B := Bk_a23_0 fu) (fu := fu) back_a23_0 (fun raw => by kernel_rfl) 1 (fun c w => by kernel_rfl) (round_a23_0 fu)
theorem lpok_a23 (fu : Nat) : LpOk E (pc_a23 fu) 0 msk_a23 (lp_a23 fu) (loops 0 body_a23) := lp_nil (loop_all 1 (by kernel_rfl) fun i hi => match i, hi with
 | 0, _ => by
  have h : (loops 0 body_a23).getD 0 (0, .skip) = (0, lc_a23_0) := by kernel_rfl
  rw [h]; exact lpok_a23_0 fu
 | i + 1, hi => absurd hi (by omega)) (by kernel_rfl)
def S_a23 (fu : Nat) (xs : List (D RT den)) (ins : List (Ob RT den)) : Option (OutX RT den) := match xs, ins with | [.os 0 a0_0, .int .i64 a1_0, .int .i64 a2_0], [.row false .u8 rn0 rf0] => some ⟨Nat × Nat × (Nat → Int), F_impl_put_G fu a0_0 a1_0 a2_0 rn0 rf0, enc_a23⟩ | _, _ => none
theorem goodv_a23 (fu out_0_0 : Nat) (n_1 many_2 : Int) (rn0 : Nat) (rf0 : (Nat → Int)) (y : Nat × Nat × (Nat → Int)) (hy : F_impl_put_G fu out_0_0 n_1 many_2 rn0 rf0 = some y) : GoodG E Try.prog 83 [(.os 0 out_0_0), (ii n_1), (ii many_2)] [(.row false .u8 rn0 rf0)] (enc_a23 y).1 (enc_a23 y).2 :=
 funG_good E_ok (pc_good (pc := pc_a23 fu) hpc0 hpx0) (fn := Try.f83) (by kernel_rfl) (by kernel_rfl) (by kernel_rfl) (lpok_a23 fu) (fun d os hd => outG_enc hd) ((ev_a23 fu out_0_0 n_1 many_2 rn0 rf0).trans hy)
theorem good_a23 (fu : Nat) : ∀ xs ins o, S_a23 fu xs ins = some o → ∀ y, o.x = some y → GoodG E Try.prog 83 xs ins (o.g y).1 (o.g y).2 := by
 intro xs ins o h y hy
 unfold S_a23 at h
 split at h
 ·rename_i a0_0 a1_0 a2_0 rn0 rf0
  cases h
  exact goodv_a23 fu a0_0 a1_0 a2_0 rn0 rf0 y hy
 ·cases h
def F_impl_packConfig_H_B0 {ρ : Type} (fu : Nat) (t21_1 : (Sl S_impl_Backend)) (t22_2 o0_4 : Int) (o0_5 : (Sl S_impl_Backend)) (o0_6 : (Sl S_impl_Vip)) (k0 : Nat → Nat → (Nat → Int) → Option ρ) (out3_0 : Nat) (t23_3 : Int) (on1_7 : Nat) (of1_8 : (Nat → Int)) (go : Nat → Int → Nat → (Nat → Int) → Option ρ) : Option ρ :=
 (bif (decide (t23_3 < t22_2)) then ((bif (decide (0 ≤ t23_3) && decide ((Int.toNat t23_3) < t21_1.n)) then some () else none : Option Unit).bind fun _ => (bif (t21_1.f (Int.toNat t23_3)).Up then
  ((F_impl_put_G fu out3_0 ((t21_1.f (Int.toNat t23_3)).Name) 2 on1_7 of1_8).bind fun a => ((F_impl_put_G fu a.1 ((t21_1.f (Int.toNat t23_3)).Address) 4 a.2.1 a.2.2).bind fun b =>
  (bif (decide ((b.1 + 1) ≤ 9223372036854775807) && decide ((b.1 + 1) * 1 ≤ 140737488355328)) then (go (b.1 + 1) (IntKind.wrap .i64 (t23_3 + 1)) (b.1 + 1) (fun i =>
  if i < b.1 then (b.2.2 i) else ((fun i => ([(IntKind.wrap .u8 (IntKind.wrap .i64 ((IntKind.wrap .i64 ((IntKind.wrap .i64 ((t21_1.f (Int.toNat t23_3)).Weight * 8)) + (IntKind.wrap .i64 ((t21_1.f (Int.toNat t23_3)).Stage * 2)))) + 1)))] : List (Int)).getD i (dflt .u8)) (i - b.1)))) else
  none))) else ((F_impl_put_G fu out3_0 ((t21_1.f (Int.toNat t23_3)).Name) 2 on1_7 of1_8).bind fun d => ((F_impl_put_G fu d.1 ((t21_1.f (Int.toNat t23_3)).Address) 4 d.2.1 d.2.2).bind fun g =>
  (bif (decide ((g.1 + 1) ≤ 9223372036854775807) && decide ((g.1 + 1) * 1 ≤ 140737488355328)) then (go (g.1 + 1) (IntKind.wrap .i64 (t23_3 + 1)) (g.1 + 1) (fun i =>
  if i < g.1 then (g.2.2 i) else ((fun i => ([(IntKind.wrap .u8 (IntKind.wrap .i64 ((IntKind.wrap .i64 ((t21_1.f (Int.toNat t23_3)).Weight * 8)) + (IntKind.wrap .i64 ((t21_1.f (Int.toNat t23_3)).Stage * 2)))))] : List (Int)).getD i (dflt .u8)) (i - g.1)))) else
  none))))) else (k0 out3_0 on1_7 of1_8))
def F_impl_packConfig_H_B4 {ρ : Type} (fu : Nat) (t58_1 : (Sl S_impl_Vip)) (t59_2 t60_3 : Int) (t82_4 : (Sl Int)) (t83_5 o0_7 : Int) (o0_8 : (Sl S_impl_Backend)) (o0_9 : (Sl S_impl_Vip)) (o2_12 o2_13 o2_14 : Int) (o2_15 : (Sl Int)) (k0 : Nat → Nat → (Nat → Int) → Option ρ) (out3_0 : Nat) (t84_6 : Int) (on1_10 : Nat) (of1_11 : (Nat → Int)) (go : Nat → Int → Nat → (Nat → Int) → Option ρ) : Option ρ :=
 (bif (decide (t84_6 < t83_5)) then ((bif (decide (0 ≤ t84_6) && decide ((Int.toNat t84_6) < t82_4.n)) then some () else none : Option Unit).bind fun _ => ((F_impl_put_G fu out3_0 (t82_4.f (Int.toNat t84_6)) 2 on1_10 of1_11).bind fun a =>
  (go a.1 (IntKind.wrap .i64 (t84_6 + 1)) a.2.1 a.2.2))) else (k0 out3_0 on1_10 of1_11))
def F_impl_packConfig_H_B2 {ρ : Type} (fu : Nat) (t58_1 : (Sl S_impl_Vip)) (t59_2 o0_4 : Int) (o0_5 : (Sl S_impl_Backend)) (o0_6 : (Sl S_impl_Vip)) (k0 : Nat → Nat → (Nat → Int) → Option ρ) (out3_0 : Nat) (t60_3 : Int) (on1_7 : Nat) (of1_8 : (Nat → Int)) (go : Nat → Int → Nat → (Nat → Int) → Option ρ) : Option ρ :=
 (bif (decide (t60_3 < t59_2)) then ((bif (decide (0 ≤ t60_3) && decide ((Int.toNat t60_3) < t58_1.n)) then some () else none : Option Unit).bind fun _ => ((F_impl_put_G fu out3_0 ((t58_1.f (Int.toNat t60_3)).Address) 4 on1_7 of1_8).bind fun a =>
  ((F_impl_put_G fu a.1 ((t58_1.f (Int.toNat t60_3)).Port) 2 a.2.1 a.2.2).bind fun b => (bif (decide ((b.1 + 2) ≤ 9223372036854775807) && decide ((b.1 + 2) * 1 ≤ 140737488355328)) then
  (L (fun w4 go4 => F_impl_packConfig_H_B4 fu t58_1 t59_2 t60_3 ((t58_1.f (Int.toNat t60_3)).Names) (((t58_1.f (Int.toNat t60_3)).Names.n : Nat) : Int) o0_4 o0_5 o0_6 ((t58_1.f (Int.toNat t60_3)).Address) ((t58_1.f (Int.toNat t60_3)).Port) ((t58_1.f (Int.toNat t60_3)).Proto) ((t58_1.f (Int.toNat t60_3)).Names) (fun d g h =>
  (go d (IntKind.wrap .i64 (t60_3 + 1)) g h)) w4.1 w4.2.1 w4.2.2.1 w4.2.2.2 (fun q0 q1 q2 q3 => go4 (q0, q1, q2, q3))) fu (((b.1 + 2), 0, (b.1 + 2), (fun i =>
  if i < b.1 then (b.2.2 i) else ((fun i => ([(IntKind.wrap .u8 (t58_1.f (Int.toNat t60_3)).Proto), (IntKind.wrap .u8 (((t58_1.f (Int.toNat t60_3)).Names.n : Nat) : Int))] : List (Int)).getD i (dflt .u8)) (i - b.1)))) : Nat × Int × Nat × (Nat → Int))) else
  none)))) else (k0 out3_0 on1_7 of1_8))
def F_impl_packConfig_H (fu : Nat) (c_0 : S_impl_Config) : Option ((Sl Int)) :=
 ((F_impl_put_G fu 0 c_0.Version 4 0 (fun _ => dflt .u8)).bind fun a => (bif (decide ((a.1 + 1) ≤ 9223372036854775807) && decide ((a.1 + 1) * 1 ≤ 140737488355328)) then
  (L (fun w0 go0 => F_impl_packConfig_H_B0 fu c_0.Backends ((c_0.Backends.n : Nat) : Int) c_0.Version c_0.Backends c_0.Vips (fun b d g => (bif (decide ((b + 1) ≤ 9223372036854775807) &&
  decide ((b + 1) * 1 ≤ 140737488355328)) then (L (fun w2 go2 => F_impl_packConfig_H_B2 fu c_0.Vips ((c_0.Vips.n : Nat) : Int) c_0.Version c_0.Backends c_0.Vips (fun h j l =>
  (some (⟨none, h, l⟩ : (Sl Int)))) w2.1 w2.2.1 w2.2.2.1 w2.2.2.2 (fun q0 q1 q2 q3 => go2 (q0, q1, q2, q3))) fu (((b + 1), 0, (b + 1), (fun i => if i < b then
  (g i) else ((fun i => ([(IntKind.wrap .u8 ((c_0.Vips.n : Nat) : Int))] : List (Int)).getD i (dflt .u8)) (i - b)))) : Nat × Int × Nat × (Nat → Int))) else none)) w0.1 w0.2.1 w0.2.2.1 w0.2.2.2 (fun q0 q1 q2 q3 =>
  go0 (q0, q1, q2, q3))) fu (((a.1 + 1), 0, (a.1 + 1), (fun i => if i < a.1 then (a.2.2 i) else ((fun i => ([(IntKind.wrap .u8 ((c_0.Backends.n : Nat) : Int))] : List (Int)).getD i (dflt .u8)) (i - a.1)))) : Nat × Int × Nat × (Nat → Int))) else
  none))
def pcx_a24 (fu f : Nat) (xs : List (D RT den)) (ins : List (Ob RT den)) : Option (OutX RT den) := match f with | 83 => S_a23 fu xs ins | _ => none
def pcd_a24 : Nat → Bool := fun _ => false
def pcg_a24 : Nat → Bool := fun f => match f with | 83 => true | _ => false
def pc_a24 (fu : Nat) : Pc RT den := ⟨pcf0, fun _ => false, fun _ => false, pcd_a24, pcd0, pcg_a24, pcx_a24 fu⟩
def msk_a24 (b : Nat) : List Nat := match b with | 0 => (0 :: 2 :: (rg 4 17 (rg 24 70 []))) | 100000 => (0 :: (rg 4 90 [])) | 2 => (0 :: 1 :: 2 :: (rg 4 54 (rg 61 33 []))) | 100002 => (0 :: 1 :: (rg 4 90 [])) | 4 => (0 :: 1 :: 2 :: (rg 4 54 (rg 61 21 (rg 85 9 [])))) | 100004 => (0 :: 1 :: (rg 4 54 (rg 61 33 []))) | 300000 => [3] | 300002 => [3] | _ => []
def ps_a24_0 : List (Pat RT) := (.flat .q :: .flat (.ref 0 0) :: .flat .q :: .flat (.os 1) :: (fq 17 (.flat (.rs .impl_Backend) :: .flat (.int .i64) :: .flat (.int .i64) :: (fq 70 []))))
def os_a24_0 : List (OP RT) := [.box false [(.int .i64), (.rs .impl_Backend), (.rs .impl_Vip)], .row false .u8]
def conv_a24_0 (r : Raw den ps_a24_0 os_a24_0) : (Yd1) × (Nat × Int × Nat × (Nat → Int)) := (((e20 r.1).2.1, (e20 r.1).2.2.1, r.2.1.1, r.2.1.2.1, r.2.1.2.2.1), (r.1.2.2.2.1, (e20 r.1).2.2.2.1, r.2.2.1.1, r.2.2.1.2))
def back_a24_0 (c : Yd1) (w : Nat × Int × Nat × (Nat → Int)) : St RT den := ⟨(.q :: (.ref 0 0) :: .q :: (.os 1 w.1) :: (qs 17 ((.rs c.1.z .impl_Backend c.1.n c.1.f) :: (ii c.2.1) :: (ii w.2.1) :: (qs 70 [])))), [(.box false [(ii c.2.2.1), (.rs c.2.2.2.1.z .impl_Backend c.2.2.2.1.n c.2.2.2.1.f), (.rs c.2.2.2.2.z .impl_Vip c.2.2.2.2.n c.2.2.2.2.f)]), (.row false .u8 w.2.2.1 w.2.2.2)]⟩
def Bk_a24_0 {ρ : Type} (fu : Nat) (c : Yd1) (k : Ex → St RT den → Option ρ) (w : Nat × Int × Nat × (Nat → Int)) (go : (Nat × Int × Nat × (Nat → Int)) → Option ρ) : Option ρ := F_impl_packConfig_H_B0 fu c.1 c.2.1 c.2.2.1 c.2.2.2.1 c.2.2.2.2 (fun a0 a1 a2 => k (.exit 0) ⟨(.q :: (.ref 0 0) :: .q :: (.os 1 a0) :: (qs 90 [])), [(.box false [(ii c.2.2.1), (.rs c.2.2.2.1.z .impl_Backend c.2.2.2.1.n c.2.2.2.1.f), (.rs c.2.2.2.2.z .impl_Vip c.2.2.2.2.n c.2.2.2.2.f)]), (.row false .u8 a1 a2)]⟩) w.1 w.2.1 w.2.2.1 w.2.2.2 (fun q0 q1 q2 q3 => go (q0, q1, q2, q3))
def ps_a24_4 : List (Pat RT) := (.flat .q :: .flat .q :: .flat .q :: .flat (.os 1) :: (fq 54 (.flat (.rs .impl_Vip) :: .flat (.int .i64) :: .flat (.int .i64) :: (fq 21 (.flat (.rs .i64) :: .flat (.int .i64) :: .flat (.int .i64) :: (fq 9 []))))))
def os_a24_4 : List (OP RT) := [.box false [(.int .i64), (.rs .impl_Backend), (.rs .impl_Vip)], .row false .u8, .box false [(.int .i64), (.int .i64), (.int .i64), (.rs .i64)]]
def conv_a24_4 (r : Raw den ps_a24_4 os_a24_4) : (Yd5) × (Nat × Int × Nat × (Nat → Int)) := (((e5 (e10 (e40 r.1))).2.2.2.1, (e5 (e10 (e40 r.1))).2.2.2.2.1, (e20 (e40 r.1)).1, (e40 (e40 r.1)).2.2.1, (e40 (e40 r.1)).2.2.2.1, r.2.1.1, r.2.1.2.1, r.2.1.2.2.1, r.2.2.2.1.1, r.2.2.2.1.2.1, r.2.2.2.1.2.2.1, r.2.2.2.1.2.2.2.1), (r.1.2.2.2.1, (e40 (e40 r.1)).2.2.2.2.1, r.2.2.1.1, r.2.2.1.2))
def back_a24_4 (c : Yd5) (w : Nat × Int × Nat × (Nat → Int)) : St RT den := ⟨(.q :: .q :: .q :: (.os 1 w.1) :: (qs 54 ((.rs c.1.z .impl_Vip c.1.n c.1.f) :: (ii c.2.1) :: (ii c.2.2.1) :: (qs 21 ((.rs c.2.2.2.1.z .i64 c.2.2.2.1.n c.2.2.2.1.f) :: (ii c.2.2.2.2.1) :: (ii w.2.1) :: (qs 9 [])))))), [(.box false [(ii (e5 c).1), (.rs (e5 c).2.1.z .impl_Backend (e5 c).2.1.n (e5 c).2.1.f), (.rs (e5 c).2.2.1.z .impl_Vip (e5 c).2.2.1.n (e5 c).2.2.1.f)]), (.row false .u8 w.2.2.1 w.2.2.2), (.box false [(ii (e5 c).2.2.2.1), (ii (e5 c).2.2.2.2.1), (ii (e10 c).1), (.rs (e10 c).2.z .i64 (e10 c).2.n (e10 c).2.f)])]⟩
def Bk_a24_4 {ρ : Type} (fu : Nat) (c : Yd5) (k : Ex → St RT den → Option ρ) (w : Nat × Int × Nat × (Nat → Int)) (go : (Nat × Int × Nat × (Nat → Int)) → Option ρ) : Option ρ := F_impl_packConfig_H_B4 fu c.1 c.2.1 c.2.2.1 c.2.2.2.1 c.2.2.2.2.1 (e5 c).1 (e5 c).2.1 (e5 c).2.2.1 (e5 c).2.2.2.1 (e5 c).2.2.2.2.1 (e10 c).1 (e10 c).2 (fun a0 a1 a2 => k (.exit 4) ⟨(.q :: .q :: .q :: (.os 1 a0) :: (qs 54 ((.rs c.1.z .impl_Vip c.1.n c.1.f) :: (ii c.2.1) :: (ii c.2.2.1) :: (qs 33 [])))), [(.box false [(ii (e5 c).1), (.rs (e5 c).2.1.z .impl_Backend (e5 c).2.1.n (e5 c).2.1.f), (.rs (e5 c).2.2.1.z .impl_Vip (e5 c).2.2.1.n (e5 c).2.2.1.f)]), (.row false .u8 a1 a2), (.box false [(ii (e5 c).2.2.2.1), (ii (e5 c).2.2.2.2.1), (ii (e10 c).1), (.rs (e10 c).2.z .i64 (e10 c).2.n (e10 c).2.f)])]⟩) w.1 w.2.1 w.2.2.1 w.2.2.2 (fun q0 q1 q2 q3 => go (q0, q1, q2, q3))
def ps_a24_2 : List (Pat RT) := (.flat .q :: .flat .q :: .flat .q :: .flat (.os 1) :: (fq 54 (.flat (.rs .impl_Vip) :: .flat (.int .i64) :: .flat (.int .i64) :: (fq 33 []))))
def os_a24_2 : List (OP RT) := [.box false [(.int .i64), (.rs .impl_Backend), (.rs .impl_Vip)], .row false .u8]
def conv_a24_2 (r : Raw den ps_a24_2 os_a24_2) : (Yd0) × (Nat × Int × Nat × (Nat → Int)) := (((e5 (e10 (e40 r.1))).2.2.2.1, (e5 (e10 (e40 r.1))).2.2.2.2.1, r.2.1.1, r.2.1.2.1, r.2.1.2.2.1), (r.1.2.2.2.1, (e20 (e40 r.1)).1, r.2.2.1.1, r.2.2.1.2))
def back_a24_2 (c : Yd0) (w : Nat × Int × Nat × (Nat → Int)) : St RT den := ⟨(.q :: .q :: .q :: (.os 1 w.1) :: (qs 54 ((.rs c.1.z .impl_Vip c.1.n c.1.f) :: (ii c.2.1) :: (ii w.2.1) :: (qs 33 [])))), [(.box false [(ii c.2.2.1), (.rs c.2.2.2.1.z .impl_Backend c.2.2.2.1.n c.2.2.2.1.f), (.rs c.2.2.2.2.z .impl_Vip c.2.2.2.2.n c.2.2.2.2.f)]), (.row false .u8 w.2.2.1 w.2.2.2)]⟩
def Bk_a24_2 {ρ : Type} (fu : Nat) (c : Yd0) (k : Ex → St RT den → Option ρ) (w : Nat × Int × Nat × (Nat → Int)) (go : (Nat × Int × Nat × (Nat → Int)) → Option ρ) : Option ρ := F_impl_packConfig_H_B2 fu c.1 c.2.1 c.2.2.1 c.2.2.2.1 c.2.2.2.2 (fun a0 a1 a2 => k (.exit 2) ⟨(.q :: .q :: .q :: (.os 1 a0) :: (qs 90 [])), [(.box false [(ii c.2.2.1), (.rs c.2.2.2.1.z .impl_Backend c.2.2.2.1.n c.2.2.2.1.f), (.rs c.2.2.2.2.z .impl_Vip c.2.2.2.2.n c.2.2.2.2.f)]), (.row false .u8 a1 a2)]⟩) w.1 w.2.1 w.2.2.1 w.2.2.2 (fun q0 q1 q2 q3 => go (q0, q1, q2, q3))
def lp_a24 (fu : Nat) : Lp RT den ((Sl Int)) := ⟨fun b s k => match b with | 0 => handle ps_a24_0 os_a24_0 conv_a24_0 (Bk_a24_0 fu) fu s k | 2 => handle ps_a24_2 os_a24_2 conv_a24_2 (Bk_a24_2 fu) fu s k | 4 => handle ps_a24_4 os_a24_4 conv_a24_4 (Bk_a24_4 fu) fu s k | _ => none, inl0⟩
theorem ev_a24 (fu : Nat) (c_0 : S_impl_Config) : evFunX E false (pc_a24 fu) msk_a24 (lp_a24 fu) out_sl_u8_H 37 [(.agg [(ii c_0.Version), (.rs c_0.Backends.z .impl_Backend c_0.Backends.n c_0.Backends.f), (.rs c_0.Vips.z .impl_Vip c_0.Vips.n c_0.Vips.f)])] [] = F_impl_packConfig_H fu c_0 := by kernel_rfl
noncomputable def body_a24 : Code := Try.f37.body.getD .skip
noncomputable def lc_a24_0 : Code := ((loops 0 body_a24).getD 0 (0, .skip)).2
theorem round_a24_0 (fu : Nat) : RoundOk E (pc_a24 fu) msk_a24 (lp_a24 fu) 0 lc_a24_0 back_a24_0 0 100000 2 (Bk_a24_0 fu) := fun it k c w => by kernel_rfl
theorem lpok_a24_0 (fu : Nat) : LpAt E (pc_a24 fu) msk_a24 (lp_a24 fu) 0 0 100000 0 lc_a24_0 :=
 handle_ok (ps := ps_a24_0) (os := os_a24_0) (conv := conv_a24_0) (B := Bk_a24_0 fu) (fu := fu) back_a24_0 (fun raw => by kernel_rfl) 2 (fun c w => by kernel_rfl) (round_a24_0 fu)
noncomputable def lc_a24_2 : Code := ((loops 0 body_a24).getD 1 (0, .skip)).2
theorem round_a24_2 (fu : Nat) : RoundOk E (pc_a24 fu) msk_a24 (lp_a24 fu) 2 lc_a24_2 back_a24_2 2 100002 2 (Bk_a24_2 fu) := fun it k c w => by kernel_rfl
theorem lpok_a24_2 (fu : Nat) : LpAt E (pc_a24 fu) msk_a24 (lp_a24 fu) 2 2 100002 2 lc_a24_2 :=
 handle_ok (ps := ps_a24_2) (os := os_a24_2) (conv := conv_a24_2) (B := Bk_a24_2 fu) (fu := fu) back_a24_2 (fun raw => by kernel_rfl) 2 (fun c w => by kernel_rfl) (round_a24_2 fu)
noncomputable def lc_a24_4 : Code := ((loops 0 body_a24).getD 2 (0, .skip)).2
theorem round_a24_4 (fu : Nat) : RoundOk E (pc_a24 fu) msk_a24 (lp_a24 fu) 4 lc_a24_4 back_a24_4 4 100004 3 (Bk_a24_4 fu) := fun it k c w => by kernel_rfl
theorem lpok_a24_4 (fu : Nat) : LpAt E (pc_a24 fu) msk_a24 (lp_a24 fu) 4 4 100004 4 lc_a24_4 :=
 handle_ok (ps := ps_a24_4) (os := os_a24_4) (conv := conv_a24_4) (B := Bk_a24_4 fu) (fu := fu) back_a24_4 (fun raw => by kernel_rfl) 3 (fun c w => by kernel_rfl) (round_a24_4 fu)
theorem lpok_a24 (fu : Nat) : LpOk E (pc_a24 fu) 0 msk_a24 (lp_a24 fu) (loops 0 body_a24) := lp_nil (loop_all 3 (by kernel_rfl) fun i hi => match i, hi with
 | 0, _ => by
  have h : (loops 0 body_a24).getD 0 (0, .skip) = (0, lc_a24_0) := by kernel_rfl
  rw [h]; exact lpok_a24_0 fu
 | 1, _ => by
  have h : (loops 0 body_a24).getD 1 (0, .skip) = (2, lc_a24_2) := by kernel_rfl
  rw [h]; exact lpok_a24_2 fu
 | 2, _ => by
  have h : (loops 0 body_a24).getD 2 (0, .skip) = (4, lc_a24_4) := by kernel_rfl
  rw [h]; exact lpok_a24_4 fu
 | i + 3, hi => absurd hi (by omega)) (by kernel_rfl)
def S_a24 (fu : Nat) (xs : List (D RT den)) (ins : List (Ob RT den)) : Option (OutX RT den) := match xs, ins with | [.agg [.int .i64 a0_1, .rs za0_2 .impl_Backend na0_2 fa0_2, .rs za0_3 .impl_Vip na0_3 fa0_3]], [] => some ⟨(Sl Int), F_impl_packConfig_H fu (⟨a0_1, (⟨za0_2, na0_2, fa0_2⟩ : (Sl S_impl_Backend)), (⟨za0_3, na0_3, fa0_3⟩ : (Sl S_impl_Vip))⟩ : S_impl_Config), enc_sl_u8_H⟩ | _, _ => none
theorem hpx_a24 (fu : Nat) : HpxOk E Try.prog pcd_a24 pcg_a24 (pcx_a24 fu) := by
 intro f xs ins o h
 unfold pcx_a24 at h
 split at h
 ·exact good_a23 fu xs ins o h
 ·cases h
theorem goodv_a24 (fu : Nat) (c_0 : S_impl_Config) (y : (Sl Int)) (hy : F_impl_packConfig_H fu c_0 = some y) : GoodX E Try.prog 37 [(.agg [(ii c_0.Version), (.rs c_0.Backends.z .impl_Backend c_0.Backends.n c_0.Backends.f), (.rs c_0.Vips.z .impl_Vip c_0.Vips.n c_0.Vips.f)])] [] (enc_sl_u8_H y).1 (enc_sl_u8_H y).2 :=
 funX_good (ke := false) E_ok (pc_good (pc := pc_a24 fu) hpc0 (hpx_a24 fu)) (fn := Try.f37) (by kernel_rfl) (by kernel_rfl) (by kernel_rfl) (lpok_a24 fu) (by kernel_rfl) (Nat.zero_le _) (fun d os hd => out_sl_u8_H_enc d os _ hd) ((ev_a24 fu c_0).trans hy)
theorem good_a24 (fu : Nat) : GoodSX E Try.prog 37 (S_a24 fu) := by
 intro xs ins o h y hy
 unfold S_a24 at h
 split at h
 ·rename_i a0_1 za0_2 na0_2 fa0_2 za0_3 na0_3 fa0_3
  cases h
  exact goodv_a24 fu (⟨a0_1, (⟨za0_2, na0_2, fa0_2⟩ : (Sl S_impl_Backend)), (⟨za0_3, na0_3, fa0_3⟩ : (Sl S_impl_Vip))⟩ : S_impl_Config) y hy
 ·cases h
def F_impl_in (fu : Nat) (n_0 low_1 high_2 : Int) : Option (Bool) :=
 (((bif (decide (n_0 ≥ low_1)) then (some (decide (n_0 ≤ high_2))) else (some false)) : Option Bool).bind fun a => (some a))
def pc_a25 (fu : Nat) : Pc RT den := ⟨pcf0, fun _ => false, fun _ => false, pcd0, pcd0, pcd0, pcx0⟩
def msk_a25 (b : Nat) : List Nat := match b with | 200001 => [6] | _ => []
def lp_a25 (fu : Nat) : Lp RT den (Bool) := ⟨fun b s k => none, inl0⟩
theorem ev_a25 (fu : Nat) (n_0 low_1 high_2 : Int) : evFun E (pc_a25 fu) msk_a25 (lp_a25 fu) out_bo 77 [(ii n_0), (ii low_1), (ii high_2)] = F_impl_in fu n_0 low_1 high_2 := by kernel_rfl
noncomputable def body_a25 : Code := Try.f77.body.getD .skip
theorem lpok_a25 (fu : Nat) : LpOk E (pc_a25 fu) 0 msk_a25 (lp_a25 fu) (loops 0 body_a25) := lp_nil (loop_nil (by kernel_rfl)) (by kernel_rfl)
def S_a25 (fu : Nat) (xs : List (D RT den)) : Option (Out RT den) := match xs with | [.int .i64 a0_0, .int .i64 a1_0, .int .i64 a2_0] => some ⟨Bool, F_impl_in fu a0_0 a1_0 a2_0, enc_bo, fun _ => true⟩ | _ => none
theorem goodv_a25 (fu : Nat) (n_0 low_1 high_2 : Int) (y : Bool) (hy : F_impl_in fu n_0 low_1 high_2 = some y) : Good E Try.prog 77 [(ii n_0), (ii low_1), (ii high_2)] (enc_bo y) :=
 fun_good E_ok (pc_good (pc := pc_a25 fu) hpc0 hpx0) (fn := Try.f77) (by kernel_rfl) (by kernel_rfl) (by kernel_rfl) (lpok_a25 fu) (fun d hd => out_bo_enc d _ hd) ((ev_a25 fu n_0 low_1 high_2).trans hy)
theorem good_a25 (fu : Nat) : GoodS E Try.prog 77 (S_a25 fu) := by
 intro xs o h y hy
 unfold S_a25 at h
 split at h
 ·rename_i a0_0 a1_0 a2_0
  cases h
  exact goodv_a25 fu a0_0 a1_0 a2_0 y hy
 ·cases h
def F_impl_isName (fu : Nat) (name_0 : Int) : Option (Bool) :=
 ((F_impl_in fu name_0 1 999).bind fun a => (some a))
def pcf_a26 (fu f : Nat) (xs : List (D RT den)) : Option (Out RT den) := match f with | 77 => S_a25 fu xs | _ => none
def pc_a26 (fu : Nat) : Pc RT den := ⟨pcf_a26 fu, fun _ => false, fun _ => false, pcd0, pcd0, pcd0, pcx0⟩
def msk_a26 (b : Nat) : List Nat := []
def lp_a26 (fu : Nat) : Lp RT den (Bool) := ⟨fun b s k => none, inl0⟩
theorem ev_a26 (fu : Nat) (name_0 : Int) : evFun E (pc_a26 fu) msk_a26 (lp_a26 fu) out_bo 93 [(ii name_0)] = F_impl_isName fu name_0 := by kernel_rfl
noncomputable def body_a26 : Code := Try.f93.body.getD .skip
theorem lpok_a26 (fu : Nat) : LpOk E (pc_a26 fu) 0 msk_a26 (lp_a26 fu) (loops 0 body_a26) := lp_nil (loop_nil (by kernel_rfl)) (by kernel_rfl)
def S_a26 (fu : Nat) (xs : List (D RT den)) : Option (Out RT den) := match xs with | [.int .i64 a0_0] => some ⟨Bool, F_impl_isName fu a0_0, enc_bo, fun _ => true⟩ | _ => none
theorem hpc_a26 (fu : Nat) : HpcOk E Try.prog (pcf_a26 fu) := by
 intro f xs o h
 unfold pcf_a26 at h
 split at h
 ·exact good_a25 fu xs o h
 ·cases h
theorem goodv_a26 (fu : Nat) (name_0 : Int) (y : Bool) (hy : F_impl_isName fu name_0 = some y) : Good E Try.prog 93 [(ii name_0)] (enc_bo y) :=
 fun_good E_ok (pc_good (pc := pc_a26 fu) (hpc_a26 fu) hpx0) (fn := Try.f93) (by kernel_rfl) (by kernel_rfl) (by kernel_rfl) (lpok_a26 fu) (fun d hd => out_bo_enc d _ hd) ((ev_a26 fu name_0).trans hy)
theorem good_a26 (fu : Nat) : GoodS E Try.prog 93 (S_a26 fu) := by
 intro xs o h y hy
 unfold S_a26 at h
 split at h
 ·rename_i a0_0
  cases h
  exact goodv_a26 fu a0_0 y hy
 ·cases h
def F_impl_isAddress (fu : Nat) (a_0 : Int) : Option (Bool) :=
 ((F_impl_in fu a_0 0 4294967295).bind fun a => (some a))
def pcf_a27 (fu f : Nat) (xs : List (D RT den)) : Option (Out RT den) := match f with | 77 => S_a25 fu xs | _ => none
def pc_a27 (fu : Nat) : Pc RT den := ⟨pcf_a27 fu, fun _ => false, fun _ => false, pcd0, pcd0, pcd0, pcx0⟩
def msk_a27 (b : Nat) : List Nat := []
def lp_a27 (fu : Nat) : Lp RT den (Bool) := ⟨fun b s k => none, inl0⟩
theorem ev_a27 (fu : Nat) (a_0 : Int) : evFun E (pc_a27 fu) msk_a27 (lp_a27 fu) out_bo 63 [(ii a_0)] = F_impl_isAddress fu a_0 := by kernel_rfl
noncomputable def body_a27 : Code := Try.f63.body.getD .skip
theorem lpok_a27 (fu : Nat) : LpOk E (pc_a27 fu) 0 msk_a27 (lp_a27 fu) (loops 0 body_a27) := lp_nil (loop_nil (by kernel_rfl)) (by kernel_rfl)
def S_a27 (fu : Nat) (xs : List (D RT den)) : Option (Out RT den) := match xs with | [.int .i64 a0_0] => some ⟨Bool, F_impl_isAddress fu a0_0, enc_bo, fun _ => true⟩ | _ => none
theorem hpc_a27 (fu : Nat) : HpcOk E Try.prog (pcf_a27 fu) := by
 intro f xs o h
 unfold pcf_a27 at h
 split at h
 ·exact good_a25 fu xs o h
 ·cases h
theorem goodv_a27 (fu : Nat) (a_0 : Int) (y : Bool) (hy : F_impl_isAddress fu a_0 = some y) : Good E Try.prog 63 [(ii a_0)] (enc_bo y) :=
 fun_good E_ok (pc_good (pc := pc_a27 fu) (hpc_a27 fu) hpx0) (fn := Try.f63) (by kernel_rfl) (by kernel_rfl) (by kernel_rfl) (lpok_a27 fu) (fun d hd => out_bo_enc d _ hd) ((ev_a27 fu a_0).trans hy)
theorem good_a27 (fu : Nat) : GoodS E Try.prog 63 (S_a27 fu) := by
 intro xs o h y hy
 unfold S_a27 at h
 split at h
 ·rename_i a0_0
  cases h
  exact goodv_a27 fu a0_0 y hy
 ·cases h
end Go.Proofs.Ytcmfekgdlaffkaa.Pq
