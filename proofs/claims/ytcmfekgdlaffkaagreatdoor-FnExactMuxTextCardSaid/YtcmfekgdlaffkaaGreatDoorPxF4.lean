/- The functions' evaluated forms, each a proved summary. Conditions: none. -/
import Derived.Test.YtcmfekgdlaffkaaGreatDoorPxF3
namespace Go.Proofs.YtcmfekgdlaffkaaGreatDoor.Px
open Go Go.RowKit Go.Proofs Vm
set_option linter.unusedVariables false
set_option linter.unusedSimpArgs false
set_option maxRecDepth 100000
abbrev Ye0 : Type := (Sl S_impl_Share) × Nat × Nat × Nat × Nat
abbrev Ye1 : Type := (Sl Int) × Int × (Sl S_impl_Backend) × (Sl S_impl_Vip) × Int
abbrev Ye2 : Type := (Sl S_impl_Share) × Nat × Nat × (Sl S_impl_Share) × Int × Nat × Nat
abbrev Ye3 : Type := (Sl S_impl_Share) × Nat × Int × (Sl S_impl_Share) × Int × Nat × (Nat → Int)
abbrev Ye4 : Type := (Sl S_impl_Share) × Nat × Nat × Int × (Sl S_impl_Share) × Int × Int × Int × Nat × Nat × Int × Int
abbrev Ye5 : Type := (Sl S_impl_Share) × Nat × Int × Nat × Int × (Sl S_impl_Share) × Int × Int × Int × Int × Nat × (Nat → Int) × Nat × Int × Int
def F_impl_fill_B0 {ρ : Type} (fu : Nat) (list0_0 : (Sl S_impl_Share)) (table3_1 : Nat) (left4_2 : Int) (t16_4 : (Sl S_impl_Share)) (t17_5 : Int) (on0_7 : Nat) (of0_8 : (Nat → Int)) (k0 : Nat → Nat → (Nat → (Sl Int)) → Option ρ) (orders5_3 : Nat) (t18_6 : Int) (on1_9 : Nat) (of1_10 : (Nat → (Sl Int))) (go : Nat → Int → Nat → (Nat → (Sl Int)) → Option ρ) : Option ρ :=
 (bif (decide (t18_6 < t17_5)) then ((bif (decide (0 ≤ t18_6) && decide ((Int.toNat t18_6) < t16_4.n)) then some () else none : Option Unit).bind fun _ => ((F_impl_permutation fu (t16_4.f (Int.toNat t18_6)).Name).bind fun y189 =>
  (bif (decide ((orders5_3 + 1) ≤ 9223372036854775807) && decide ((orders5_3 + 1) * 24 ≤ 140737488355328)) then (go (orders5_3 + 1) (IntKind.wrap .i64 (t18_6 + 1)) (orders5_3 + 1) (fun i =>
  if i < orders5_3 then (of1_10 i) else ((fun i => ([y189] : List ((Sl Int))).getD i (dflt .sl_i64)) (i - orders5_3)))) else none))) else (k0 orders5_3 on1_9 of1_10))
def F_impl_fill_B8 {ρ : Type} (fu : Nat) (list0_0 : (Sl S_impl_Share)) (table3_1 : Nat) (left4_2 : Int) (orders5_3 : Nat) (i8_4 : Int) (t29_5 : (Sl S_impl_Share)) (t30_6 t31_7 t37_8 t38_9 : Int) (on0_10 : Nat) (of0_11 : (Nat → Int)) (on1_12 : Nat) (o2_14 o2_15 : Int) (k0 : (Nat → (Sl Int)) → Option ρ) (of1_13 : (Nat → (Sl Int))) (go : (Nat → (Sl Int)) → Option ρ) : Option ρ :=
 ((bif (decide (0 ≤ i8_4) && decide ((Int.toNat i8_4) < orders5_3)) then some () else none : Option Unit).bind fun _ => ((bif (decide (0 ≤ (0 : Int)) && decide ((Int.toNat 0) < (of1_13 (Int.toNat i8_4)).n)) then
  some () else none : Option Unit).bind fun _ => ((bif (decide (0 ≤ ((of1_13 (Int.toNat i8_4)).f (Int.toNat 0))) && decide ((Int.toNat ((of1_13 (Int.toNat i8_4)).f (Int.toNat 0))) < table3_1)) then
  some () else none : Option Unit).bind fun _ => (bif ((of0_11 (Int.toNat ((of1_13 (Int.toNat i8_4)).f (Int.toNat 0)))) != 0) then ((bif (decide (0 ≤ i8_4) && decide ((Int.toNat i8_4) < orders5_3)) then
  some () else none : Option Unit).bind fun _ => ((bif (decide ((1 : Int) ≤ (((of1_13 (Int.toNat i8_4)).n : Nat) : Int)) && decide ((of1_13 (Int.toNat i8_4)).n ≤ (of1_13 (Int.toNat i8_4)).n)) then
  some () else none : Option Unit).bind fun _ => ((bif (decide (0 ≤ i8_4) && decide ((Int.toNat i8_4) < orders5_3)) then some () else none : Option Unit).bind fun _ => (go (fun j =>
  if j = (Int.toNat i8_4) then (⟨(of1_13 (Int.toNat i8_4)).z, ((of1_13 (Int.toNat i8_4)).n - 1), (fun i => (of1_13 (Int.toNat i8_4)).f (1 + i))⟩ : (Sl Int)) else of1_13 j))))) else
  (k0 of1_13)))))
def F_impl_fill_B6 {ρ : Type} (fu : Nat) (list0_0 : (Sl S_impl_Share)) (table3_1 orders5_3 : Nat) (i8_4 : Int) (t29_5 : (Sl S_impl_Share)) (t30_6 t31_7 t37_8 : Int) (on0_10 on1_12 : Nat) (o2_14 o2_15 : Int) (k0 : Int → (Nat → Int) → (Nat → (Sl Int)) → Option ρ) (k1 : Int → (Nat → Int) → (Nat → (Sl Int)) → Option ρ) (left4_2 t38_9 : Int) (of0_11 : (Nat → Int)) (of1_13 : (Nat → (Sl Int))) (go : Int → Int → (Nat → Int) → (Nat → (Sl Int)) → Option ρ) : Option ρ :=
 (bif (decide (t38_9 < t37_8)) then (L (fun w8 go8 => F_impl_fill_B8 fu list0_0 table3_1 left4_2 orders5_3 i8_4 t29_5 t30_6 t31_7 t37_8 t38_9 on0_10 of0_11 on1_12 o2_14 o2_15 (fun z203 =>
  ((bif (decide (0 ≤ i8_4) && decide ((Int.toNat i8_4) < orders5_3)) then some () else none : Option Unit).bind fun _ => ((bif (decide (0 ≤ (0 : Int)) && decide ((Int.toNat 0) < (z203 (Int.toNat i8_4)).n)) then
  some () else none : Option Unit).bind fun _ => ((bif (decide (0 ≤ ((z203 (Int.toNat i8_4)).f (Int.toNat 0))) && decide ((Int.toNat ((z203 (Int.toNat i8_4)).f (Int.toNat 0))) < table3_1)) then
  some () else none : Option Unit).bind fun _ => (bif ((IntKind.wrap .i64 (left4_2 - 1)) == 0) then (k0 (IntKind.wrap .i64 (left4_2 - 1)) (fun j => if j = (Int.toNat ((z203 (Int.toNat i8_4)).f (Int.toNat 0))) then
  o2_14 else of0_11 j) z203) else (go (IntKind.wrap .i64 (left4_2 - 1)) (IntKind.wrap .i64 (t38_9 + 1)) (fun j => if j = (Int.toNat ((z203 (Int.toNat i8_4)).f (Int.toNat 0))) then
  o2_14 else of0_11 j) z203)))))) w8 go8) fu (of1_13 : (Nat → (Sl Int)))) else (k1 left4_2 of0_11 of1_13))
def F_impl_fill_B4 {ρ : Type} (fu : Nat) (list0_0 : (Sl S_impl_Share)) (table3_1 orders5_3 : Nat) (t29_4 : (Sl S_impl_Share)) (t30_5 : Int) (on0_7 on1_9 : Nat) (k0 : Int → (Nat → Int) → (Nat → (Sl Int)) → Int → Int → Option ρ) (k1 : Int → (Nat → Int) → (Nat → (Sl Int)) → Option ρ) (left4_2 t31_6 : Int) (of0_8 : (Nat → Int)) (of1_10 : (Nat → (Sl Int))) (go : Int → Int → (Nat → Int) → (Nat → (Sl Int)) → Option ρ) : Option ρ :=
 (bif (decide (t31_6 < t30_5)) then ((bif (decide (0 ≤ t31_6) && decide ((Int.toNat t31_6) < t29_4.n)) then some () else none : Option Unit).bind fun _ => (L (fun w6 go6 =>
  F_impl_fill_B6 fu list0_0 table3_1 orders5_3 t31_6 t29_4 t30_5 t31_6 ((t29_4.f (Int.toNat t31_6)).Weight) on0_7 on1_9 ((t29_4.f (Int.toNat t31_6)).Name) ((t29_4.f (Int.toNat t31_6)).Weight) (fun z204 z205 z206 =>
  (k0 z204 z205 z206 (t29_4.f (Int.toNat t31_6)).Name (t29_4.f (Int.toNat t31_6)).Weight)) (fun z207 z208 z209 => (go z207 (IntKind.wrap .i64 (t31_6 + 1)) z208 z209)) w6.1 w6.2.1 w6.2.2.1 w6.2.2.2 (fun q0 q1 q2 q3 =>
  go6 (q0, q1, q2, q3))) fu ((left4_2, 0, of0_8, of1_10) : Int × Int × (Nat → Int) × (Nat → (Sl Int))))) else (k1 left4_2 of0_8 of1_10))
def F_impl_fill_B2 {ρ : Type} (fu : Nat) (list0_0 : (Sl S_impl_Share)) (table3_1 orders5_3 on0_4 on1_6 : Nat) (k0 : (Nat → Int) → (Nat → (Sl Int)) → Int → Int → Option ρ) (left4_2 : Int) (of0_5 : (Nat → Int)) (of1_7 : (Nat → (Sl Int))) (go : Int → (Nat → Int) → (Nat → (Sl Int)) → Option ρ) : Option ρ :=
 (L (fun w4 go4 => F_impl_fill_B4 fu list0_0 table3_1 orders5_3 list0_0 ((list0_0.n : Nat) : Int) on0_4 on1_6 (fun z210 z211 z212 z213 z214 => (k0 z211 z212 z213 z214)) (fun z215 z216 z217 =>
  (go z215 z216 z217)) w4.1 w4.2.1 w4.2.2.1 w4.2.2.2 (fun q0 q1 q2 q3 => go4 (q0, q1, q2, q3))) fu ((left4_2, 0, of0_5, of1_7) : Int × Int × (Nat → Int) × (Nat → (Sl Int))))
def F_impl_fill (fu : Nat) (list_0 : (Sl S_impl_Share)) : Option ((Sl Int)) :=
 ((F_slices_ContainsFunc_impl_Share_impl_Share_w_impl_fill_c1 fu list_0).bind fun y188 => (bif (!y188) then (some (⟨none, 31, (fun _ => 0)⟩ : (Sl Int))) else (L (fun w0 go0 =>
  F_impl_fill_B0 fu list_0 31 31 list_0 ((list_0.n : Nat) : Int) 31 (fun _ => 0) (fun z200 z201 z202 => (L (fun w2 go2 => F_impl_fill_B2 fu list_0 31 z200 31 z201 (fun z218 z219 z220 z221 =>
  (some (⟨none, 31, z218⟩ : (Sl Int)))) w2.1 w2.2.1 w2.2.2 (fun q0 q1 q2 => go2 (q0, q1, q2))) fu ((31, (fun _ => 0), z202) : Int × (Nat → Int) × (Nat → (Sl Int))))) w0.1 w0.2.1 w0.2.2.1 w0.2.2.2 (fun q0 q1 q2 q3 =>
  go0 (q0, q1, q2, q3))) fu ((0, 0, 0, (fun _ => dflt .sl_i64)) : Nat × Int × Nat × (Nat → (Sl Int))))))
def pcf_b30 (fu f : Nat) (xs : List (D RT den)) : Option (Out RT den) := match f with | 97 => S_b29 fu xs | 99 => S_b26 fu xs | _ => none
def pc_b30 (fu : Nat) : Pc RT den := ⟨pcf_b30 fu, fun _ => false, fun _ => false, pcd0, pcd0, pcd0, pcx0⟩
def msk_b30 (b : Nat) : List Nat := match b with | 0 => (1 :: 2 :: (rg 6 10 (rg 19 56 []))) | 100000 => (1 :: (rg 6 69 [])) | 2 => (1 :: 2 :: (rg 6 69 [])) | 100002 => (0 :: 1 :: (rg 3 72 [])) | 4 => (1 :: 2 :: (rg 6 23 (rg 32 43 []))) | 100004 => (1 :: (rg 6 69 [])) | 6 => (1 :: 2 :: 6 :: 7 :: (rg 10 19 (rg 32 5 (rg 39 36 [])))) | 100006 => (1 :: (rg 6 23 (rg 32 43 []))) | 8 => (1 :: 2 :: 6 :: 7 :: (rg 10 19 (rg 32 5 (rg 39 36 [])))) | 100008 => (1 :: 6 :: 7 :: (rg 10 19 (rg 32 5 (rg 39 36 [])))) | 300000 => [5] | _ => []
def ps_b30_0 : List (Pat RT) := (.flat (.rs .impl_Share) :: .flat .q :: .flat .q :: .flat (.os 0) :: .flat (.int .i64) :: .flat (.os 1) :: (fq 10 (.flat (.rs .impl_Share) :: .flat (.int .i64) :: .flat (.int .i64) :: (fq 56 []))))
def os_b30_0 : List (OP RT) := [.row false .i64, .row false .sl_i64]
def conv_b30_0 (r : Raw den ps_b30_0 os_b30_0) : (Ye3) × (Nat × Int × Nat × (Nat → (Sl Int))) := ((r.1.1, r.1.2.2.2.1, r.1.2.2.2.2.1, (e5 (e10 r.1)).2.1, (e5 (e10 r.1)).2.2.1, r.2.1.1, r.2.1.2), ((e5 r.1).1, (e5 (e10 r.1)).2.2.2.1, r.2.2.1.1, r.2.2.1.2))
def back_b30_0 (c : Ye3) (w : Nat × Int × Nat × (Nat → (Sl Int))) : St RT den := ⟨((.rs c.1.z .impl_Share c.1.n c.1.f) :: .q :: .q :: (.os 0 c.2.1) :: (ii c.2.2.1) :: (.os 1 w.1) :: (qs 10 ((.rs c.2.2.2.1.z .impl_Share c.2.2.2.1.n c.2.2.2.1.f) :: (ii c.2.2.2.2.1) :: (ii w.2.1) :: (qs 56 [])))), [(.row false .i64 (e5 c).1 (e5 c).2), (.row false .sl_i64 w.2.2.1 w.2.2.2)]⟩
def Bk_b30_0 {ρ : Type} (fu : Nat) (c : Ye3) (k : Ex → St RT den → Option ρ) (w : Nat × Int × Nat × (Nat → (Sl Int))) (go : (Nat × Int × Nat × (Nat → (Sl Int))) → Option ρ) : Option ρ := F_impl_fill_B0 fu c.1 c.2.1 c.2.2.1 c.2.2.2.1 c.2.2.2.2.1 (e5 c).1 (e5 c).2 (fun a0 a1 a2 => k (.exit 0) ⟨((.rs c.1.z .impl_Share c.1.n c.1.f) :: .q :: .q :: (.os 0 c.2.1) :: (ii c.2.2.1) :: (.os 1 a0) :: (qs 69 [])), [(.row false .i64 (e5 c).1 (e5 c).2), (.row false .sl_i64 a1 a2)]⟩) w.1 w.2.1 w.2.2.1 w.2.2.2 (fun q0 q1 q2 q3 => go (q0, q1, q2, q3))
def ps_b30_8 : List (Pat RT) := (.flat (.rs .impl_Share) :: .flat .q :: .flat .q :: .flat (.os 0) :: .flat (.int .i64) :: .flat (.os 1) :: .flat .q :: .flat .q :: .flat (.int .i64) :: .flat (.ref 2 0) :: (fq 19 (.flat (.rs .impl_Share) :: .flat (.int .i64) :: .flat (.int .i64) :: (fq 5 (.flat (.int .i64) :: .flat (.int .i64) :: (fq 36 []))))))
def os_b30_8 : List (OP RT) := [.row false .i64, .row false .sl_i64, .box false [(.int .i64), (.int .i64)]]
def conv_b30_8 (r : Raw den ps_b30_8 os_b30_8) : (Ye5) × ((Nat → (Sl Int))) := ((r.1.1, r.1.2.2.2.1, r.1.2.2.2.2.1, (e5 r.1).1, (e5 r.1).2.2.2.1, (e5 (e20 r.1)).2.2.2.2.1, (e10 (e20 r.1)).1, (e10 (e20 r.1)).2.1, (e5 (e10 (e20 r.1))).2.2.1, (e5 (e10 (e20 r.1))).2.2.2.1, r.2.1.1, r.2.1.2, r.2.2.1.1, r.2.2.2.1.1, r.2.2.2.1.2.1), r.2.2.1.2)
def back_b30_8 (c : Ye5) (w : (Nat → (Sl Int))) : St RT den := ⟨((.rs c.1.z .impl_Share c.1.n c.1.f) :: .q :: .q :: (.os 0 c.2.1) :: (ii c.2.2.1) :: (.os 1 c.2.2.2.1) :: .q :: .q :: (ii c.2.2.2.2.1) :: (.ref 2 0) :: (qs 19 ((.rs (e5 c).1.z .impl_Share (e5 c).1.n (e5 c).1.f) :: (ii (e5 c).2.1) :: (ii (e5 c).2.2.1) :: (qs 5 ((ii (e5 c).2.2.2.1) :: (ii (e5 c).2.2.2.2.1) :: (qs 36 [])))))), [(.row false .i64 (e10 c).1 (e10 c).2.1), (.row false .sl_i64 (e10 c).2.2.1 w), (.box false [(ii (e10 c).2.2.2.1), (ii (e10 c).2.2.2.2)])]⟩
def Bk_b30_8 {ρ : Type} (fu : Nat) (c : Ye5) (k : Ex → St RT den → Option ρ) (w : (Nat → (Sl Int))) (go : ((Nat → (Sl Int))) → Option ρ) : Option ρ := F_impl_fill_B8 fu c.1 c.2.1 c.2.2.1 c.2.2.2.1 c.2.2.2.2.1 (e5 c).1 (e5 c).2.1 (e5 c).2.2.1 (e5 c).2.2.2.1 (e5 c).2.2.2.2.1 (e10 c).1 (e10 c).2.1 (e10 c).2.2.1 (e10 c).2.2.2.1 (e10 c).2.2.2.2 (fun a0 => k (.exit 8) ⟨((.rs c.1.z .impl_Share c.1.n c.1.f) :: .q :: .q :: (.os 0 c.2.1) :: (ii c.2.2.1) :: (.os 1 c.2.2.2.1) :: .q :: .q :: (ii c.2.2.2.2.1) :: (.ref 2 0) :: (qs 19 ((.rs (e5 c).1.z .impl_Share (e5 c).1.n (e5 c).1.f) :: (ii (e5 c).2.1) :: (ii (e5 c).2.2.1) :: (qs 5 ((ii (e5 c).2.2.2.1) :: (ii (e5 c).2.2.2.2.1) :: (qs 36 [])))))), [(.row false .i64 (e10 c).1 (e10 c).2.1), (.row false .sl_i64 (e10 c).2.2.1 a0), (.box false [(ii (e10 c).2.2.2.1), (ii (e10 c).2.2.2.2)])]⟩) w go
def ps_b30_6 : List (Pat RT) := (.flat (.rs .impl_Share) :: .flat .q :: .flat .q :: .flat (.os 0) :: .flat (.int .i64) :: .flat (.os 1) :: .flat .q :: .flat .q :: .flat (.int .i64) :: .flat (.ref 2 0) :: (fq 19 (.flat (.rs .impl_Share) :: .flat (.int .i64) :: .flat (.int .i64) :: (fq 5 (.flat (.int .i64) :: .flat (.int .i64) :: (fq 36 []))))))
def os_b30_6 : List (OP RT) := [.row false .i64, .row false .sl_i64, .box false [(.int .i64), (.int .i64)]]
def conv_b30_6 (r : Raw den ps_b30_6 os_b30_6) : (Ye4) × (Int × Int × (Nat → Int) × (Nat → (Sl Int))) := ((r.1.1, r.1.2.2.2.1, (e5 r.1).1, (e5 r.1).2.2.2.1, (e5 (e20 r.1)).2.2.2.2.1, (e10 (e20 r.1)).1, (e10 (e20 r.1)).2.1, (e5 (e10 (e20 r.1))).2.2.1, r.2.1.1, r.2.2.1.1, r.2.2.2.1.1, r.2.2.2.1.2.1), (r.1.2.2.2.2.1, (e5 (e10 (e20 r.1))).2.2.2.1, r.2.1.2, r.2.2.1.2))
def back_b30_6 (c : Ye4) (w : Int × Int × (Nat → Int) × (Nat → (Sl Int))) : St RT den := ⟨((.rs c.1.z .impl_Share c.1.n c.1.f) :: .q :: .q :: (.os 0 c.2.1) :: (ii w.1) :: (.os 1 c.2.2.1) :: .q :: .q :: (ii c.2.2.2.1) :: (.ref 2 0) :: (qs 19 ((.rs c.2.2.2.2.1.z .impl_Share c.2.2.2.2.1.n c.2.2.2.2.1.f) :: (ii (e5 c).1) :: (ii (e5 c).2.1) :: (qs 5 ((ii (e5 c).2.2.1) :: (ii w.2.1) :: (qs 36 [])))))), [(.row false .i64 (e5 c).2.2.2.1 w.2.2.1), (.row false .sl_i64 (e5 c).2.2.2.2.1 w.2.2.2), (.box false [(ii (e10 c).1), (ii (e10 c).2)])]⟩
def Bk_b30_6 {ρ : Type} (fu : Nat) (c : Ye4) (k : Ex → St RT den → Option ρ) (w : Int × Int × (Nat → Int) × (Nat → (Sl Int))) (go : (Int × Int × (Nat → Int) × (Nat → (Sl Int))) → Option ρ) : Option ρ := F_impl_fill_B6 fu c.1 c.2.1 c.2.2.1 c.2.2.2.1 c.2.2.2.2.1 (e5 c).1 (e5 c).2.1 (e5 c).2.2.1 (e5 c).2.2.2.1 (e5 c).2.2.2.2.1 (e10 c).1 (e10 c).2 (fun a0 a1 a2 => k .ret ⟨((.rs c.1.z .impl_Share c.1.n c.1.f) :: .q :: (.os 0 c.2.1) :: (.os 0 c.2.1) :: (ii a0) :: (.os 1 c.2.2.1) :: (qs 23 ((.rs c.2.2.2.2.1.z .impl_Share c.2.2.2.2.1.n c.2.2.2.2.1.f) :: (ii (e5 c).1) :: (ii (e5 c).2.1) :: (qs 43 [])))), [(.row false .i64 (e5 c).2.2.2.1 a1), (.row false .sl_i64 (e5 c).2.2.2.2.1 a2), (.box false [(ii (e10 c).1), (ii (e10 c).2)])]⟩) (fun a0 a1 a2 => k (.exit 6) ⟨((.rs c.1.z .impl_Share c.1.n c.1.f) :: .q :: .q :: (.os 0 c.2.1) :: (ii a0) :: (.os 1 c.2.2.1) :: (qs 23 ((.rs c.2.2.2.2.1.z .impl_Share c.2.2.2.2.1.n c.2.2.2.2.1.f) :: (ii (e5 c).1) :: (ii (e5 c).2.1) :: (qs 43 [])))), [(.row false .i64 (e5 c).2.2.2.1 a1), (.row false .sl_i64 (e5 c).2.2.2.2.1 a2), (.box false [(ii (e10 c).1), (ii (e10 c).2)])]⟩) w.1 w.2.1 w.2.2.1 w.2.2.2 (fun q0 q1 q2 q3 => go (q0, q1, q2, q3))
def ps_b30_4 : List (Pat RT) := (.flat (.rs .impl_Share) :: .flat .q :: .flat .q :: .flat (.os 0) :: .flat (.int .i64) :: .flat (.os 1) :: (fq 23 (.flat (.rs .impl_Share) :: .flat (.int .i64) :: .flat (.int .i64) :: (fq 43 []))))
def os_b30_4 : List (OP RT) := [.row false .i64, .row false .sl_i64]
def conv_b30_4 (r : Raw den ps_b30_4 os_b30_4) : (Ye2) × (Int × Int × (Nat → Int) × (Nat → (Sl Int))) := ((r.1.1, r.1.2.2.2.1, (e5 r.1).1, (e5 (e20 r.1)).2.2.2.2.1, (e10 (e20 r.1)).1, r.2.1.1, r.2.2.1.1), (r.1.2.2.2.2.1, (e10 (e20 r.1)).2.1, r.2.1.2, r.2.2.1.2))
def back_b30_4 (c : Ye2) (w : Int × Int × (Nat → Int) × (Nat → (Sl Int))) : St RT den := ⟨((.rs c.1.z .impl_Share c.1.n c.1.f) :: .q :: .q :: (.os 0 c.2.1) :: (ii w.1) :: (.os 1 c.2.2.1) :: (qs 23 ((.rs c.2.2.2.1.z .impl_Share c.2.2.2.1.n c.2.2.2.1.f) :: (ii c.2.2.2.2.1) :: (ii w.2.1) :: (qs 43 [])))), [(.row false .i64 (e5 c).1 w.2.2.1), (.row false .sl_i64 (e5 c).2 w.2.2.2)]⟩
def Bk_b30_4 {ρ : Type} (fu : Nat) (c : Ye2) (k : Ex → St RT den → Option ρ) (w : Int × Int × (Nat → Int) × (Nat → (Sl Int))) (go : (Int × Int × (Nat → Int) × (Nat → (Sl Int))) → Option ρ) : Option ρ := F_impl_fill_B4 fu c.1 c.2.1 c.2.2.1 c.2.2.2.1 c.2.2.2.2.1 (e5 c).1 (e5 c).2 (fun a0 a1 a2 a3 a4 => k .ret ⟨((.rs c.1.z .impl_Share c.1.n c.1.f) :: .q :: (.os 0 c.2.1) :: (.os 0 c.2.1) :: (ii a0) :: (.os 1 c.2.2.1) :: (qs 69 [])), [(.row false .i64 (e5 c).1 a1), (.row false .sl_i64 (e5 c).2 a2), (.box false [(ii a3), (ii a4)])]⟩) (fun a0 a1 a2 => k (.exit 4) ⟨((.rs c.1.z .impl_Share c.1.n c.1.f) :: .q :: .q :: (.os 0 c.2.1) :: (ii a0) :: (.os 1 c.2.2.1) :: (qs 69 [])), [(.row false .i64 (e5 c).1 a1), (.row false .sl_i64 (e5 c).2 a2)]⟩) w.1 w.2.1 w.2.2.1 w.2.2.2 (fun q0 q1 q2 q3 => go (q0, q1, q2, q3))
def ps_b30_2 : List (Pat RT) := (.flat (.rs .impl_Share) :: .flat .q :: .flat .q :: .flat (.os 0) :: .flat (.int .i64) :: .flat (.os 1) :: (fq 69 []))
def os_b30_2 : List (OP RT) := [.row false .i64, .row false .sl_i64]
def conv_b30_2 (r : Raw den ps_b30_2 os_b30_2) : (Ye0) × (Int × (Nat → Int) × (Nat → (Sl Int))) := ((r.1.1, r.1.2.2.2.1, (e5 r.1).1, r.2.1.1, r.2.2.1.1), (r.1.2.2.2.2.1, r.2.1.2, r.2.2.1.2))
def back_b30_2 (c : Ye0) (w : Int × (Nat → Int) × (Nat → (Sl Int))) : St RT den := ⟨((.rs c.1.z .impl_Share c.1.n c.1.f) :: .q :: .q :: (.os 0 c.2.1) :: (ii w.1) :: (.os 1 c.2.2.1) :: (qs 69 [])), [(.row false .i64 c.2.2.2.1 w.2.1), (.row false .sl_i64 c.2.2.2.2 w.2.2)]⟩
def Bk_b30_2 {ρ : Type} (fu : Nat) (c : Ye0) (k : Ex → St RT den → Option ρ) (w : Int × (Nat → Int) × (Nat → (Sl Int))) (go : (Int × (Nat → Int) × (Nat → (Sl Int))) → Option ρ) : Option ρ := F_impl_fill_B2 fu c.1 c.2.1 c.2.2.1 c.2.2.2.1 c.2.2.2.2 (fun a0 a1 a2 a3 => k .ret ⟨(.q :: .q :: (.os 0 c.2.1) :: (qs 72 [])), [(.row false .i64 c.2.2.2.1 a0), (.row false .sl_i64 c.2.2.2.2 a1), (.box false [(ii a2), (ii a3)])]⟩) w.1 w.2.1 w.2.2 (fun q0 q1 q2 => go (q0, q1, q2))
def lp_b30 (fu : Nat) : Lp RT den ((Sl Int)) := ⟨fun b s k => match b with | 0 => handle ps_b30_0 os_b30_0 conv_b30_0 (Bk_b30_0 fu) fu s k | 2 => handle ps_b30_2 os_b30_2 conv_b30_2 (Bk_b30_2 fu) fu s k | 4 => handle ps_b30_4 os_b30_4 conv_b30_4 (Bk_b30_4 fu) fu s k | 6 => handle ps_b30_6 os_b30_6 conv_b30_6 (Bk_b30_6 fu) fu s k | 8 => handle ps_b30_8 os_b30_8 conv_b30_8 (Bk_b30_8 fu) fu s k | _ => none, inl0⟩
theorem ev_b30 (fu : Nat) (list_0 : (Sl S_impl_Share)) : evFun E (pc_b30 fu) msk_b30 (lp_b30 fu) out_sl_i64 68 [(.rs list_0.z .impl_Share list_0.n list_0.f)] = F_impl_fill fu list_0 := by kernel_rfl
noncomputable def body_b30 : Code := Tryz.f68.body.getD .skip
noncomputable def lc_b30_0 : Code := ((loops 0 body_b30).getD 0 (0, .skip)).2
theorem round_b30_0 (fu : Nat) : RoundOk E (pc_b30 fu) msk_b30 (lp_b30 fu) 0 lc_b30_0 back_b30_0 0 100000 2 (Bk_b30_0 fu) := fun it k c w => by kernel_rfl
theorem lpok_b30_0 (fu : Nat) : LpAt E (pc_b30 fu) msk_b30 (lp_b30 fu) 0 0 100000 0 lc_b30_0 :=
 handle_ok (ps := ps_b30_0) (os := os_b30_0) (conv := conv_b30_0) (B := Bk_b30_0 fu) (fu := fu) back_b30_0 (fun raw => by kernel_rfl) 2 (fun c w => by kernel_rfl) (round_b30_0 fu)
noncomputable def lc_b30_2 : Code := ((loops 0 body_b30).getD 1 (0, .skip)).2
theorem round_b30_2 (fu : Nat) : RoundOk E (pc_b30 fu) msk_b30 (lp_b30 fu) 2 lc_b30_2 back_b30_2 2 100002 2 (Bk_b30_2 fu) := fun it k c w => by kernel_rfl
theorem lpok_b30_2 (fu : Nat) : LpAt E (pc_b30 fu) msk_b30 (lp_b30 fu) 2 2 100002 2 lc_b30_2 :=
 handle_ok (ps := ps_b30_2) (os := os_b30_2) (conv := conv_b30_2) (B := Bk_b30_2 fu) (fu := fu) back_b30_2 (fun raw => by kernel_rfl) 2 (fun c w => by kernel_rfl) (round_b30_2 fu)
noncomputable def lc_b30_4 : Code := ((loops 0 body_b30).getD 2 (0, .skip)).2
theorem round_b30_4 (fu : Nat) : RoundOk E (pc_b30 fu) msk_b30 (lp_b30 fu) 4 lc_b30_4 back_b30_4 4 100004 2 (Bk_b30_4 fu) := fun it k c w => by kernel_rfl
theorem lpok_b30_4 (fu : Nat) : LpAt E (pc_b30 fu) msk_b30 (lp_b30 fu) 4 4 100004 4 lc_b30_4 :=
 handle_ok (ps := ps_b30_4) (os := os_b30_4) (conv := conv_b30_4) (B := Bk_b30_4 fu) (fu := fu) back_b30_4 (fun raw => by kernel_rfl) 2 (fun c w => by kernel_rfl) (round_b30_4 fu)
noncomputable def lc_b30_6 : Code := ((loops 0 body_b30).getD 3 (0, .skip)).2
theorem round_b30_6 (fu : Nat) : RoundOk E (pc_b30 fu) msk_b30 (lp_b30 fu) 6 lc_b30_6 back_b30_6 6 100006 3 (Bk_b30_6 fu) := fun it k c w => by kernel_rfl
theorem lpok_b30_6 (fu : Nat) : LpAt E (pc_b30 fu) msk_b30 (lp_b30 fu) 6 6 100006 6 lc_b30_6 :=
 handle_ok (ps := ps_b30_6) (os := os_b30_6) (conv := conv_b30_6) (B := Bk_b30_6 fu) (fu := fu) back_b30_6 (fun raw => by kernel_rfl) 3 (fun c w => by kernel_rfl) (round_b30_6 fu)
noncomputable def lc_b30_8 : Code := ((loops 0 body_b30).getD 4 (0, .skip)).2
theorem round_b30_8 (fu : Nat) : RoundOk E (pc_b30 fu) msk_b30 (lp_b30 fu) 8 lc_b30_8 back_b30_8 8 100008 3 (Bk_b30_8 fu) := fun it k c w => by kernel_rfl
theorem lpok_b30_8 (fu : Nat) : LpAt E (pc_b30 fu) msk_b30 (lp_b30 fu) 8 8 100008 8 lc_b30_8 :=
 handle_ok (ps := ps_b30_8) (os := os_b30_8) (conv := conv_b30_8) (B := Bk_b30_8 fu) (fu := fu) back_b30_8 (fun raw => by kernel_rfl) 3 (fun c w => by kernel_rfl) (round_b30_8 fu)
theorem lpok_b30 (fu : Nat) : LpOk E (pc_b30 fu) 0 msk_b30 (lp_b30 fu) (loops 0 body_b30) := lp_nil (loop_all 5 (by kernel_rfl) fun i hi => match i, hi with
 | 0, _ => by
  have h : (loops 0 body_b30).getD 0 (0, .skip) = (0, lc_b30_0) := by kernel_rfl
  rw [h]; exact lpok_b30_0 fu
 | 1, _ => by
  have h : (loops 0 body_b30).getD 1 (0, .skip) = (2, lc_b30_2) := by kernel_rfl
  rw [h]; exact lpok_b30_2 fu
 | 2, _ => by
  have h : (loops 0 body_b30).getD 2 (0, .skip) = (4, lc_b30_4) := by kernel_rfl
  rw [h]; exact lpok_b30_4 fu
 | 3, _ => by
  have h : (loops 0 body_b30).getD 3 (0, .skip) = (6, lc_b30_6) := by kernel_rfl
  rw [h]; exact lpok_b30_6 fu
 | 4, _ => by
  have h : (loops 0 body_b30).getD 4 (0, .skip) = (8, lc_b30_8) := by kernel_rfl
  rw [h]; exact lpok_b30_8 fu
 | i + 5, hi => absurd hi (by omega)) (by kernel_rfl)
def S_b30 (fu : Nat) (xs : List (D RT den)) : Option (Out RT den) := match xs with | [.rs za0_0 .impl_Share na0_0 fa0_0] => some ⟨(Sl Int), F_impl_fill fu (⟨za0_0, na0_0, fa0_0⟩ : (Sl S_impl_Share)), enc_sl_i64, fun _ => true⟩ | _ => none
theorem hpc_b30 (fu : Nat) : HpcOk E Tryz.prog (pcf_b30 fu) := by
 intro f xs o h
 unfold pcf_b30 at h
 split at h
 ·exact good_b29 fu xs o h
 ·exact good_b26 fu xs o h
 ·cases h
theorem goodv_b30 (fu : Nat) (list_0 : (Sl S_impl_Share)) (y : (Sl Int)) (hy : F_impl_fill fu list_0 = some y) : Vm.Good E Tryz.prog 68 [(.rs list_0.z .impl_Share list_0.n list_0.f)] (enc_sl_i64 y) :=
 fun_good E_ok (pc_good (pc := pc_b30 fu) (hpc_b30 fu) hpx0) (fn := Tryz.f68) (by kernel_rfl) (by kernel_rfl) (by kernel_rfl) (lpok_b30 fu) (fun d hd => out_sl_i64_enc d _ hd) ((ev_b30 fu list_0).trans hy)
theorem good_b30 (fu : Nat) : GoodS E Tryz.prog 68 (S_b30 fu) := by
 intro xs o h y hy
 unfold S_b30 at h
 split at h
 ·rename_i za0_0 na0_0 fa0_0
  cases h
  exact goodv_b30 fu (⟨za0_0, na0_0, fa0_0⟩ : (Sl S_impl_Share)) y hy
 ·cases h
def F_impl_Config_tables_B0 {ρ : Type} (fu : Nat) (c0_0 : Int) (c0_1 : (Sl S_impl_Backend)) (c0_2 : (Sl S_impl_Vip)) (t10_4 : Int) (k0 : Nat → Nat → (Nat → (Sl Int)) → Option ρ) (out3_3 : Nat) (t11_5 : Int) (on0_6 : Nat) (of0_7 : (Nat → (Sl Int))) (go : Nat → Int → Nat → (Nat → (Sl Int)) → Option ρ) : Option ρ :=
 (bif (decide (t11_5 < t10_4)) then ((F_impl_Config_shares fu (⟨c0_0, c0_1, c0_2⟩ : S_impl_Config) t11_5).bind fun y178 => ((F_impl_fill fu y178).bind fun y187 => (bif (decide ((out3_3 + 1) ≤ 9223372036854775807) &&
  decide ((out3_3 + 1) * 24 ≤ 140737488355328)) then (go (out3_3 + 1) (IntKind.wrap .i64 (t11_5 + 1)) (out3_3 + 1) (fun i => if i < out3_3 then (of0_7 i) else ((fun i => ([y187] : List ((Sl Int))).getD i (dflt .sl_i64)) (i - out3_3)))) else
  none))) else (k0 out3_3 on0_6 of0_7))
def F_impl_Config_tables (fu : Nat) (c_0 : S_impl_Config) : Option ((Sl (Sl Int))) :=
 (L (fun w0 go0 => F_impl_Config_tables_B0 fu c_0.Version c_0.Backends c_0.Vips ((c_0.Vips.n : Nat) : Int) (fun z225 z226 z227 => (some (⟨none, z225, z227⟩ : (Sl (Sl Int))))) w0.1 w0.2.1 w0.2.2.1 w0.2.2.2 (fun q0 q1 q2 q3 =>
  go0 (q0, q1, q2, q3))) fu ((0, 0, 0, (fun _ => dflt .sl_i64)) : Nat × Int × Nat × (Nat → (Sl Int))))
def pcf_b31 (fu f : Nat) (xs : List (D RT den)) : Option (Out RT den) := match f with | 68 => S_b30 fu xs | 69 => S_b21 fu xs | _ => none
def pc_b31 (fu : Nat) : Pc RT den := ⟨pcf_b31 fu, fun _ => false, fun _ => false, pcd0, pcd0, pcd0, pcx0⟩
def msk_b31 (b : Nat) : List Nat := match b with | 0 => (1 :: 2 :: (rg 4 6 (rg 12 11 []))) | 100000 => (0 :: 1 :: (rg 4 19 [])) | 300000 => [3] | _ => []
def ps_b31_0 : List (Pat RT) := (.rptr [(.int .i64), (.rs .impl_Backend), (.rs .impl_Vip)] :: .flat .q :: .flat .q :: .flat (.os 0) :: (fq 6 (.flat (.int .i64) :: .flat (.int .i64) :: (fq 11 []))))
def os_b31_0 : List (OP RT) := [.row false .sl_i64]
def conv_b31_0 (r : Raw den ps_b31_0 os_b31_0) : (Int × (Sl S_impl_Backend) × (Sl S_impl_Vip) × Int) × (Nat × Int × Nat × (Nat → (Sl Int))) := ((r.1.1.1, r.1.1.2.1, r.1.1.2.2.1, (e10 r.1).1), (r.1.2.2.2.1, (e10 r.1).2.1, r.2.1.1, r.2.1.2))
def back_b31_0 (c : Int × (Sl S_impl_Backend) × (Sl S_impl_Vip) × Int) (w : Nat × Int × Nat × (Nat → (Sl Int))) : St RT den := ⟨((.rptr [(ii c.1), (.rs c.2.1.z .impl_Backend c.2.1.n c.2.1.f), (.rs c.2.2.1.z .impl_Vip c.2.2.1.n c.2.2.1.f)]) :: .q :: .q :: (.os 0 w.1) :: (qs 6 ((ii c.2.2.2) :: (ii w.2.1) :: (qs 11 [])))), [(.row false .sl_i64 w.2.2.1 w.2.2.2)]⟩
def Bk_b31_0 {ρ : Type} (fu : Nat) (c : Int × (Sl S_impl_Backend) × (Sl S_impl_Vip) × Int) (k : Ex → St RT den → Option ρ) (w : Nat × Int × Nat × (Nat → (Sl Int))) (go : (Nat × Int × Nat × (Nat → (Sl Int))) → Option ρ) : Option ρ := F_impl_Config_tables_B0 fu c.1 c.2.1 c.2.2.1 c.2.2.2 (fun a0 a1 a2 => k (.exit 0) ⟨(.q :: .q :: .q :: (.os 0 a0) :: (qs 19 [])), [(.row false .sl_i64 a1 a2)]⟩) w.1 w.2.1 w.2.2.1 w.2.2.2 (fun q0 q1 q2 q3 => go (q0, q1, q2, q3))
def lp_b31 (fu : Nat) : Lp RT den ((Sl (Sl Int))) := ⟨fun b s k => match b with | 0 => handle ps_b31_0 os_b31_0 conv_b31_0 (Bk_b31_0 fu) fu s k | _ => none, inl0⟩
theorem ev_b31 (fu : Nat) (c_0 : S_impl_Config) : evFun E (pc_b31 fu) msk_b31 (lp_b31 fu) out_sl_sl_i64 41 [(.rptr [(ii c_0.Version), (.rs c_0.Backends.z .impl_Backend c_0.Backends.n c_0.Backends.f), (.rs c_0.Vips.z .impl_Vip c_0.Vips.n c_0.Vips.f)])] = F_impl_Config_tables fu c_0 := by kernel_rfl
noncomputable def body_b31 : Code := Tryz.f41.body.getD .skip
noncomputable def lc_b31_0 : Code := ((loops 0 body_b31).getD 0 (0, .skip)).2
theorem round_b31_0 (fu : Nat) : RoundOk E (pc_b31 fu) msk_b31 (lp_b31 fu) 0 lc_b31_0 back_b31_0 0 100000 1 (Bk_b31_0 fu) := fun it k c w => by kernel_rfl
theorem lpok_b31_0 (fu : Nat) : LpAt E (pc_b31 fu) msk_b31 (lp_b31 fu) 0 0 100000 0 lc_b31_0 :=
 handle_ok (ps := ps_b31_0) (os := os_b31_0) (conv := conv_b31_0) (B := Bk_b31_0 fu) (fu := fu) back_b31_0 (fun raw => by kernel_rfl) 1 (fun c w => by kernel_rfl) (round_b31_0 fu)
theorem lpok_b31 (fu : Nat) : LpOk E (pc_b31 fu) 0 msk_b31 (lp_b31 fu) (loops 0 body_b31) := lp_nil (loop_all 1 (by kernel_rfl) fun i hi => match i, hi with
 | 0, _ => by
  have h : (loops 0 body_b31).getD 0 (0, .skip) = (0, lc_b31_0) := by kernel_rfl
  rw [h]; exact lpok_b31_0 fu
 | i + 1, hi => absurd hi (by omega)) (by kernel_rfl)
def S_b31 (fu : Nat) (xs : List (D RT den)) : Option (Out RT den) := match xs with | [.rptr (.int .i64 a0_1 :: .rs za0_2 .impl_Backend na0_2 fa0_2 :: .rs za0_3 .impl_Vip na0_3 fa0_3 :: ra0)] => some ⟨(Sl (Sl Int)), F_impl_Config_tables fu (⟨a0_1, (⟨za0_2, na0_2, fa0_2⟩ : (Sl S_impl_Backend)), (⟨za0_3, na0_3, fa0_3⟩ : (Sl S_impl_Vip))⟩ : S_impl_Config), enc_sl_sl_i64, fun _ => true⟩ | _ => none
theorem hpc_b31 (fu : Nat) : HpcOk E Tryz.prog (pcf_b31 fu) := by
 intro f xs o h
 unfold pcf_b31 at h
 split at h
 ·exact good_b30 fu xs o h
 ·exact good_b21 fu xs o h
 ·cases h
theorem goodv_b31 (fu : Nat) (c_0 : S_impl_Config) (y : (Sl (Sl Int))) (hy : F_impl_Config_tables fu c_0 = some y) : Vm.Good E Tryz.prog 41 [(.rptr [(ii c_0.Version), (.rs c_0.Backends.z .impl_Backend c_0.Backends.n c_0.Backends.f), (.rs c_0.Vips.z .impl_Vip c_0.Vips.n c_0.Vips.f)])] (enc_sl_sl_i64 y) :=
 fun_good E_ok (pc_good (pc := pc_b31 fu) (hpc_b31 fu) hpx0) (fn := Tryz.f41) (by kernel_rfl) (by kernel_rfl) (by kernel_rfl) (lpok_b31 fu) (fun d hd => out_sl_sl_i64_enc d _ hd) ((ev_b31 fu c_0).trans hy)
theorem good_b31 (fu : Nat) : GoodS E Tryz.prog 41 (S_b31 fu) := by
 intro xs o h y hy
 unfold S_b31 at h
 split at h
 ·rename_i a0_1 za0_2 na0_2 fa0_2 za0_3 na0_3 fa0_3 ra0
  cases h
  exact (goodv_b31 fu (⟨a0_1, (⟨za0_2, na0_2, fa0_2⟩ : (Sl S_impl_Backend)), (⟨za0_3, na0_3, fa0_3⟩ : (Sl S_impl_Vip))⟩ : S_impl_Config) y hy).sub ⟨Sub.of_eq ra0 rfl, trivial⟩
 ·cases h
def F_impl_in (fu : Nat) (n_0 low_1 high_2 : Int) : Option (Bool) :=
 (((bif (decide (n_0 ≥ low_1)) then (some (decide (n_0 ≤ high_2))) else (some false)) : Option Bool).bind fun m268 => (some m268))
def pc_b32 (fu : Nat) : Pc RT den := ⟨pcf0, fun _ => false, fun _ => false, pcd0, pcd0, pcd0, pcx0⟩
def msk_b32 (b : Nat) : List Nat := match b with | 200001 => [6] | _ => []
def lp_b32 (fu : Nat) : Lp RT den (Bool) := ⟨fun b s k => none, inl0⟩
theorem ev_b32 (fu : Nat) (n_0 low_1 high_2 : Int) : evFun E (pc_b32 fu) msk_b32 (lp_b32 fu) out_bo 38 [(ii n_0), (ii low_1), (ii high_2)] = F_impl_in fu n_0 low_1 high_2 := by kernel_rfl
noncomputable def body_b32 : Code := Tryz.f38.body.getD .skip
theorem lpok_b32 (fu : Nat) : LpOk E (pc_b32 fu) 0 msk_b32 (lp_b32 fu) (loops 0 body_b32) := lp_nil (loop_nil (by kernel_rfl)) (by kernel_rfl)
def S_b32 (fu : Nat) (xs : List (D RT den)) : Option (Out RT den) := match xs with | [.int .i64 a0_0, .int .i64 a1_0, .int .i64 a2_0] => some ⟨Bool, F_impl_in fu a0_0 a1_0 a2_0, enc_bo, fun _ => true⟩ | _ => none
theorem goodv_b32 (fu : Nat) (n_0 low_1 high_2 : Int) (y : Bool) (hy : F_impl_in fu n_0 low_1 high_2 = some y) : Vm.Good E Tryz.prog 38 [(ii n_0), (ii low_1), (ii high_2)] (enc_bo y) :=
 fun_good E_ok (pc_good (pc := pc_b32 fu) hpc0 hpx0) (fn := Tryz.f38) (by kernel_rfl) (by kernel_rfl) (by kernel_rfl) (lpok_b32 fu) (fun d hd => out_bo_enc d _ hd) ((ev_b32 fu n_0 low_1 high_2).trans hy)
theorem good_b32 (fu : Nat) : GoodS E Tryz.prog 38 (S_b32 fu) := by
 intro xs o h y hy
 unfold S_b32 at h
 split at h
 ·rename_i a0_0 a1_0 a2_0
  cases h
  exact goodv_b32 fu a0_0 a1_0 a2_0 y hy
 ·cases h
def F_impl_isAddress (fu : Nat) (a_0 : Int) : Option (Bool) :=
 ((F_impl_in fu a_0 0 4294967295).bind fun y267 => (some y267))
def pcf_b33 (fu f : Nat) (xs : List (D RT den)) : Option (Out RT den) := match f with | 38 => S_b32 fu xs | _ => none
def pc_b33 (fu : Nat) : Pc RT den := ⟨pcf_b33 fu, fun _ => false, fun _ => false, pcd0, pcd0, pcd0, pcx0⟩
def msk_b33 (b : Nat) : List Nat := []
def lp_b33 (fu : Nat) : Lp RT den (Bool) := ⟨fun b s k => none, inl0⟩
theorem ev_b33 (fu : Nat) (a_0 : Int) : evFun E (pc_b33 fu) msk_b33 (lp_b33 fu) out_bo 37 [(ii a_0)] = F_impl_isAddress fu a_0 := by kernel_rfl
noncomputable def body_b33 : Code := Tryz.f37.body.getD .skip
theorem lpok_b33 (fu : Nat) : LpOk E (pc_b33 fu) 0 msk_b33 (lp_b33 fu) (loops 0 body_b33) := lp_nil (loop_nil (by kernel_rfl)) (by kernel_rfl)
def S_b33 (fu : Nat) (xs : List (D RT den)) : Option (Out RT den) := match xs with | [.int .i64 a0_0] => some ⟨Bool, F_impl_isAddress fu a0_0, enc_bo, fun _ => true⟩ | _ => none
theorem hpc_b33 (fu : Nat) : HpcOk E Tryz.prog (pcf_b33 fu) := by
 intro f xs o h
 unfold pcf_b33 at h
 split at h
 ·exact good_b32 fu xs o h
 ·cases h
theorem goodv_b33 (fu : Nat) (a_0 : Int) (y : Bool) (hy : F_impl_isAddress fu a_0 = some y) : Vm.Good E Tryz.prog 37 [(ii a_0)] (enc_bo y) :=
 fun_good E_ok (pc_good (pc := pc_b33 fu) (hpc_b33 fu) hpx0) (fn := Tryz.f37) (by kernel_rfl) (by kernel_rfl) (by kernel_rfl) (lpok_b33 fu) (fun d hd => out_bo_enc d _ hd) ((ev_b33 fu a_0).trans hy)
theorem good_b33 (fu : Nat) : GoodS E Tryz.prog 37 (S_b33 fu) := by
 intro xs o h y hy
 unfold S_b33 at h
 split at h
 ·rename_i a0_0
  cases h
  exact goodv_b33 fu a0_0 y hy
 ·cases h
def F_impl_Config_isZero (fu : Nat) (c_0 : S_impl_Config) : Option (Bool) :=
 (((bif (c_0.Version == 0) then (bif (((c_0.Backends.n : Nat) : Int) == 0) then (some (((c_0.Vips.n : Nat) : Int) == 0)) else (some false)) else (some false)) : Option Bool).bind fun m270 =>
  (some m270))
def pc_b34 (fu : Nat) : Pc RT den := ⟨pcf0, fun _ => false, fun _ => false, pcd0, pcd0, pcd0, pcx0⟩
def msk_b34 (b : Nat) : List Nat := match b with | 200001 => [2] | _ => []
def lp_b34 (fu : Nat) : Lp RT den (Bool) := ⟨fun b s k => none, inl0⟩
theorem ev_b34 (fu : Nat) (c_0 : S_impl_Config) : evFun E (pc_b34 fu) msk_b34 (lp_b34 fu) out_bo 67 [(.rptr [(ii c_0.Version), (.rs c_0.Backends.z .impl_Backend c_0.Backends.n c_0.Backends.f), (.rs c_0.Vips.z .impl_Vip c_0.Vips.n c_0.Vips.f)])] = F_impl_Config_isZero fu c_0 := by kernel_rfl
noncomputable def body_b34 : Code := Tryz.f67.body.getD .skip
theorem lpok_b34 (fu : Nat) : LpOk E (pc_b34 fu) 0 msk_b34 (lp_b34 fu) (loops 0 body_b34) := lp_nil (loop_nil (by kernel_rfl)) (by kernel_rfl)
def S_b34 (fu : Nat) (xs : List (D RT den)) : Option (Out RT den) := match xs with | [.rptr (.int .i64 a0_1 :: .rs za0_2 .impl_Backend na0_2 fa0_2 :: .rs za0_3 .impl_Vip na0_3 fa0_3 :: ra0)] => some ⟨Bool, F_impl_Config_isZero fu (⟨a0_1, (⟨za0_2, na0_2, fa0_2⟩ : (Sl S_impl_Backend)), (⟨za0_3, na0_3, fa0_3⟩ : (Sl S_impl_Vip))⟩ : S_impl_Config), enc_bo, fun _ => true⟩ | _ => none
theorem goodv_b34 (fu : Nat) (c_0 : S_impl_Config) (y : Bool) (hy : F_impl_Config_isZero fu c_0 = some y) : Vm.Good E Tryz.prog 67 [(.rptr [(ii c_0.Version), (.rs c_0.Backends.z .impl_Backend c_0.Backends.n c_0.Backends.f), (.rs c_0.Vips.z .impl_Vip c_0.Vips.n c_0.Vips.f)])] (enc_bo y) :=
 fun_good E_ok (pc_good (pc := pc_b34 fu) hpc0 hpx0) (fn := Tryz.f67) (by kernel_rfl) (by kernel_rfl) (by kernel_rfl) (lpok_b34 fu) (fun d hd => out_bo_enc d _ hd) ((ev_b34 fu c_0).trans hy)
theorem good_b34 (fu : Nat) : GoodS E Tryz.prog 67 (S_b34 fu) := by
 intro xs o h y hy
 unfold S_b34 at h
 split at h
 ·rename_i a0_1 za0_2 na0_2 fa0_2 za0_3 na0_3 fa0_3 ra0
  cases h
  exact (goodv_b34 fu (⟨a0_1, (⟨za0_2, na0_2, fa0_2⟩ : (Sl S_impl_Backend)), (⟨za0_3, na0_3, fa0_3⟩ : (Sl S_impl_Vip))⟩ : S_impl_Config) y hy).sub ⟨Sub.of_eq ra0 rfl, trivial⟩
 ·cases h
def F_impl_isName (fu : Nat) (name_0 : Int) : Option (Bool) :=
 ((F_impl_in fu name_0 1 999).bind fun y311 => (some y311))
def pcf_b35 (fu f : Nat) (xs : List (D RT den)) : Option (Out RT den) := match f with | 38 => S_b32 fu xs | _ => none
def pc_b35 (fu : Nat) : Pc RT den := ⟨pcf_b35 fu, fun _ => false, fun _ => false, pcd0, pcd0, pcd0, pcx0⟩
def msk_b35 (b : Nat) : List Nat := []
def lp_b35 (fu : Nat) : Lp RT den (Bool) := ⟨fun b s k => none, inl0⟩
theorem ev_b35 (fu : Nat) (name_0 : Int) : evFun E (pc_b35 fu) msk_b35 (lp_b35 fu) out_bo 111 [(ii name_0)] = F_impl_isName fu name_0 := by kernel_rfl
noncomputable def body_b35 : Code := Tryz.f111.body.getD .skip
theorem lpok_b35 (fu : Nat) : LpOk E (pc_b35 fu) 0 msk_b35 (lp_b35 fu) (loops 0 body_b35) := lp_nil (loop_nil (by kernel_rfl)) (by kernel_rfl)
def S_b35 (fu : Nat) (xs : List (D RT den)) : Option (Out RT den) := match xs with | [.int .i64 a0_0] => some ⟨Bool, F_impl_isName fu a0_0, enc_bo, fun _ => true⟩ | _ => none
theorem hpc_b35 (fu : Nat) : HpcOk E Tryz.prog (pcf_b35 fu) := by
 intro f xs o h
 unfold pcf_b35 at h
 split at h
 ·exact good_b32 fu xs o h
 ·cases h
theorem goodv_b35 (fu : Nat) (name_0 : Int) (y : Bool) (hy : F_impl_isName fu name_0 = some y) : Vm.Good E Tryz.prog 111 [(ii name_0)] (enc_bo y) :=
 fun_good E_ok (pc_good (pc := pc_b35 fu) (hpc_b35 fu) hpx0) (fn := Tryz.f111) (by kernel_rfl) (by kernel_rfl) (by kernel_rfl) (lpok_b35 fu) (fun d hd => out_bo_enc d _ hd) ((ev_b35 fu name_0).trans hy)
theorem good_b35 (fu : Nat) : GoodS E Tryz.prog 111 (S_b35 fu) := by
 intro xs o h y hy
 unfold S_b35 at h
 split at h
 ·rename_i a0_0
  cases h
  exact goodv_b35 fu a0_0 y hy
 ·cases h
def F_impl_isBackend (fu : Nat) (b_0 : S_impl_Backend) : Option (Bool) :=
 ((((F_impl_isName fu b_0.Name).bind fun y306 => (bif y306 then ((F_impl_isAddress fu b_0.Address).bind fun y307 => (bif y307 then ((F_impl_in fu b_0.Weight 0 9).bind fun y308 =>
  (bif y308 then ((F_impl_in fu b_0.Stage 1 3).bind fun y309 => (some y309)) else (some false))) else (some false))) else (some false))) : Option Bool).bind fun m310 => (some m310))
def pcf_b36 (fu f : Nat) (xs : List (D RT den)) : Option (Out RT den) := match f with | 37 => S_b33 fu xs | 38 => S_b32 fu xs | 111 => S_b35 fu xs | _ => none
def pc_b36 (fu : Nat) : Pc RT den := ⟨pcf_b36 fu, fun _ => false, fun _ => false, pcd0, pcd0, pcd0, pcx0⟩
def msk_b36 (b : Nat) : List Nat := match b with | 200001 => [2] | _ => []
def lp_b36 (fu : Nat) : Lp RT den (Bool) := ⟨fun b s k => none, inl0⟩
theorem ev_b36 (fu : Nat) (b_0 : S_impl_Backend) : evFun E (pc_b36 fu) msk_b36 (lp_b36 fu) out_bo 91 [(.agg [(ii b_0.Name), (ii b_0.Address), (ii b_0.Weight), (ii b_0.Stage), (.bool b_0.Up)])] = F_impl_isBackend fu b_0 := by kernel_rfl
noncomputable def body_b36 : Code := Tryz.f91.body.getD .skip
theorem lpok_b36 (fu : Nat) : LpOk E (pc_b36 fu) 0 msk_b36 (lp_b36 fu) (loops 0 body_b36) := lp_nil (loop_nil (by kernel_rfl)) (by kernel_rfl)
def S_b36 (fu : Nat) (xs : List (D RT den)) : Option (Out RT den) := match xs with | [.agg [.int .i64 a0_1, .int .i64 a0_2, .int .i64 a0_3, .int .i64 a0_4, .bool a0_5]] => some ⟨Bool, F_impl_isBackend fu (⟨a0_1, a0_2, a0_3, a0_4, a0_5⟩ : S_impl_Backend), enc_bo, fun _ => true⟩ | _ => none
theorem hpc_b36 (fu : Nat) : HpcOk E Tryz.prog (pcf_b36 fu) := by
 intro f xs o h
 unfold pcf_b36 at h
 split at h
 ·exact good_b33 fu xs o h
 ·exact good_b32 fu xs o h
 ·exact good_b35 fu xs o h
 ·cases h
theorem goodv_b36 (fu : Nat) (b_0 : S_impl_Backend) (y : Bool) (hy : F_impl_isBackend fu b_0 = some y) : Vm.Good E Tryz.prog 91 [(.agg [(ii b_0.Name), (ii b_0.Address), (ii b_0.Weight), (ii b_0.Stage), (.bool b_0.Up)])] (enc_bo y) :=
 fun_good E_ok (pc_good (pc := pc_b36 fu) (hpc_b36 fu) hpx0) (fn := Tryz.f91) (by kernel_rfl) (by kernel_rfl) (by kernel_rfl) (lpok_b36 fu) (fun d hd => out_bo_enc d _ hd) ((ev_b36 fu b_0).trans hy)
theorem good_b36 (fu : Nat) : GoodS E Tryz.prog 91 (S_b36 fu) := by
 intro xs o h y hy
 unfold S_b36 at h
 split at h
 ·rename_i a0_1 a0_2 a0_3 a0_4 a0_5
  cases h
  exact goodv_b36 fu (⟨a0_1, a0_2, a0_3, a0_4, a0_5⟩ : S_impl_Backend) y hy
 ·cases h
def F_impl_isPort (fu : Nat) (n_0 : Int) : Option (Bool) :=
 ((F_impl_in fu n_0 0 65535).bind fun y312 => (some y312))
def pcf_b37 (fu f : Nat) (xs : List (D RT den)) : Option (Out RT den) := match f with | 38 => S_b32 fu xs | _ => none
def pc_b37 (fu : Nat) : Pc RT den := ⟨pcf_b37 fu, fun _ => false, fun _ => false, pcd0, pcd0, pcd0, pcx0⟩
def msk_b37 (b : Nat) : List Nat := []
def lp_b37 (fu : Nat) : Lp RT den (Bool) := ⟨fun b s k => none, inl0⟩
theorem ev_b37 (fu : Nat) (n_0 : Int) : evFun E (pc_b37 fu) msk_b37 (lp_b37 fu) out_bo 92 [(ii n_0)] = F_impl_isPort fu n_0 := by kernel_rfl
noncomputable def body_b37 : Code := Tryz.f92.body.getD .skip
theorem lpok_b37 (fu : Nat) : LpOk E (pc_b37 fu) 0 msk_b37 (lp_b37 fu) (loops 0 body_b37) := lp_nil (loop_nil (by kernel_rfl)) (by kernel_rfl)
def S_b37 (fu : Nat) (xs : List (D RT den)) : Option (Out RT den) := match xs with | [.int .i64 a0_0] => some ⟨Bool, F_impl_isPort fu a0_0, enc_bo, fun _ => true⟩ | _ => none
theorem hpc_b37 (fu : Nat) : HpcOk E Tryz.prog (pcf_b37 fu) := by
 intro f xs o h
 unfold pcf_b37 at h
 split at h
 ·exact good_b32 fu xs o h
 ·cases h
theorem goodv_b37 (fu : Nat) (n_0 : Int) (y : Bool) (hy : F_impl_isPort fu n_0 = some y) : Vm.Good E Tryz.prog 92 [(ii n_0)] (enc_bo y) :=
 fun_good E_ok (pc_good (pc := pc_b37 fu) (hpc_b37 fu) hpx0) (fn := Tryz.f92) (by kernel_rfl) (by kernel_rfl) (by kernel_rfl) (lpok_b37 fu) (fun d hd => out_bo_enc d _ hd) ((ev_b37 fu n_0).trans hy)
theorem good_b37 (fu : Nat) : GoodS E Tryz.prog 92 (S_b37 fu) := by
 intro xs o h y hy
 unfold S_b37 at h
 split at h
 ·rename_i a0_0
  cases h
  exact goodv_b37 fu a0_0 y hy
 ·cases h
def F_impl_isProto (fu : Nat) (n_0 : Int) : Option (Bool) :=
 (((bif (n_0 == 6) then (some true) else (some (n_0 == 17))) : Option Bool).bind fun m313 => (some m313))
def pc_b38 (fu : Nat) : Pc RT den := ⟨pcf0, fun _ => false, fun _ => false, pcd0, pcd0, pcd0, pcx0⟩
def msk_b38 (b : Nat) : List Nat := match b with | 200001 => [2] | _ => []
def lp_b38 (fu : Nat) : Lp RT den (Bool) := ⟨fun b s k => none, inl0⟩
theorem ev_b38 (fu : Nat) (n_0 : Int) : evFun E (pc_b38 fu) msk_b38 (lp_b38 fu) out_bo 93 [(ii n_0)] = F_impl_isProto fu n_0 := by kernel_rfl
noncomputable def body_b38 : Code := Tryz.f93.body.getD .skip
theorem lpok_b38 (fu : Nat) : LpOk E (pc_b38 fu) 0 msk_b38 (lp_b38 fu) (loops 0 body_b38) := lp_nil (loop_nil (by kernel_rfl)) (by kernel_rfl)
def S_b38 (fu : Nat) (xs : List (D RT den)) : Option (Out RT den) := match xs with | [.int .i64 a0_0] => some ⟨Bool, F_impl_isProto fu a0_0, enc_bo, fun _ => true⟩ | _ => none
theorem goodv_b38 (fu : Nat) (n_0 : Int) (y : Bool) (hy : F_impl_isProto fu n_0 = some y) : Vm.Good E Tryz.prog 93 [(ii n_0)] (enc_bo y) :=
 fun_good E_ok (pc_good (pc := pc_b38 fu) hpc0 hpx0) (fn := Tryz.f93) (by kernel_rfl) (by kernel_rfl) (by kernel_rfl) (lpok_b38 fu) (fun d hd => out_bo_enc d _ hd) ((ev_b38 fu n_0).trans hy)
theorem good_b38 (fu : Nat) : GoodS E Tryz.prog 93 (S_b38 fu) := by
 intro xs o h y hy
 unfold S_b38 at h
 split at h
 ·rename_i a0_0
  cases h
  exact goodv_b38 fu a0_0 y hy
 ·cases h
def F_cmp_isNaN_int64 (fu : Nat) (x_0 : Int) : Option (Bool) :=
 (some (x_0 != x_0))
def pc_b39 (fu : Nat) : Pc RT den := ⟨pcf0, fun _ => false, fun _ => false, pcd0, pcd0, pcd0, pcx0⟩
def msk_b39 (b : Nat) : List Nat := []
def lp_b39 (fu : Nat) : Lp RT den (Bool) := ⟨fun b s k => none, inl0⟩
theorem ev_b39 (fu : Nat) (x_0 : Int) : evFun E (pc_b39 fu) msk_b39 (lp_b39 fu) out_bo 126 [(ii x_0)] = F_cmp_isNaN_int64 fu x_0 := by kernel_rfl
noncomputable def body_b39 : Code := Tryz.f126.body.getD .skip
theorem lpok_b39 (fu : Nat) : LpOk E (pc_b39 fu) 0 msk_b39 (lp_b39 fu) (loops 0 body_b39) := lp_nil (loop_nil (by kernel_rfl)) (by kernel_rfl)
def S_b39 (fu : Nat) (xs : List (D RT den)) : Option (Out RT den) := match xs with | [.int .i64 a0_0] => some ⟨Bool, F_cmp_isNaN_int64 fu a0_0, enc_bo, fun _ => true⟩ | _ => none
theorem goodv_b39 (fu : Nat) (x_0 : Int) (y : Bool) (hy : F_cmp_isNaN_int64 fu x_0 = some y) : Vm.Good E Tryz.prog 126 [(ii x_0)] (enc_bo y) :=
 fun_good E_ok (pc_good (pc := pc_b39 fu) hpc0 hpx0) (fn := Tryz.f126) (by kernel_rfl) (by kernel_rfl) (by kernel_rfl) (lpok_b39 fu) (fun d hd => out_bo_enc d _ hd) ((ev_b39 fu x_0).trans hy)
theorem good_b39 (fu : Nat) : GoodS E Tryz.prog 126 (S_b39 fu) := by
 intro xs o h y hy
 unfold S_b39 at h
 split at h
 ·rename_i a0_0
  cases h
  exact goodv_b39 fu a0_0 y hy
 ·cases h
def F_cmp_Compare_int64 (fu : Nat) (x_0 y_1 : Int) : Option (Int) :=
 ((F_cmp_isNaN_int64 fu x_0).bind fun y318 => ((F_cmp_isNaN_int64 fu y_1).bind fun y319 => (bif y318 then (bif y319 then (some 0) else (some (-1))) else (bif y319 then (some 1) else
  (bif (decide (x_0 < y_1)) then (some (-1)) else (bif (decide (x_0 > y_1)) then (some 1) else (some 0)))))))
def pcf_c0 (fu f : Nat) (xs : List (D RT den)) : Option (Out RT den) := match f with | 126 => S_b39 fu xs | _ => none
def pc_c0 (fu : Nat) : Pc RT den := ⟨pcf_c0 fu, fun _ => false, fun _ => false, pcd0, pcd0, pcd0, pcx0⟩
def msk_c0 (b : Nat) : List Nat := []
def lp_c0 (fu : Nat) : Lp RT den (Int) := ⟨fun b s k => none, inl0⟩
theorem ev_c0 (fu : Nat) (x_0 y_1 : Int) : evFun E (pc_c0 fu) msk_c0 (lp_c0 fu) out_i64 113 [(ii x_0), (ii y_1)] = F_cmp_Compare_int64 fu x_0 y_1 := by kernel_rfl
noncomputable def body_c0 : Code := Tryz.f113.body.getD .skip
theorem lpok_c0 (fu : Nat) : LpOk E (pc_c0 fu) 0 msk_c0 (lp_c0 fu) (loops 0 body_c0) := lp_nil (loop_nil (by kernel_rfl)) (by kernel_rfl)
def S_c0 (fu : Nat) (xs : List (D RT den)) : Option (Out RT den) := match xs with | [.int .i64 a0_0, .int .i64 a1_0] => some ⟨Int, F_cmp_Compare_int64 fu a0_0 a1_0, enc_i64, fun _ => true⟩ | _ => none
theorem hpc_c0 (fu : Nat) : HpcOk E Tryz.prog (pcf_c0 fu) := by
 intro f xs o h
 unfold pcf_c0 at h
 split at h
 ·exact good_b39 fu xs o h
 ·cases h
theorem goodv_c0 (fu : Nat) (x_0 y_1 y : Int) (hy : F_cmp_Compare_int64 fu x_0 y_1 = some y) : Vm.Good E Tryz.prog 113 [(ii x_0), (ii y_1)] (enc_i64 y) :=
 fun_good E_ok (pc_good (pc := pc_c0 fu) (hpc_c0 fu) hpx0) (fn := Tryz.f113) (by kernel_rfl) (by kernel_rfl) (by kernel_rfl) (lpok_c0 fu) (fun d hd => out_i64_enc d _ hd) ((ev_c0 fu x_0 y_1).trans hy)
theorem good_c0 (fu : Nat) : GoodS E Tryz.prog 113 (S_c0 fu) := by
 intro xs o h y hy
 unfold S_c0 at h
 split at h
 ·rename_i a0_0 a1_0
  cases h
  exact goodv_c0 fu a0_0 a1_0 y hy
 ·cases h
def F_cmp_Or_int_B0 {ρ : Type} (fu : Nat) (zero3_0 : Int) (t6_1 : (Sl Int)) (t7_2 : Int) (k0 : Int → Option ρ) (k1 : Option ρ) (t8_3 : Int) (go : Int → Option ρ) : Option ρ :=
 (bif (decide (t8_3 < t7_2)) then ((bif (decide (0 ≤ t8_3) && decide ((Int.toNat t8_3) < t6_1.n)) then some () else none : Option Unit).bind fun _ => (bif ((t6_1.f (Int.toNat t8_3)) != zero3_0) then
  (k0 (t6_1.f (Int.toNat t8_3))) else (go (IntKind.wrap .i64 (t8_3 + 1))))) else k1)
def F_cmp_Or_int (fu : Nat) (vals_0 : (Sl Int)) : Option (Int) :=
 (L (fun w0 go0 => F_cmp_Or_int_B0 fu 0 vals_0 ((vals_0.n : Nat) : Int) (fun z320 => (some z320)) (some 0) w0 go0) fu (0 : Int))
def pc_c1 (fu : Nat) : Pc RT den := ⟨pcf0, fun _ => false, fun _ => false, pcd0, pcd0, pcd0, pcx0⟩
def msk_c1 (b : Nat) : List Nat := match b with | 0 => (0 :: 1 :: 2 :: 4 :: 5 :: (rg 9 9 [])) | 100000 => (0 :: 1 :: (rg 4 14 [])) | _ => []
def ps_c1_0 : List (Pat RT) := (.flat .q :: .flat .q :: .flat .q :: .flat (.int .i64) :: .flat .q :: .flat .q :: .flat (.rs .i64) :: .flat (.int .i64) :: .flat (.int .i64) :: (fq 9 []))
def os_c1_0 : List (OP RT) := []
def conv_c1_0 (r : Raw den ps_c1_0 os_c1_0) : (Int × (Sl Int) × Int) × (Int) := ((r.1.2.2.2.1, (e5 r.1).2.1, (e5 r.1).2.2.1), (e5 r.1).2.2.2.1)
def back_c1_0 (c : Int × (Sl Int) × Int) (w : Int) : St RT den := ⟨(.q :: .q :: .q :: (ii c.1) :: .q :: .q :: (.rs c.2.1.z .i64 c.2.1.n c.2.1.f) :: (ii c.2.2) :: (ii w) :: (qs 9 [])), []⟩
def Bk_c1_0 {ρ : Type} (fu : Nat) (c : Int × (Sl Int) × Int) (k : Ex → St RT den → Option ρ) (w : Int) (go : (Int) → Option ρ) : Option ρ := F_cmp_Or_int_B0 fu c.1 c.2.1 c.2.2 (fun a0 => k .ret ⟨(.q :: .q :: (ii a0) :: (ii c.1) :: (qs 14 [])), []⟩) (k (.exit 0) ⟨(.q :: .q :: .q :: (ii c.1) :: (qs 14 [])), []⟩) w go
def lp_c1 (fu : Nat) : Lp RT den (Int) := ⟨fun b s k => match b with | 0 => handle ps_c1_0 os_c1_0 conv_c1_0 (Bk_c1_0 fu) fu s k | _ => none, inl0⟩
theorem ev_c1 (fu : Nat) (vals_0 : (Sl Int)) : evFun E (pc_c1 fu) msk_c1 (lp_c1 fu) out_i64 112 [(.rs vals_0.z .i64 vals_0.n vals_0.f)] = F_cmp_Or_int fu vals_0 := by kernel_rfl
noncomputable def body_c1 : Code := Tryz.f112.body.getD .skip
noncomputable def lc_c1_0 : Code := ((loops 0 body_c1).getD 0 (0, .skip)).2
theorem round_c1_0 (fu : Nat) : RoundOk E (pc_c1 fu) msk_c1 (lp_c1 fu) 0 lc_c1_0 back_c1_0 0 100000 0 (Bk_c1_0 fu) := fun it k c w => by kernel_rfl
theorem lpok_c1_0 (fu : Nat) : LpAt E (pc_c1 fu) msk_c1 (lp_c1 fu) 0 0 100000 0 lc_c1_0 :=
 handle_ok (ps := ps_c1_0) (os := os_c1_0) (conv := conv_c1_0) (B := Bk_c1_0 fu) (fu := fu) back_c1_0 (fun raw => by kernel_rfl) 0 (fun c w => by kernel_rfl) (round_c1_0 fu)
theorem lpok_c1 (fu : Nat) : LpOk E (pc_c1 fu) 0 msk_c1 (lp_c1 fu) (loops 0 body_c1) := lp_nil (loop_all 1 (by kernel_rfl) fun i hi => match i, hi with
 | 0, _ => by
  have h : (loops 0 body_c1).getD 0 (0, .skip) = (0, lc_c1_0) := by kernel_rfl
  rw [h]; exact lpok_c1_0 fu
 | i + 1, hi => absurd hi (by omega)) (by kernel_rfl)
def S_c1 (fu : Nat) (xs : List (D RT den)) : Option (Out RT den) := match xs with | [.rs za0_0 .i64 na0_0 fa0_0] => some ⟨Int, F_cmp_Or_int fu (⟨za0_0, na0_0, fa0_0⟩ : (Sl Int)), enc_i64, fun _ => true⟩ | _ => none
theorem goodv_c1 (fu : Nat) (vals_0 : (Sl Int)) (y : Int) (hy : F_cmp_Or_int fu vals_0 = some y) : Vm.Good E Tryz.prog 112 [(.rs vals_0.z .i64 vals_0.n vals_0.f)] (enc_i64 y) :=
 fun_good E_ok (pc_good (pc := pc_c1 fu) hpc0 hpx0) (fn := Tryz.f112) (by kernel_rfl) (by kernel_rfl) (by kernel_rfl) (lpok_c1 fu) (fun d hd => out_i64_enc d _ hd) ((ev_c1 fu vals_0).trans hy)
theorem good_c1 (fu : Nat) : GoodS E Tryz.prog 112 (S_c1 fu) := by
 intro xs o h y hy
 unfold S_c1 at h
 split at h
 ·rename_i za0_0 na0_0 fa0_0
  cases h
  exact goodv_c1 fu (⟨za0_0, na0_0, fa0_0⟩ : (Sl Int)) y hy
 ·cases h
def F_impl_compareVip (fu : Nat) (a_0 b_1 : S_impl_Vip) : Option (Int) :=
 ((F_cmp_Compare_int64 fu a_0.Address b_1.Address).bind fun y314 => ((F_cmp_Compare_int64 fu a_0.Port b_1.Port).bind fun y315 => ((F_cmp_Compare_int64 fu a_0.Proto b_1.Proto).bind fun y316 =>
  ((F_cmp_Or_int fu (⟨(some false), 3, (fun i => ([y314, y315, y316] : List (Int)).getD i (dflt .i64))⟩ : (Sl Int))).bind fun y317 => (some y317)))))
def pcf_c2 (fu f : Nat) (xs : List (D RT den)) : Option (Out RT den) := match f with | 112 => S_c1 fu xs | 113 => S_c0 fu xs | _ => none
def pc_c2 (fu : Nat) : Pc RT den := ⟨pcf_c2 fu, fun _ => false, fun _ => false, pcd0, pcd0, pcd0, pcx0⟩
def msk_c2 (b : Nat) : List Nat := []
def lp_c2 (fu : Nat) : Lp RT den (Int) := ⟨fun b s k => none, inl0⟩
theorem ev_c2 (fu : Nat) (a_0 b_1 : S_impl_Vip) : evFun E (pc_c2 fu) msk_c2 (lp_c2 fu) out_i64 94 [(.agg [(ii a_0.Address), (ii a_0.Port), (ii a_0.Proto), (.rs a_0.Names.z .i64 a_0.Names.n a_0.Names.f)]), (.agg [(ii b_1.Address), (ii b_1.Port), (ii b_1.Proto), (.rs b_1.Names.z .i64 b_1.Names.n b_1.Names.f)])] = F_impl_compareVip fu a_0 b_1 := by kernel_rfl
noncomputable def body_c2 : Code := Tryz.f94.body.getD .skip
theorem lpok_c2 (fu : Nat) : LpOk E (pc_c2 fu) 0 msk_c2 (lp_c2 fu) (loops 0 body_c2) := lp_nil (loop_nil (by kernel_rfl)) (by kernel_rfl)
def S_c2 (fu : Nat) (xs : List (D RT den)) : Option (Out RT den) := match xs with | [.agg [.int .i64 a0_1, .int .i64 a0_2, .int .i64 a0_3, .rs za0_4 .i64 na0_4 fa0_4], .agg [.int .i64 a1_1, .int .i64 a1_2, .int .i64 a1_3, .rs za1_4 .i64 na1_4 fa1_4]] => some ⟨Int, F_impl_compareVip fu (⟨a0_1, a0_2, a0_3, (⟨za0_4, na0_4, fa0_4⟩ : (Sl Int))⟩ : S_impl_Vip) (⟨a1_1, a1_2, a1_3, (⟨za1_4, na1_4, fa1_4⟩ : (Sl Int))⟩ : S_impl_Vip), enc_i64, fun _ => true⟩ | _ => none
theorem hpc_c2 (fu : Nat) : HpcOk E Tryz.prog (pcf_c2 fu) := by
 intro f xs o h
 unfold pcf_c2 at h
 split at h
 ·exact good_c1 fu xs o h
 ·exact good_c0 fu xs o h
 ·cases h
theorem goodv_c2 (fu : Nat) (a_0 b_1 : S_impl_Vip) (y : Int) (hy : F_impl_compareVip fu a_0 b_1 = some y) : Vm.Good E Tryz.prog 94 [(.agg [(ii a_0.Address), (ii a_0.Port), (ii a_0.Proto), (.rs a_0.Names.z .i64 a_0.Names.n a_0.Names.f)]), (.agg [(ii b_1.Address), (ii b_1.Port), (ii b_1.Proto), (.rs b_1.Names.z .i64 b_1.Names.n b_1.Names.f)])] (enc_i64 y) :=
 fun_good E_ok (pc_good (pc := pc_c2 fu) (hpc_c2 fu) hpx0) (fn := Tryz.f94) (by kernel_rfl) (by kernel_rfl) (by kernel_rfl) (lpok_c2 fu) (fun d hd => out_i64_enc d _ hd) ((ev_c2 fu a_0 b_1).trans hy)
theorem good_c2 (fu : Nat) : GoodS E Tryz.prog 94 (S_c2 fu) := by
 intro xs o h y hy
 unfold S_c2 at h
 split at h
 ·rename_i a0_1 a0_2 a0_3 za0_4 na0_4 fa0_4 a1_1 a1_2 a1_3 za1_4 na1_4 fa1_4
  cases h
  exact goodv_c2 fu (⟨a0_1, a0_2, a0_3, (⟨za0_4, na0_4, fa0_4⟩ : (Sl Int))⟩ : S_impl_Vip) (⟨a1_1, a1_2, a1_3, (⟨za1_4, na1_4, fa1_4⟩ : (Sl Int))⟩ : S_impl_Vip) y hy
 ·cases h
def F_impl_ConfigFault_c1 (fu : Nat) (name_0 x_1_1 : Int) (x_1_2 : (Sl S_impl_Backend)) (x_1_3 : (Sl S_impl_Vip)) : Option (Bool) :=
 ((F_impl_Config_backend fu (⟨x_1_1, x_1_2, x_1_3⟩ : S_impl_Config) name_0).bind fun y324 => (some (decide (y324 < 0))))
def pcf_c3 (fu f : Nat) (xs : List (D RT den)) : Option (Out RT den) := match f with | 72 => S_b20 fu xs | _ => none
def pc_c3 (fu : Nat) : Pc RT den := ⟨pcf_c3 fu, fun _ => false, fun _ => false, pcd0, pcd0, pcd0, pcx0⟩
def msk_c3 (b : Nat) : List Nat := []
def lp_c3 (fu : Nat) : Lp RT den (Bool) := ⟨fun b s k => none, inl0⟩
theorem ev_c3 (fu : Nat) (name_0 x_1_1 : Int) (x_1_2 : (Sl S_impl_Backend)) (x_1_3 : (Sl S_impl_Vip)) : evFun E (pc_c3 fu) msk_c3 (lp_c3 fu) out_bo 96 [(ii name_0), (.rptr [(ii x_1_1), (.rs x_1_2.z .impl_Backend x_1_2.n x_1_2.f), (.rs x_1_3.z .impl_Vip x_1_3.n x_1_3.f)])] = F_impl_ConfigFault_c1 fu name_0 x_1_1 x_1_2 x_1_3 := by kernel_rfl
noncomputable def body_c3 : Code := Tryz.f96.body.getD .skip
theorem lpok_c3 (fu : Nat) : LpOk E (pc_c3 fu) 0 msk_c3 (lp_c3 fu) (loops 0 body_c3) := lp_nil (loop_nil (by kernel_rfl)) (by kernel_rfl)
def S_c3 (fu : Nat) (xs : List (D RT den)) : Option (Out RT den) := match xs with | [.int .i64 a0_0, .rptr [.int .i64 a1_0, .rs za1_1 .impl_Backend na1_1 fa1_1, .rs za1_2 .impl_Vip na1_2 fa1_2]] => some ⟨Bool, F_impl_ConfigFault_c1 fu a0_0 a1_0 (⟨za1_1, na1_1, fa1_1⟩ : (Sl S_impl_Backend)) (⟨za1_2, na1_2, fa1_2⟩ : (Sl S_impl_Vip)), enc_bo, fun _ => true⟩ | _ => none
theorem hpc_c3 (fu : Nat) : HpcOk E Tryz.prog (pcf_c3 fu) := by
 intro f xs o h
 unfold pcf_c3 at h
 split at h
 ·exact good_b20 fu xs o h
 ·cases h
theorem goodv_c3 (fu : Nat) (name_0 x_1_1 : Int) (x_1_2 : (Sl S_impl_Backend)) (x_1_3 : (Sl S_impl_Vip)) (y : Bool) (hy : F_impl_ConfigFault_c1 fu name_0 x_1_1 x_1_2 x_1_3 = some y) : Vm.Good E Tryz.prog 96 [(ii name_0), (.rptr [(ii x_1_1), (.rs x_1_2.z .impl_Backend x_1_2.n x_1_2.f), (.rs x_1_3.z .impl_Vip x_1_3.n x_1_3.f)])] (enc_bo y) :=
 fun_good E_ok (pc_good (pc := pc_c3 fu) (hpc_c3 fu) hpx0) (fn := Tryz.f96) (by kernel_rfl) (by kernel_rfl) (by kernel_rfl) (lpok_c3 fu) (fun d hd => out_bo_enc d _ hd) ((ev_c3 fu name_0 x_1_1 x_1_2 x_1_3).trans hy)
theorem good_c3 (fu : Nat) : GoodS E Tryz.prog 96 (S_c3 fu) := by
 intro xs o h y hy
 unfold S_c3 at h
 split at h
 ·rename_i a0_0 a1_0 za1_1 na1_1 fa1_1 za1_2 na1_2 fa1_2
  cases h
  exact goodv_c3 fu a0_0 a1_0 (⟨za1_1, na1_1, fa1_1⟩ : (Sl S_impl_Backend)) (⟨za1_2, na1_2, fa1_2⟩ : (Sl S_impl_Vip)) y hy
 ·cases h
def F_slices_IndexFunc_int64_int64_w_impl_ConfigFault_c1_B0 {ρ : Type} (fu : Nat) (s0_0 : (Sl Int)) (f1_1 : Int) (f1_2 : (Sl S_impl_Backend)) (f1_3 : (Sl S_impl_Vip)) (t7_4 : Int) (k0 : Int → Option ρ) (k1 : Option ρ) (t8_5 : Int) (go : Int → Option ρ) : Option ρ :=
 (bif (decide (t8_5 < t7_4)) then ((bif (decide (0 ≤ t8_5) && decide ((Int.toNat t8_5) < s0_0.n)) then some () else none : Option Unit).bind fun _ => ((F_impl_ConfigFault_c1 fu (s0_0.f (Int.toNat t8_5)) f1_1 f1_2 f1_3).bind fun y322 =>
  (bif y322 then (k0 t8_5) else (go (IntKind.wrap .i64 (t8_5 + 1)))))) else k1)
def F_slices_IndexFunc_int64_int64_w_impl_ConfigFault_c1 (fu : Nat) (s_0 : (Sl Int)) (f_1_1 : Int) (f_1_2 : (Sl S_impl_Backend)) (f_1_3 : (Sl S_impl_Vip)) : Option (Int) :=
 (L (fun w0 go0 => F_slices_IndexFunc_int64_int64_w_impl_ConfigFault_c1_B0 fu s_0 f_1_1 f_1_2 f_1_3 ((s_0.n : Nat) : Int) (fun z323 => (some z323)) (some (-1)) w0 go0) fu (0 : Int))
def pcf_c4 (fu f : Nat) (xs : List (D RT den)) : Option (Out RT den) := match f with | 96 => S_c3 fu xs | _ => none
def pc_c4 (fu : Nat) : Pc RT den := ⟨pcf_c4 fu, fun _ => false, fun _ => false, pcd0, pcd0, pcd0, pcx0⟩
def msk_c4 (b : Nat) : List Nat := match b with | 0 => (rg 2 5 (rg 9 10 [])) | 100000 => (0 :: 1 :: 2 :: 3 :: (rg 5 14 [])) | _ => []
def ps_c4_0 : List (Pat RT) := (.flat (.rs .i64) :: .fn 96 [.rptr [(.int .i64), (.rs .impl_Backend), (.rs .impl_Vip)]] :: (fq 5 (.flat (.int .i64) :: .flat (.int .i64) :: (fq 10 []))))
def os_c4_0 : List (OP RT) := []
def conv_c4_0 (r : Raw den ps_c4_0 os_c4_0) : (Ye1) × (Int) := ((r.1.1, r.1.2.1.1.1, r.1.2.1.1.2.1, r.1.2.1.1.2.2.1, (e5 r.1).2.2.1), (e5 r.1).2.2.2.1)
def back_c4_0 (c : Ye1) (w : Int) : St RT den := ⟨((.rs c.1.z .i64 c.1.n c.1.f) :: (.fn 96 [(.rptr [(ii c.2.1), (.rs c.2.2.1.z .impl_Backend c.2.2.1.n c.2.2.1.f), (.rs c.2.2.2.1.z .impl_Vip c.2.2.2.1.n c.2.2.2.1.f)])]) :: (qs 5 ((ii c.2.2.2.2) :: (ii w) :: (qs 10 [])))), []⟩
def Bk_c4_0 {ρ : Type} (fu : Nat) (c : Ye1) (k : Ex → St RT den → Option ρ) (w : Int) (go : (Int) → Option ρ) : Option ρ := F_slices_IndexFunc_int64_int64_w_impl_ConfigFault_c1_B0 fu c.1 c.2.1 c.2.2.1 c.2.2.2.1 c.2.2.2.2 (fun a0 => k .ret ⟨(qs 4 ((ii a0) :: (qs 14 []))), []⟩) (k (.exit 0) ⟨(qs 19 []), []⟩) w go
def lp_c4 (fu : Nat) : Lp RT den (Int) := ⟨fun b s k => match b with | 0 => handle ps_c4_0 os_c4_0 conv_c4_0 (Bk_c4_0 fu) fu s k | _ => none, inl0⟩
theorem ev_c4 (fu : Nat) (s_0 : (Sl Int)) (f_1_1 : Int) (f_1_2 : (Sl S_impl_Backend)) (f_1_3 : (Sl S_impl_Vip)) : evFun E (pc_c4 fu) msk_c4 (lp_c4 fu) out_i64 114 [(.rs s_0.z .i64 s_0.n s_0.f), (.fn 96 [(.rptr [(ii f_1_1), (.rs f_1_2.z .impl_Backend f_1_2.n f_1_2.f), (.rs f_1_3.z .impl_Vip f_1_3.n f_1_3.f)])])] = F_slices_IndexFunc_int64_int64_w_impl_ConfigFault_c1 fu s_0 f_1_1 f_1_2 f_1_3 := by kernel_rfl
noncomputable def body_c4 : Code := Tryz.f114.body.getD .skip
noncomputable def lc_c4_0 : Code := ((loops 0 body_c4).getD 0 (0, .skip)).2
theorem round_c4_0 (fu : Nat) : RoundOk E (pc_c4 fu) msk_c4 (lp_c4 fu) 0 lc_c4_0 back_c4_0 0 100000 0 (Bk_c4_0 fu) := fun it k c w => by kernel_rfl
theorem lpok_c4_0 (fu : Nat) : LpAt E (pc_c4 fu) msk_c4 (lp_c4 fu) 0 0 100000 0 lc_c4_0 :=
 handle_ok (ps := ps_c4_0) (os := os_c4_0) (conv := conv_c4_0) (B := Bk_c4_0 fu) (fu := fu) back_c4_0 (fun raw => by kernel_rfl) 0 (fun c w => by kernel_rfl) (round_c4_0 fu)
theorem lpok_c4 (fu : Nat) : LpOk E (pc_c4 fu) 0 msk_c4 (lp_c4 fu) (loops 0 body_c4) := lp_nil (loop_all 1 (by kernel_rfl) fun i hi => match i, hi with
 | 0, _ => by
  have h : (loops 0 body_c4).getD 0 (0, .skip) = (0, lc_c4_0) := by kernel_rfl
  rw [h]; exact lpok_c4_0 fu
 | i + 1, hi => absurd hi (by omega)) (by kernel_rfl)
def S_c4 (fu : Nat) (xs : List (D RT den)) : Option (Out RT den) := match xs with | [.rs za0_0 .i64 na0_0 fa0_0, .fn 96 [.rptr [.int .i64 a1_0, .rs za1_1 .impl_Backend na1_1 fa1_1, .rs za1_2 .impl_Vip na1_2 fa1_2]]] => some ⟨Int, F_slices_IndexFunc_int64_int64_w_impl_ConfigFault_c1 fu (⟨za0_0, na0_0, fa0_0⟩ : (Sl Int)) a1_0 (⟨za1_1, na1_1, fa1_1⟩ : (Sl S_impl_Backend)) (⟨za1_2, na1_2, fa1_2⟩ : (Sl S_impl_Vip)), enc_i64, fun _ => true⟩ | _ => none
theorem hpc_c4 (fu : Nat) : HpcOk E Tryz.prog (pcf_c4 fu) := by
 intro f xs o h
 unfold pcf_c4 at h
 split at h
 ·exact good_c3 fu xs o h
 ·cases h
theorem goodv_c4 (fu : Nat) (s_0 : (Sl Int)) (f_1_1 : Int) (f_1_2 : (Sl S_impl_Backend)) (f_1_3 : (Sl S_impl_Vip)) (y : Int) (hy : F_slices_IndexFunc_int64_int64_w_impl_ConfigFault_c1 fu s_0 f_1_1 f_1_2 f_1_3 = some y) : Vm.Good E Tryz.prog 114 [(.rs s_0.z .i64 s_0.n s_0.f), (.fn 96 [(.rptr [(ii f_1_1), (.rs f_1_2.z .impl_Backend f_1_2.n f_1_2.f), (.rs f_1_3.z .impl_Vip f_1_3.n f_1_3.f)])])] (enc_i64 y) :=
 fun_good E_ok (pc_good (pc := pc_c4 fu) (hpc_c4 fu) hpx0) (fn := Tryz.f114) (by kernel_rfl) (by kernel_rfl) (by kernel_rfl) (lpok_c4 fu) (fun d hd => out_i64_enc d _ hd) ((ev_c4 fu s_0 f_1_1 f_1_2 f_1_3).trans hy)
theorem good_c4 (fu : Nat) : GoodS E Tryz.prog 114 (S_c4 fu) := by
 intro xs o h y hy
 unfold S_c4 at h
 split at h
 ·rename_i za0_0 na0_0 fa0_0 a1_0 za1_1 na1_1 fa1_1 za1_2 na1_2 fa1_2
  cases h
  exact goodv_c4 fu (⟨za0_0, na0_0, fa0_0⟩ : (Sl Int)) a1_0 (⟨za1_1, na1_1, fa1_1⟩ : (Sl S_impl_Backend)) (⟨za1_2, na1_2, fa1_2⟩ : (Sl S_impl_Vip)) y hy
 ·cases h
def F_slices_ContainsFunc_int64_int64_w_impl_ConfigFault_c1 (fu : Nat) (s_0 : (Sl Int)) (f_1_1 : Int) (f_1_2 : (Sl S_impl_Backend)) (f_1_3 : (Sl S_impl_Vip)) : Option (Bool) :=
 ((F_slices_IndexFunc_int64_int64_w_impl_ConfigFault_c1 fu s_0 f_1_1 f_1_2 f_1_3).bind fun y321 => (some (decide (y321 ≥ 0))))
def pcf_c5 (fu f : Nat) (xs : List (D RT den)) : Option (Out RT den) := match f with | 114 => S_c4 fu xs | _ => none
def pc_c5 (fu : Nat) : Pc RT den := ⟨pcf_c5 fu, fun _ => false, fun _ => false, pcd0, pcd0, pcd0, pcx0⟩
def msk_c5 (b : Nat) : List Nat := []
def lp_c5 (fu : Nat) : Lp RT den (Bool) := ⟨fun b s k => none, inl0⟩
theorem ev_c5 (fu : Nat) (s_0 : (Sl Int)) (f_1_1 : Int) (f_1_2 : (Sl S_impl_Backend)) (f_1_3 : (Sl S_impl_Vip)) : evFun E (pc_c5 fu) msk_c5 (lp_c5 fu) out_bo 95 [(.rs s_0.z .i64 s_0.n s_0.f), (.fn 96 [(.rptr [(ii f_1_1), (.rs f_1_2.z .impl_Backend f_1_2.n f_1_2.f), (.rs f_1_3.z .impl_Vip f_1_3.n f_1_3.f)])])] = F_slices_ContainsFunc_int64_int64_w_impl_ConfigFault_c1 fu s_0 f_1_1 f_1_2 f_1_3 := by kernel_rfl
noncomputable def body_c5 : Code := Tryz.f95.body.getD .skip
theorem lpok_c5 (fu : Nat) : LpOk E (pc_c5 fu) 0 msk_c5 (lp_c5 fu) (loops 0 body_c5) := lp_nil (loop_nil (by kernel_rfl)) (by kernel_rfl)
def S_c5 (fu : Nat) (xs : List (D RT den)) : Option (Out RT den) := match xs with | [.rs za0_0 .i64 na0_0 fa0_0, .fn 96 [.rptr [.int .i64 a1_0, .rs za1_1 .impl_Backend na1_1 fa1_1, .rs za1_2 .impl_Vip na1_2 fa1_2]]] => some ⟨Bool, F_slices_ContainsFunc_int64_int64_w_impl_ConfigFault_c1 fu (⟨za0_0, na0_0, fa0_0⟩ : (Sl Int)) a1_0 (⟨za1_1, na1_1, fa1_1⟩ : (Sl S_impl_Backend)) (⟨za1_2, na1_2, fa1_2⟩ : (Sl S_impl_Vip)), enc_bo, fun _ => true⟩ | _ => none
theorem hpc_c5 (fu : Nat) : HpcOk E Tryz.prog (pcf_c5 fu) := by
 intro f xs o h
 unfold pcf_c5 at h
 split at h
 ·exact good_c4 fu xs o h
 ·cases h
theorem goodv_c5 (fu : Nat) (s_0 : (Sl Int)) (f_1_1 : Int) (f_1_2 : (Sl S_impl_Backend)) (f_1_3 : (Sl S_impl_Vip)) (y : Bool) (hy : F_slices_ContainsFunc_int64_int64_w_impl_ConfigFault_c1 fu s_0 f_1_1 f_1_2 f_1_3 = some y) : Vm.Good E Tryz.prog 95 [(.rs s_0.z .i64 s_0.n s_0.f), (.fn 96 [(.rptr [(ii f_1_1), (.rs f_1_2.z .impl_Backend f_1_2.n f_1_2.f), (.rs f_1_3.z .impl_Vip f_1_3.n f_1_3.f)])])] (enc_bo y) :=
 fun_good E_ok (pc_good (pc := pc_c5 fu) (hpc_c5 fu) hpx0) (fn := Tryz.f95) (by kernel_rfl) (by kernel_rfl) (by kernel_rfl) (lpok_c5 fu) (fun d hd => out_bo_enc d _ hd) ((ev_c5 fu s_0 f_1_1 f_1_2 f_1_3).trans hy)
theorem good_c5 (fu : Nat) : GoodS E Tryz.prog 95 (S_c5 fu) := by
 intro xs o h y hy
 unfold S_c5 at h
 split at h
 ·rename_i za0_0 na0_0 fa0_0 a1_0 za1_1 na1_1 fa1_1 za1_2 na1_2 fa1_2
  cases h
  exact goodv_c5 fu (⟨za0_0, na0_0, fa0_0⟩ : (Sl Int)) a1_0 (⟨za1_1, na1_1, fa1_1⟩ : (Sl S_impl_Backend)) (⟨za1_2, na1_2, fa1_2⟩ : (Sl S_impl_Vip)) y hy
 ·cases h
end Go.Proofs.YtcmfekgdlaffkaaGreatDoor.Px
