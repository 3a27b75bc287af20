/- The functions' evaluated forms, each a proved summary. Conditions: none. -/
import Derived.Test.YtcmfekgdlaffkaaPqF4
namespace Go.Proofs.Ytcmfekgdlaffkaa.Pq
open Go Go.RowKit Go.Proofs Vm
set_option linter.unusedVariables false
set_option linter.unusedSimpArgs false
set_option maxRecDepth 100000
abbrev Yf0 : Type := Int × (Sl Int) × Bool × Nat × Nat × (Nat → Int)
abbrev Yf1 : Type := Int × (Sl Int) × Bool × Nat × Nat × (Nat → S_impl_Vip)
abbrev Yf2 : Type := Int × (Sl Int) × Bool × Nat × Nat × (Nat → S_impl_Backend)
abbrev Yf3 : Type := (Sl Int) × Int × Int × Int × Nat × Nat × (Nat → S_impl_Backend)
abbrev Yf4 : Type := Int × (Sl S_impl_Backend) × (Sl S_impl_Vip) × Int × Int × Int × (Sl Int)
abbrev Yf5 : Type := (Sl Int) × Int × Int × Int × Int × Nat × Nat × Nat × (Nat → S_impl_Backend) × Nat × (Nat → S_impl_Vip) × Int × Int × Int
def F_impl_UnpackConfig_B0 {ρ : Type} (fu : Nat) (data0_0 : (Sl Int)) (o0_2 o0_3 o2_6 : Int) (k0 : (Sl Int) → Bool → Nat → Nat → (Nat → S_impl_Backend) → Option ρ) (n5_1 : Int) (o1_4 : (Sl Int)) (o1_5 : Bool) (o2_7 on3_8 : Nat) (of3_9 : (Nat → S_impl_Backend)) (go : Int → (Sl Int) → Bool → Nat → Nat → (Nat → S_impl_Backend) → Option ρ) : Option ρ :=
 (((bif (decide (n5_1 > 0)) then (some (!o1_5)) else (some false)) : Option Bool).bind fun a => (bif a then ((F_impl_reader_take_M fu 2 o1_4 o1_5).bind fun b =>
  ((F_impl_reader_take_M fu 4 b.2.1 b.2.2).bind fun d => ((F_impl_reader_take_M fu 1 d.2.1 d.2.2).bind fun g => (bif (decide ((o2_7 + 1) ≤ 9223372036854775807) &&
  decide ((o2_7 + 1) * 40 ≤ 140737488355328)) then (go (IntKind.wrap .i64 (n5_1 - 1)) g.2.1 g.2.2 (o2_7 + 1) (o2_7 + 1) (fun i => if i < o2_7 then (of3_9 i) else ((fun i =>
  ([(⟨b.1, d.1, (IntKind.wrap .i64 (Int.tdiv g.1 8)), (Int.tmod (IntKind.wrap .i64 (Int.tdiv g.1 2)) 4), ((Int.tmod g.1 2) == 1)⟩ : S_impl_Backend)] : List (S_impl_Backend)).getD i (dflt .impl_Backend)) (i - o2_7)))) else
  none)))) else (k0 o1_4 o1_5 o2_7 on3_8 of3_9)))
def F_impl_UnpackConfig_B4 {ρ : Type} (fu : Nat) (data0_0 : (Sl Int)) (n8_1 o0_3 o0_4 o2_7 : Int) (o2_8 o2_9 on3_10 : Nat) (of3_11 : (Nat → S_impl_Backend)) (on4_12 : Nat) (of4_13 : (Nat → S_impl_Vip)) (o5_14 o5_15 o5_16 : Int) (k0 : (Sl Int) → Bool → Nat → Nat → (Nat → Int) → Option ρ) (k10_2 : Int) (o1_5 : (Sl Int)) (o1_6 : Bool) (o5_17 on6_18 : Nat) (of6_19 : (Nat → Int)) (go : Int → (Sl Int) → Bool → Nat → Nat → (Nat → Int) → Option ρ) : Option ρ :=
 (((bif (decide (k10_2 > 0)) then (some (!o1_6)) else (some false)) : Option Bool).bind fun a => (bif a then ((F_impl_reader_take_M fu 2 o1_5 o1_6).bind fun b => (bif (decide ((o5_17 + 1) ≤ 9223372036854775807) &&
  decide ((o5_17 + 1) * 8 ≤ 140737488355328)) then (go (IntKind.wrap .i64 (k10_2 - 1)) b.2.1 b.2.2 (o5_17 + 1) (o5_17 + 1) (fun i => if i < o5_17 then (of6_19 i) else
  ((fun i => ([b.1] : List (Int)).getD i (dflt .i64)) (i - o5_17)))) else none)) else (k0 o1_5 o1_6 o5_17 on6_18 of6_19)))
def F_impl_UnpackConfig_B2 {ρ : Type} (fu : Nat) (data0_0 : (Sl Int)) (o0_2 o0_3 o2_6 : Int) (o2_7 on3_9 : Nat) (of3_10 : (Nat → S_impl_Backend)) (k0 : (Sl Int) → Bool → Nat → Nat → (Nat → S_impl_Vip) → Option ρ) (n8_1 : Int) (o1_4 : (Sl Int)) (o1_5 : Bool) (o2_8 on4_11 : Nat) (of4_12 : (Nat → S_impl_Vip)) (go : Int → (Sl Int) → Bool → Nat → Nat → (Nat → S_impl_Vip) → Option ρ) : Option ρ :=
 (((bif (decide (n8_1 > 0)) then (some (!o1_5)) else (some false)) : Option Bool).bind fun a => (bif a then ((F_impl_reader_take_M fu 4 o1_4 o1_5).bind fun b =>
  ((F_impl_reader_take_M fu 2 b.2.1 b.2.2).bind fun d => ((F_impl_reader_take_M fu 1 d.2.1 d.2.2).bind fun g => ((F_impl_reader_take_M fu 1 g.2.1 g.2.2).bind fun h =>
  (L (fun w4 go4 => F_impl_UnpackConfig_B4 fu data0_0 n8_1 o0_2 o0_3 o2_6 o2_7 o2_8 on3_9 of3_10 on4_11 of4_12 b.1 d.1 g.1 (fun j l n o p => (bif (decide ((o2_8 + 1) ≤ 9223372036854775807) &&
  decide ((o2_8 + 1) * 48 ≤ 140737488355328)) then (go (IntKind.wrap .i64 (n8_1 - 1)) j l (o2_8 + 1) (o2_8 + 1) (fun i => if i < o2_8 then (of4_12 i) else ((fun i =>
  ([(⟨b.1, d.1, g.1, (⟨none, n, p⟩ : (Sl Int))⟩ : S_impl_Vip)] : List (S_impl_Vip)).getD i (dflt .impl_Vip)) (i - o2_8)))) else none)) w4.1 w4.2.1 w4.2.2.1 w4.2.2.2.1 w4.2.2.2.2.1 w4.2.2.2.2.2 (fun q0 q1 q2 q3 q4 q5 =>
  go4 (q0, q1, q2, q3, q4, q5))) fu ((h.1, h.2.1, h.2.2, 0, 0, (fun _ => dflt .i64)) : Yf0)))))) else (k0 o1_4 o1_5 o2_8 on4_11 of4_12)))
def F_impl_UnpackConfig (fu : Nat) (data_0 : (Sl Int)) : Option (S_impl_ConfigResult) :=
 ((F_impl_reader_take_M fu 4 data_0 false).bind fun a => ((F_impl_reader_take_M fu 1 a.2.1 a.2.2).bind fun b => (L (fun w0 go0 => F_impl_UnpackConfig_B0 fu data_0 0 0 a.1 (fun d g h j l =>
  ((F_impl_reader_take_M fu 1 d g).bind fun o => (L (fun w2 go2 => F_impl_UnpackConfig_B2 fu data_0 0 0 a.1 h j l (fun p q r t u =>
  (bif q then (some (⟨5, (⟨0, (⟨(some true), 0, (fun _ => dflt .impl_Backend)⟩ : (Sl S_impl_Backend)), (⟨(some true), 0, (fun _ => dflt .impl_Vip)⟩ : (Sl S_impl_Vip))⟩ : S_impl_Config)⟩ : S_impl_ConfigResult)) else
  ((F_impl_ConfigFault fu (⟨a.1, (⟨none, h, l⟩ : (Sl S_impl_Backend)), (⟨none, r, u⟩ : (Sl S_impl_Vip))⟩ : S_impl_Config)).bind fun v => (bif (v != 0) then
  (some (⟨5, (⟨0, (⟨(some true), 0, (fun _ => dflt .impl_Backend)⟩ : (Sl S_impl_Backend)), (⟨(some true), 0, (fun _ => dflt .impl_Vip)⟩ : (Sl S_impl_Vip))⟩ : S_impl_Config)⟩ : S_impl_ConfigResult)) else
  ((F_impl_packConfig_H fu (⟨a.1, (⟨none, h, l⟩ : (Sl S_impl_Backend)), (⟨none, r, u⟩ : (Sl S_impl_Vip))⟩ : S_impl_Config)).bind fun w => ((F_bytes_Equal fu (⟨none,
  w.n, w.f⟩ : (Sl Int)) data_0).bind fun y0 => (bif (!y0) then (some (⟨5, (⟨0, (⟨(some true), 0, (fun _ => dflt .impl_Backend)⟩ : (Sl S_impl_Backend)), (⟨(some true),
  0, (fun _ => dflt .impl_Vip)⟩ : (Sl S_impl_Vip))⟩ : S_impl_Config)⟩ : S_impl_ConfigResult)) else (some (⟨0, (⟨a.1, (⟨none, h, l⟩ : (Sl S_impl_Backend)), (⟨none,
  r, u⟩ : (Sl S_impl_Vip))⟩ : S_impl_Config)⟩ : S_impl_ConfigResult))))))))) w2.1 w2.2.1 w2.2.2.1 w2.2.2.2.1 w2.2.2.2.2.1 w2.2.2.2.2.2 (fun q0 q1 q2 q3 q4 q5 => go2 (q0,
  q1, q2, q3, q4, q5))) fu ((o.1, o.2.1, o.2.2, 0, 0, (fun _ => dflt .impl_Vip)) : Yf1)))) w0.1 w0.2.1 w0.2.2.1 w0.2.2.2.1 w0.2.2.2.2.1 w0.2.2.2.2.2 (fun q0 q1 q2 q3 q4 q5 =>
  go0 (q0, q1, q2, q3, q4, q5))) fu ((b.1, b.2.1, b.2.2, 0, 0, (fun _ => dflt .impl_Backend)) : Yf2))))
def pcf_b3 (fu f : Nat) (xs : List (D RT den)) : Option (Out RT den) := match f with | 35 => S_b1 fu xs | 36 => S_b2 fu xs | _ => none
def pcx_b3 (fu f : Nat) (xs : List (D RT den)) (ins : List (Ob RT den)) : Option (OutX RT den) := match f with | 34 => S_a22 fu xs ins | 37 => S_a24 fu xs ins | _ => none
def pcd_b3 : Nat → Bool := fun _ => false
def pc_b3 (fu : Nat) : Pc RT den := ⟨pcf_b3 fu, fun f => match f with | 34 => true | 37 => true | _ => false, fun f => match f with | 34 => true | _ => false, pcd_b3, fun f => match f with | 34 => true | _ => false, pcd0, pcx_b3 fu⟩
def msk_b3 (b : Nat) : List Nat := match b with | 0 => (1 :: (rg 6 113 [])) | 100000 => (1 :: (rg 5 114 [])) | 2 => (1 :: 5 :: 6 :: 7 :: (rg 9 110 [])) | 100002 => (1 :: (rg 5 114 [])) | 4 => (1 :: 5 :: 6 :: 7 :: (rg 11 108 [])) | 100004 => (1 :: 5 :: 6 :: 7 :: (rg 10 109 [])) | 200004 => [27] | 200011 => [64] | 200015 => [84] | 300000 => [1002001] | 300002 => [1002002] | 300004 => [1004003, 1005003] | 500018 => [5, 6] | _ => []
def ps_b3_0 : List (Pat RT) := (.flat (.rs .u8) :: .flat .q :: .flat (.ref 0 0) :: .flat (.ref 1 0) :: .flat (.ref 2 0) :: .flat (.int .i64) :: (fq 113 []))
def os_b3_0 : List (OP RT) := [.box false [(.int .i64), (.int .i64), (.emp true .impl_Backend), (.emp true .impl_Vip)], .box false [(.rs .u8), .bool], .box false [(.int .i64), (.os 3), (.emp true .impl_Vip)], .row false .impl_Backend]
def conv_b3_0 (r : Raw den ps_b3_0 os_b3_0) : ((Sl Int) × Int × Int × Int) × (Yf2) := ((r.1.1, r.2.1.1, r.2.1.2.1, r.2.2.2.1.1), ((e5 r.1).1, r.2.2.1.1, r.2.2.1.2.1, r.2.2.2.1.2.1, r.2.2.2.2.1.1, r.2.2.2.2.1.2))
def back_b3_0 (c : (Sl Int) × Int × Int × Int) (w : Yf2) : St RT den := ⟨((.rs c.1.z .u8 c.1.n c.1.f) :: .q :: (.ref 0 0) :: (.ref 1 0) :: (.ref 2 0) :: (ii w.1) :: (qs 113 [])), [(.box false [(ii c.2.1), (ii c.2.2.1), (.emp true .impl_Backend), (.emp true .impl_Vip)]), (.box false [(.rs w.2.1.z .u8 w.2.1.n w.2.1.f), (.bool w.2.2.1)]), (.box false [(ii c.2.2.2), (.os 3 w.2.2.2.1), (.emp true .impl_Vip)]), (.row false .impl_Backend w.2.2.2.2.1 (e5 w))]⟩
def Bk_b3_0 {ρ : Type} (fu : Nat) (c : (Sl Int) × Int × Int × Int) (k : Ex → St RT den → Option ρ) (w : Yf2) (go : (Yf2) → Option ρ) : Option ρ := F_impl_UnpackConfig_B0 fu c.1 c.2.1 c.2.2.1 c.2.2.2 (fun a0 a1 a2 a3 a4 => k (.exit 0) ⟨((.rs c.1.z .u8 c.1.n c.1.f) :: .q :: (.ref 0 0) :: (.ref 1 0) :: (.ref 2 0) :: (qs 114 [])), [(.box false [(ii c.2.1), (ii c.2.2.1), (.emp true .impl_Backend), (.emp true .impl_Vip)]), (.box false [(.rs a0.z .u8 a0.n a0.f), (.bool a1)]), (.box false [(ii c.2.2.2), (.os 3 a2), (.emp true .impl_Vip)]), (.row false .impl_Backend a3 a4)]⟩) w.1 w.2.1 w.2.2.1 w.2.2.2.1 w.2.2.2.2.1 (e5 w) (fun q0 q1 q2 q3 q4 q5 => go (q0, q1, q2, q3, q4, q5))
def ps_b3_4 : List (Pat RT) := (.flat (.rs .u8) :: .flat .q :: .flat (.ref 0 0) :: .flat (.ref 1 0) :: .flat (.ref 2 0) :: .flat .q :: .flat .q :: .flat .q :: .flat (.int .i64) :: .flat (.ref 5 0) :: .flat (.int .i64) :: (fq 108 []))
def os_b3_4 : List (OP RT) := [.box false [(.int .i64), (.int .i64), (.emp true .impl_Backend), (.emp true .impl_Vip)], .box false [(.rs .u8), .bool], .box false [(.int .i64), (.os 3), (.os 4)], .row false .impl_Backend, .row false .impl_Vip, .box false [(.int .i64), (.int .i64), (.int .i64), (.os 6)], .row false .i64]
def conv_b3_4 (r : Raw den ps_b3_4 os_b3_4) : (Yf5) × (Yf0) := ((r.1.1, (e5 r.1).2.2.2.1, r.2.1.1, r.2.1.2.1, r.2.2.2.1.1, r.2.2.2.1.2.1, r.2.2.2.1.2.2.1, r.2.2.2.2.1.1, r.2.2.2.2.1.2, (e5 r).1.1, (e5 r).1.2, (e5 r).2.1.1, (e5 r).2.1.2.1, (e5 r).2.1.2.2.1), ((e10 r.1).1, r.2.2.1.1, r.2.2.1.2.1, (e5 r).2.1.2.2.2.1, (e5 r).2.2.1.1, (e5 r).2.2.1.2))
def back_b3_4 (c : Yf5) (w : Yf0) : St RT den := ⟨((.rs c.1.z .u8 c.1.n c.1.f) :: .q :: (.ref 0 0) :: (.ref 1 0) :: (.ref 2 0) :: .q :: .q :: .q :: (ii c.2.1) :: (.ref 5 0) :: (ii w.1) :: (qs 108 [])), [(.box false [(ii c.2.2.1), (ii c.2.2.2.1), (.emp true .impl_Backend), (.emp true .impl_Vip)]), (.box false [(.rs w.2.1.z .u8 w.2.1.n w.2.1.f), (.bool w.2.2.1)]), (.box false [(ii c.2.2.2.2.1), (.os 3 (e5 c).1), (.os 4 (e5 c).2.1)]), (.row false .impl_Backend (e5 c).2.2.1 (e5 c).2.2.2.1), (.row false .impl_Vip (e5 c).2.2.2.2.1 (e10 c).1), (.box false [(ii (e10 c).2.1), (ii (e10 c).2.2.1), (ii (e10 c).2.2.2), (.os 6 w.2.2.2.1)]), (.row false .i64 w.2.2.2.2.1 (e5 w))]⟩
def Bk_b3_4 {ρ : Type} (fu : Nat) (c : Yf5) (k : Ex → St RT den → Option ρ) (w : Yf0) (go : (Yf0) → Option ρ) : Option ρ := F_impl_UnpackConfig_B4 fu c.1 c.2.1 c.2.2.1 c.2.2.2.1 c.2.2.2.2.1 (e5 c).1 (e5 c).2.1 (e5 c).2.2.1 (e5 c).2.2.2.1 (e5 c).2.2.2.2.1 (e10 c).1 (e10 c).2.1 (e10 c).2.2.1 (e10 c).2.2.2 (fun a0 a1 a2 a3 a4 => k (.exit 4) ⟨((.rs c.1.z .u8 c.1.n c.1.f) :: .q :: (.ref 0 0) :: (.ref 1 0) :: (.ref 2 0) :: .q :: .q :: .q :: (ii c.2.1) :: (.ref 5 0) :: (qs 109 [])), [(.box false [(ii c.2.2.1), (ii c.2.2.2.1), (.emp true .impl_Backend), (.emp true .impl_Vip)]), (.box false [(.rs a0.z .u8 a0.n a0.f), (.bool a1)]), (.box false [(ii c.2.2.2.2.1), (.os 3 (e5 c).1), (.os 4 (e5 c).2.1)]), (.row false .impl_Backend (e5 c).2.2.1 (e5 c).2.2.2.1), (.row false .impl_Vip (e5 c).2.2.2.2.1 (e10 c).1), (.box false [(ii (e10 c).2.1), (ii (e10 c).2.2.1), (ii (e10 c).2.2.2), (.os 6 a2)]), (.row false .i64 a3 a4)]⟩) w.1 w.2.1 w.2.2.1 w.2.2.2.1 w.2.2.2.2.1 (e5 w) (fun q0 q1 q2 q3 q4 q5 => go (q0, q1, q2, q3, q4, q5))
def ps_b3_2 : List (Pat RT) := (.flat (.rs .u8) :: .flat .q :: .flat (.ref 0 0) :: .flat (.ref 1 0) :: .flat (.ref 2 0) :: .flat .q :: .flat .q :: .flat .q :: .flat (.int .i64) :: (fq 110 []))
def os_b3_2 : List (OP RT) := [.box false [(.int .i64), (.int .i64), (.emp true .impl_Backend), (.emp true .impl_Vip)], .box false [(.rs .u8), .bool], .box false [(.int .i64), (.os 3), (.os 4)], .row false .impl_Backend, .row false .impl_Vip]
def conv_b3_2 (r : Raw den ps_b3_2 os_b3_2) : (Yf3) × (Yf1) := ((r.1.1, r.2.1.1, r.2.1.2.1, r.2.2.2.1.1, r.2.2.2.1.2.1, r.2.2.2.2.1.1, r.2.2.2.2.1.2), ((e5 r.1).2.2.2.1, r.2.2.1.1, r.2.2.1.2.1, r.2.2.2.1.2.2.1, (e5 r).1.1, (e5 r).1.2))
def back_b3_2 (c : Yf3) (w : Yf1) : St RT den := ⟨((.rs c.1.z .u8 c.1.n c.1.f) :: .q :: (.ref 0 0) :: (.ref 1 0) :: (.ref 2 0) :: .q :: .q :: .q :: (ii w.1) :: (qs 110 [])), [(.box false [(ii c.2.1), (ii c.2.2.1), (.emp true .impl_Backend), (.emp true .impl_Vip)]), (.box false [(.rs w.2.1.z .u8 w.2.1.n w.2.1.f), (.bool w.2.2.1)]), (.box false [(ii c.2.2.2.1), (.os 3 c.2.2.2.2.1), (.os 4 w.2.2.2.1)]), (.row false .impl_Backend (e5 c).1 (e5 c).2), (.row false .impl_Vip w.2.2.2.2.1 (e5 w))]⟩
def Bk_b3_2 {ρ : Type} (fu : Nat) (c : Yf3) (k : Ex → St RT den → Option ρ) (w : Yf1) (go : (Yf1) → Option ρ) : Option ρ := F_impl_UnpackConfig_B2 fu c.1 c.2.1 c.2.2.1 c.2.2.2.1 c.2.2.2.2.1 (e5 c).1 (e5 c).2 (fun a0 a1 a2 a3 a4 => k (.exit 2) ⟨((.rs c.1.z .u8 c.1.n c.1.f) :: .q :: (.ref 0 0) :: (.ref 1 0) :: (.ref 2 0) :: (qs 114 [])), [(.box false [(ii c.2.1), (ii c.2.2.1), (.emp true .impl_Backend), (.emp true .impl_Vip)]), (.box false [(.rs a0.z .u8 a0.n a0.f), (.bool a1)]), (.box false [(ii c.2.2.2.1), (.os 3 c.2.2.2.2.1), (.os 4 a2)]), (.row false .impl_Backend (e5 c).1 (e5 c).2), (.row false .impl_Vip a3 a4)]⟩) w.1 w.2.1 w.2.2.1 w.2.2.2.1 w.2.2.2.2.1 (e5 w) (fun q0 q1 q2 q3 q4 q5 => go (q0, q1, q2, q3, q4, q5))
def lp_b3 (fu : Nat) : Lp RT den (S_impl_ConfigResult) := ⟨fun b s k => match b with | 0 => handle ps_b3_0 os_b3_0 conv_b3_0 (Bk_b3_0 fu) fu s k | 2 => handle ps_b3_2 os_b3_2 conv_b3_2 (Bk_b3_2 fu) fu s k | 4 => handle ps_b3_4 os_b3_4 conv_b3_4 (Bk_b3_4 fu) fu s k | _ => none, inl0⟩
theorem ev_b3 (fu : Nat) (data_0 : (Sl Int)) : evFun E (pc_b3 fu) msk_b3 (lp_b3 fu) out_impl_ConfigResult 8 [(.rs data_0.z .u8 data_0.n data_0.f)] = F_impl_UnpackConfig fu data_0 := by kernel_rfl
noncomputable def body_b3 : Code := Try.f8.body.getD .skip
noncomputable def lc_b3_0 : Code := ((loops 0 body_b3).getD 0 (0, .skip)).2
theorem round_b3_0 (fu : Nat) : RoundOk E (pc_b3 fu) msk_b3 (lp_b3 fu) 0 lc_b3_0 back_b3_0 0 100000 4 (Bk_b3_0 fu) := fun it k c w => by kernel_rfl
theorem lpok_b3_0 (fu : Nat) : LpAt E (pc_b3 fu) msk_b3 (lp_b3 fu) 0 0 100000 0 lc_b3_0 :=
 handle_ok (ps := ps_b3_0) (os := os_b3_0) (conv := conv_b3_0) (B := Bk_b3_0 fu) (fu := fu) back_b3_0 (fun raw => by kernel_rfl) 4 (fun c w => by kernel_rfl) (round_b3_0 fu)
noncomputable def lc_b3_2 : Code := ((loops 0 body_b3).getD 1 (0, .skip)).2
theorem round_b3_2 (fu : Nat) : RoundOk E (pc_b3 fu) msk_b3 (lp_b3 fu) 2 lc_b3_2 back_b3_2 2 100002 5 (Bk_b3_2 fu) := fun it k c w => by kernel_rfl
theorem lpok_b3_2 (fu : Nat) : LpAt E (pc_b3 fu) msk_b3 (lp_b3 fu) 2 2 100002 2 lc_b3_2 :=
 handle_ok (ps := ps_b3_2) (os := os_b3_2) (conv := conv_b3_2) (B := Bk_b3_2 fu) (fu := fu) back_b3_2 (fun raw => by kernel_rfl) 5 (fun c w => by kernel_rfl) (round_b3_2 fu)
noncomputable def lc_b3_4 : Code := ((loops 0 body_b3).getD 2 (0, .skip)).2
theorem round_b3_4 (fu : Nat) : RoundOk E (pc_b3 fu) msk_b3 (lp_b3 fu) 4 lc_b3_4 back_b3_4 4 100004 7 (Bk_b3_4 fu) := fun it k c w => by kernel_rfl
theorem lpok_b3_4 (fu : Nat) : LpAt E (pc_b3 fu) msk_b3 (lp_b3 fu) 4 4 100004 4 lc_b3_4 :=
 handle_ok (ps := ps_b3_4) (os := os_b3_4) (conv := conv_b3_4) (B := Bk_b3_4 fu) (fu := fu) back_b3_4 (fun raw => by kernel_rfl) 7 (fun c w => by kernel_rfl) (round_b3_4 fu)
theorem lpok_b3 (fu : Nat) : LpOk E (pc_b3 fu) 0 msk_b3 (lp_b3 fu) (loops 0 body_b3) := lp_nil (loop_all 3 (by kernel_rfl) fun i hi => match i, hi with
 | 0, _ => by
  have h : (loops 0 body_b3).getD 0 (0, .skip) = (0, lc_b3_0) := by kernel_rfl
  rw [h]; exact lpok_b3_0 fu
 | 1, _ => by
  have h : (loops 0 body_b3).getD 1 (0, .skip) = (2, lc_b3_2) := by kernel_rfl
  rw [h]; exact lpok_b3_2 fu
 | 2, _ => by
  have h : (loops 0 body_b3).getD 2 (0, .skip) = (4, lc_b3_4) := by kernel_rfl
  rw [h]; exact lpok_b3_4 fu
 | i + 3, hi => absurd hi (by omega)) (by kernel_rfl)
def S_b3 (fu : Nat) (xs : List (D RT den)) : Option (Out RT den) := match xs with | [.rs za0_0 .u8 na0_0 fa0_0] => some ⟨S_impl_ConfigResult, F_impl_UnpackConfig fu (⟨za0_0, na0_0, fa0_0⟩ : (Sl Int)), enc_impl_ConfigResult, fun _ => true⟩ | _ => none
theorem hpc_b3 (fu : Nat) : HpcOk E Try.prog (pcf_b3 fu) := by
 intro f xs o h
 unfold pcf_b3 at h
 split at h
 ·exact good_b1 fu xs o h
 ·exact good_b2 fu xs o h
 ·cases h
theorem hpx_b3 (fu : Nat) : HpxOk E Try.prog pcd_b3 pcd0 (pcx_b3 fu) := by
 intro f xs ins o h
 unfold pcx_b3 at h
 split at h
 ·exact good_a22 fu xs ins o h
 ·exact good_a24 fu xs ins o h
 ·cases h
theorem goodv_b3 (fu : Nat) (data_0 : (Sl Int)) (y : S_impl_ConfigResult) (hy : F_impl_UnpackConfig fu data_0 = some y) : Good E Try.prog 8 [(.rs data_0.z .u8 data_0.n data_0.f)] (enc_impl_ConfigResult y) :=
 fun_good E_ok (pc_good (pc := pc_b3 fu) (hpc_b3 fu) (hpx_b3 fu)) (fn := Try.f8) (by kernel_rfl) (by kernel_rfl) (by kernel_rfl) (lpok_b3 fu) (fun d hd => out_impl_ConfigResult_enc d _ hd) ((ev_b3 fu data_0).trans hy)
theorem good_b3 (fu : Nat) : GoodS E Try.prog 8 (S_b3 fu) := by
 intro xs o h y hy
 unfold S_b3 at h
 split at h
 ·rename_i za0_0 na0_0 fa0_0
  cases h
  exact goodv_b3 fu (⟨za0_0, na0_0, fa0_0⟩ : (Sl Int)) y hy
 ·cases h
def F_impl_packCmd_H (fu : Nat) (x_0 : S_impl_Cmd) : Option ((Sl Int)) :=
 ((F_impl_put_G fu 1 (IntKind.wrap .i64 (x_0.Expect + 1)) 4 1 (fun i => ([(IntKind.wrap .u8 x_0.Kind)] : List (Int)).getD i (dflt .u8))).bind fun a => ((F_impl_put_G fu a.1 x_0.Name 2 a.2.1 a.2.2).bind fun b =>
  ((F_impl_put_G fu b.1 x_0.Addr 4 b.2.1 b.2.2).bind fun d => ((F_impl_put_G fu d.1 x_0.Number 2 d.2.1 d.2.2).bind fun g => (bif (decide ((g.1 + 1) ≤ 9223372036854775807) &&
  decide ((g.1 + 1) * 1 ≤ 140737488355328)) then (some (⟨none, (g.1 + 1), (fun i => if i < g.1 then (g.2.2 i) else ((fun i => ([(IntKind.wrap .u8 x_0.Proto)] : List (Int)).getD i (dflt .u8)) (i - g.1)))⟩ : (Sl Int))) else
  none)))))
def pcx_b4 (fu f : Nat) (xs : List (D RT den)) (ins : List (Ob RT den)) : Option (OutX RT den) := match f with | 83 => S_a23 fu xs ins | _ => none
def pcd_b4 : Nat → Bool := fun _ => false
def pcg_b4 : Nat → Bool := fun f => match f with | 83 => true | _ => false
def pc_b4 (fu : Nat) : Pc RT den := ⟨pcf0, fun _ => false, fun _ => false, pcd_b4, pcd0, pcg_b4, pcx_b4 fu⟩
def msk_b4 (b : Nat) : List Nat := match b with | 600001 => [3990] | 800001 => (0 :: (rg 2 26 [])) | 600003 => [4990] | 800003 => (0 :: 2 :: (rg 4 24 [])) | _ => []
def lp_b4 (fu : Nat) : Lp RT den ((Sl Int)) := ⟨fun b s k => none, inl0⟩
theorem ev_b4 (fu : Nat) (x_0 : S_impl_Cmd) : evFunX E false (pc_b4 fu) msk_b4 (lp_b4 fu) out_sl_u8_H 47 [(.agg [(ii x_0.Kind), (ii x_0.Expect), (ii x_0.Name), (ii x_0.Addr), (ii x_0.Number), (ii x_0.Proto)])] [] = F_impl_packCmd_H fu x_0 := by kernel_rfl
noncomputable def body_b4 : Code := Try.f47.body.getD .skip
theorem lpok_b4 (fu : Nat) : LpOk E (pc_b4 fu) 0 msk_b4 (lp_b4 fu) (loops 0 body_b4) := lp_nil (loop_nil (by kernel_rfl)) (by kernel_rfl)
def S_b4 (fu : Nat) (xs : List (D RT den)) (ins : List (Ob RT den)) : Option (OutX RT den) := match xs, ins with | [.agg [.int .i64 a0_1, .int .i64 a0_2, .int .i64 a0_3, .int .i64 a0_4, .int .i64 a0_5, .int .i64 a0_6]], [] => some ⟨(Sl Int), F_impl_packCmd_H fu (⟨a0_1, a0_2, a0_3, a0_4, a0_5, a0_6⟩ : S_impl_Cmd), enc_sl_u8_H⟩ | _, _ => none
theorem hpx_b4 (fu : Nat) : HpxOk E Try.prog pcd_b4 pcg_b4 (pcx_b4 fu) := by
 intro f xs ins o h
 unfold pcx_b4 at h
 split at h
 ·exact good_a23 fu xs ins o h
 ·cases h
theorem goodv_b4 (fu : Nat) (x_0 : S_impl_Cmd) (y : (Sl Int)) (hy : F_impl_packCmd_H fu x_0 = some y) : GoodX E Try.prog 47 [(.agg [(ii x_0.Kind), (ii x_0.Expect), (ii x_0.Name), (ii x_0.Addr), (ii x_0.Number), (ii x_0.Proto)])] [] (enc_sl_u8_H y).1 (enc_sl_u8_H y).2 :=
 funX_good (ke := false) E_ok (pc_good (pc := pc_b4 fu) hpc0 (hpx_b4 fu)) (fn := Try.f47) (by kernel_rfl) (by kernel_rfl) (by kernel_rfl) (lpok_b4 fu) (by kernel_rfl) (Nat.zero_le _) (fun d os hd => out_sl_u8_H_enc d os _ hd) ((ev_b4 fu x_0).trans hy)
theorem good_b4 (fu : Nat) : GoodSX E Try.prog 47 (S_b4 fu) := by
 intro xs ins o h y hy
 unfold S_b4 at h
 split at h
 ·rename_i a0_1 a0_2 a0_3 a0_4 a0_5 a0_6
  cases h
  exact goodv_b4 fu (⟨a0_1, a0_2, a0_3, a0_4, a0_5, a0_6⟩ : S_impl_Cmd) y hy
 ·cases h
def F_impl_needs (fu : Nat) (kind_0 : Int) : Option (Bool × Bool × Bool × Bool) :=
 ((F_impl_in fu kind_0 5 8).bind fun a => ((F_impl_in fu kind_0 5 6).bind fun b => (bif (kind_0 == 1) then (some ((!b), true, (kind_0 != 4), a)) else (some ((!b),
  a, (kind_0 != 4), a)))))
def pcf_b5 (fu f : Nat) (xs : List (D RT den)) : Option (Out RT den) := match f with | 77 => S_a25 fu xs | _ => none
def pc_b5 (fu : Nat) : Pc RT den := ⟨pcf_b5 fu, fun _ => false, fun _ => false, pcd0, pcd0, pcd0, pcx0⟩
def msk_b5 (b : Nat) : List Nat := []
def lp_b5 (fu : Nat) : Lp RT den (Bool × Bool × Bool × Bool) := ⟨fun b s k => none, inl0⟩
theorem ev_b5 (fu : Nat) (kind_0 : Int) : evFun E (pc_b5 fu) msk_b5 (lp_b5 fu) out_bo_bo_bo_bo 92 [(ii kind_0)] = F_impl_needs fu kind_0 := by kernel_rfl
noncomputable def body_b5 : Code := Try.f92.body.getD .skip
theorem lpok_b5 (fu : Nat) : LpOk E (pc_b5 fu) 0 msk_b5 (lp_b5 fu) (loops 0 body_b5) := lp_nil (loop_nil (by kernel_rfl)) (by kernel_rfl)
def S_b5 (fu : Nat) (xs : List (D RT den)) : Option (Out RT den) := match xs with | [.int .i64 a0_0] => some ⟨Bool × Bool × Bool × Bool, F_impl_needs fu a0_0, enc_bo_bo_bo_bo, fun _ => true⟩ | _ => none
theorem hpc_b5 (fu : Nat) : HpcOk E Try.prog (pcf_b5 fu) := by
 intro f xs o h
 unfold pcf_b5 at h
 split at h
 ·exact good_a25 fu xs o h
 ·cases h
theorem goodv_b5 (fu : Nat) (kind_0 : Int) (y : Bool × Bool × Bool × Bool) (hy : F_impl_needs fu kind_0 = some y) : Good E Try.prog 92 [(ii kind_0)] (enc_bo_bo_bo_bo y) :=
 fun_good E_ok (pc_good (pc := pc_b5 fu) (hpc_b5 fu) hpx0) (fn := Try.f92) (by kernel_rfl) (by kernel_rfl) (by kernel_rfl) (lpok_b5 fu) (fun d hd => out_bo_bo_bo_bo_enc d _ hd) ((ev_b5 fu kind_0).trans hy)
theorem good_b5 (fu : Nat) : GoodS E Try.prog 92 (S_b5 fu) := by
 intro xs o h y hy
 unfold S_b5 at h
 split at h
 ·rename_i a0_0
  cases h
  exact goodv_b5 fu a0_0 y hy
 ·cases h
def F_impl_isNumber (fu : Nat) (x_0 : S_impl_Cmd) : Option (Bool) :=
 (bif (x_0.Kind == 1) then ((F_impl_in fu x_0.Number 0 9).bind fun a => (some a)) else (bif (x_0.Kind == 2) then ((F_impl_in fu x_0.Number 0 9).bind fun b => (some b)) else
  (bif (x_0.Kind == 3) then ((F_impl_in fu x_0.Number 1 3).bind fun d => (some d)) else (bif (x_0.Kind == 9) then ((F_impl_in fu x_0.Number 0 1).bind fun g => (some g)) else
  ((F_impl_isPort fu x_0.Number).bind fun h => (some h))))))
def pcf_b6 (fu f : Nat) (xs : List (D RT den)) : Option (Out RT den) := match f with | 77 => S_a25 fu xs | 79 => S_a29 fu xs | _ => none
def pc_b6 (fu : Nat) : Pc RT den := ⟨pcf_b6 fu, fun _ => false, fun _ => false, pcd0, pcd0, pcd0, pcx0⟩
def msk_b6 (b : Nat) : List Nat := []
def lp_b6 (fu : Nat) : Lp RT den (Bool) := ⟨fun b s k => none, inl0⟩
theorem ev_b6 (fu : Nat) (x_0 : S_impl_Cmd) : evFun E (pc_b6 fu) msk_b6 (lp_b6 fu) out_bo 94 [(.agg [(ii x_0.Kind), (ii x_0.Expect), (ii x_0.Name), (ii x_0.Addr), (ii x_0.Number), (ii x_0.Proto)])] = F_impl_isNumber fu x_0 := by kernel_rfl
noncomputable def body_b6 : Code := Try.f94.body.getD .skip
theorem lpok_b6 (fu : Nat) : LpOk E (pc_b6 fu) 0 msk_b6 (lp_b6 fu) (loops 0 body_b6) := lp_nil (loop_nil (by kernel_rfl)) (by kernel_rfl)
def S_b6 (fu : Nat) (xs : List (D RT den)) : Option (Out RT den) := match xs with | [.agg [.int .i64 a0_1, .int .i64 a0_2, .int .i64 a0_3, .int .i64 a0_4, .int .i64 a0_5, .int .i64 a0_6]] => some ⟨Bool, F_impl_isNumber fu (⟨a0_1, a0_2, a0_3, a0_4, a0_5, a0_6⟩ : S_impl_Cmd), enc_bo, fun _ => true⟩ | _ => none
theorem hpc_b6 (fu : Nat) : HpcOk E Try.prog (pcf_b6 fu) := by
 intro f xs o h
 unfold pcf_b6 at h
 split at h
 ·exact good_a25 fu xs o h
 ·exact good_a29 fu xs o h
 ·cases h
theorem goodv_b6 (fu : Nat) (x_0 : S_impl_Cmd) (y : Bool) (hy : F_impl_isNumber fu x_0 = some y) : Good E Try.prog 94 [(.agg [(ii x_0.Kind), (ii x_0.Expect), (ii x_0.Name), (ii x_0.Addr), (ii x_0.Number), (ii x_0.Proto)])] (enc_bo y) :=
 fun_good E_ok (pc_good (pc := pc_b6 fu) (hpc_b6 fu) hpx0) (fn := Try.f94) (by kernel_rfl) (by kernel_rfl) (by kernel_rfl) (lpok_b6 fu) (fun d hd => out_bo_enc d _ hd) ((ev_b6 fu x_0).trans hy)
theorem good_b6 (fu : Nat) : GoodS E Try.prog 94 (S_b6 fu) := by
 intro xs o h y hy
 unfold S_b6 at h
 split at h
 ·rename_i a0_1 a0_2 a0_3 a0_4 a0_5 a0_6
  cases h
  exact goodv_b6 fu (⟨a0_1, a0_2, a0_3, a0_4, a0_5, a0_6⟩ : S_impl_Cmd) y hy
 ·cases h
def F_impl_CmdFault (fu : Nat) (x_0 : S_impl_Cmd) : Option (Int) :=
 ((F_impl_in fu x_0.Kind 1 9).bind fun a => (bif (!a) then (some 1) else ((F_impl_needs fu x_0.Kind).bind fun b => ((((F_impl_in fu x_0.Expect (-1) 1000000).bind fun d =>
  (bif (!d) then (some true) else (bif b.1 then ((F_impl_isName fu x_0.Name).bind fun g => (bif (!g) then (some true) else (bif b.2.1 then ((F_impl_isAddress fu x_0.Addr).bind fun h =>
  (bif (!h) then (some true) else (bif b.2.2.1 then ((F_impl_isNumber fu x_0).bind fun j => (bif (!j) then (some true) else (bif b.2.2.2 then ((F_impl_isProto fu x_0.Proto).bind fun l =>
  (some (!l))) else (some false)))) else (bif b.2.2.2 then ((F_impl_isProto fu x_0.Proto).bind fun n => (some (!n))) else (some false))))) else (bif b.2.2.1 then
  ((F_impl_isNumber fu x_0).bind fun o => (bif (!o) then (some true) else (bif b.2.2.2 then ((F_impl_isProto fu x_0.Proto).bind fun p => (some (!p))) else
  (some false)))) else (bif b.2.2.2 then ((F_impl_isProto fu x_0.Proto).bind fun q => (some (!q))) else (some false)))))) else (bif b.2.1 then ((F_impl_isAddress fu x_0.Addr).bind fun r =>
  (bif (!r) then (some true) else (bif b.2.2.1 then ((F_impl_isNumber fu x_0).bind fun t => (bif (!t) then (some true) else (bif b.2.2.2 then ((F_impl_isProto fu x_0.Proto).bind fun u =>
  (some (!u))) else (some false)))) else (bif b.2.2.2 then ((F_impl_isProto fu x_0.Proto).bind fun v => (some (!v))) else (some false))))) else (bif b.2.2.1 then
  ((F_impl_isNumber fu x_0).bind fun w => (bif (!w) then (some true) else (bif b.2.2.2 then ((F_impl_isProto fu x_0.Proto).bind fun y0 => (some (!y0))) else
  (some false)))) else (bif b.2.2.2 then ((F_impl_isProto fu x_0.Proto).bind fun y1 => (some (!y1))) else (some false))))))) : Option Bool).bind fun y2 => (bif y2 then
  (some 3) else (((bif (!b.1) then (bif (x_0.Name != 0) then (some true) else (bif (!b.2.1) then (bif (x_0.Addr != 0) then (some true) else (bif (!b.2.2.1) then (bif (x_0.Number != 0) then
  (some true) else (bif (!b.2.2.2) then (some (x_0.Proto != 0)) else (some false))) else (bif (!b.2.2.2) then (some (x_0.Proto != 0)) else (some false)))) else (bif (!b.2.2.1) then
  (bif (x_0.Number != 0) then (some true) else (bif (!b.2.2.2) then (some (x_0.Proto != 0)) else (some false))) else (bif (!b.2.2.2) then (some (x_0.Proto != 0)) else
  (some false))))) else (bif (!b.2.1) then (bif (x_0.Addr != 0) then (some true) else (bif (!b.2.2.1) then (bif (x_0.Number != 0) then (some true) else (bif (!b.2.2.2) then
  (some (x_0.Proto != 0)) else (some false))) else (bif (!b.2.2.2) then (some (x_0.Proto != 0)) else (some false)))) else (bif (!b.2.2.1) then (bif (x_0.Number != 0) then
  (some true) else (bif (!b.2.2.2) then (some (x_0.Proto != 0)) else (some false))) else (bif (!b.2.2.2) then (some (x_0.Proto != 0)) else (some false))))) : Option Bool).bind fun y3 =>
  (bif y3 then (some 1) else (some 0))))))))
def pcf_b7 (fu f : Nat) (xs : List (D RT den)) : Option (Out RT den) := match f with | 63 => S_a27 fu xs | 77 => S_a25 fu xs | 80 => S_a30 fu xs | 92 => S_b5 fu xs | 93 => S_a26 fu xs | 94 => S_b6 fu xs | _ => none
def pc_b7 (fu : Nat) : Pc RT den := ⟨pcf_b7 fu, fun _ => false, fun _ => false, pcd0, pcd0, pcd0, pcx0⟩
def msk_b7 (b : Nat) : List Nat := match b with | 200004 => [19] | 200006 => [59] | _ => []
def lp_b7 (fu : Nat) : Lp RT den (Int) := ⟨fun b s k => none, inl0⟩
theorem ev_b7 (fu : Nat) (x_0 : S_impl_Cmd) : evFun E (pc_b7 fu) msk_b7 (lp_b7 fu) out_i64 45 [(.agg [(ii x_0.Kind), (ii x_0.Expect), (ii x_0.Name), (ii x_0.Addr), (ii x_0.Number), (ii x_0.Proto)])] = F_impl_CmdFault fu x_0 := by kernel_rfl
noncomputable def body_b7 : Code := Try.f45.body.getD .skip
theorem lpok_b7 (fu : Nat) : LpOk E (pc_b7 fu) 0 msk_b7 (lp_b7 fu) (loops 0 body_b7) := lp_nil (loop_nil (by kernel_rfl)) (by kernel_rfl)
def S_b7 (fu : Nat) (xs : List (D RT den)) : Option (Out RT den) := match xs with | [.agg [.int .i64 a0_1, .int .i64 a0_2, .int .i64 a0_3, .int .i64 a0_4, .int .i64 a0_5, .int .i64 a0_6]] => some ⟨Int, F_impl_CmdFault fu (⟨a0_1, a0_2, a0_3, a0_4, a0_5, a0_6⟩ : S_impl_Cmd), enc_i64, fun _ => true⟩ | _ => none
theorem hpc_b7 (fu : Nat) : HpcOk E Try.prog (pcf_b7 fu) := by
 intro f xs o h
 unfold pcf_b7 at h
 split at h
 ·exact good_a27 fu xs o h
 ·exact good_a25 fu xs o h
 ·exact good_a30 fu xs o h
 ·exact good_b5 fu xs o h
 ·exact good_a26 fu xs o h
 ·exact good_b6 fu xs o h
 ·cases h
theorem goodv_b7 (fu : Nat) (x_0 : S_impl_Cmd) (y : Int) (hy : F_impl_CmdFault fu x_0 = some y) : Good E Try.prog 45 [(.agg [(ii x_0.Kind), (ii x_0.Expect), (ii x_0.Name), (ii x_0.Addr), (ii x_0.Number), (ii x_0.Proto)])] (enc_i64 y) :=
 fun_good E_ok (pc_good (pc := pc_b7 fu) (hpc_b7 fu) hpx0) (fn := Try.f45) (by kernel_rfl) (by kernel_rfl) (by kernel_rfl) (lpok_b7 fu) (fun d hd => out_i64_enc d _ hd) ((ev_b7 fu x_0).trans hy)
theorem good_b7 (fu : Nat) : GoodS E Try.prog 45 (S_b7 fu) := by
 intro xs o h y hy
 unfold S_b7 at h
 split at h
 ·rename_i a0_1 a0_2 a0_3 a0_4 a0_5 a0_6
  cases h
  exact goodv_b7 fu (⟨a0_1, a0_2, a0_3, a0_4, a0_5, a0_6⟩ : S_impl_Cmd) y hy
 ·cases h
def F_impl_PackCmd_H (fu : Nat) (x_0 : S_impl_Cmd) : Option (S_impl_BytesResult) :=
 ((F_impl_CmdFault fu x_0).bind fun a => (bif (a != 0) then (some (⟨a, (⟨(some true), 0, (fun _ => dflt .u8)⟩ : (Sl Int))⟩ : S_impl_BytesResult)) else
  ((F_impl_packCmd_H fu x_0).bind fun b => (some (⟨0, (⟨none, b.n, b.f⟩ : (Sl Int))⟩ : S_impl_BytesResult)))))
def pcf_b8 (fu f : Nat) (xs : List (D RT den)) : Option (Out RT den) := match f with | 45 => S_b7 fu xs | _ => none
def pcx_b8 (fu f : Nat) (xs : List (D RT den)) (ins : List (Ob RT den)) : Option (OutX RT den) := match f with | 47 => S_b4 fu xs ins | _ => none
def pcd_b8 : Nat → Bool := fun _ => false
def pc_b8 (fu : Nat) : Pc RT den := ⟨pcf_b8 fu, fun f => match f with | 47 => true | _ => false, fun _ => false, pcd_b8, pcd0, pcd0, pcx_b8 fu⟩
def msk_b8 (b : Nat) : List Nat := []
def lp_b8 (fu : Nat) : Lp RT den (S_impl_BytesResult) := ⟨fun b s k => none, inl0⟩
theorem ev_b8 (fu : Nat) (x_0 : S_impl_Cmd) : evFunX E false (pc_b8 fu) msk_b8 (lp_b8 fu) out_impl_BytesResult_H 18 [(.agg [(ii x_0.Kind), (ii x_0.Expect), (ii x_0.Name), (ii x_0.Addr), (ii x_0.Number), (ii x_0.Proto)])] [] = F_impl_PackCmd_H fu x_0 := by kernel_rfl
noncomputable def body_b8 : Code := Try.f18.body.getD .skip
theorem lpok_b8 (fu : Nat) : LpOk E (pc_b8 fu) 0 msk_b8 (lp_b8 fu) (loops 0 body_b8) := lp_nil (loop_nil (by kernel_rfl)) (by kernel_rfl)
def S_b8 (fu : Nat) (xs : List (D RT den)) (ins : List (Ob RT den)) : Option (OutX RT den) := match xs, ins with | [.agg [.int .i64 a0_1, .int .i64 a0_2, .int .i64 a0_3, .int .i64 a0_4, .int .i64 a0_5, .int .i64 a0_6]], [] => some ⟨S_impl_BytesResult, F_impl_PackCmd_H fu (⟨a0_1, a0_2, a0_3, a0_4, a0_5, a0_6⟩ : S_impl_Cmd), enc_impl_BytesResult_H⟩ | _, _ => none
theorem hpc_b8 (fu : Nat) : HpcOk E Try.prog (pcf_b8 fu) := by
 intro f xs o h
 unfold pcf_b8 at h
 split at h
 ·exact good_b7 fu xs o h
 ·cases h
theorem hpx_b8 (fu : Nat) : HpxOk E Try.prog pcd_b8 pcd0 (pcx_b8 fu) := by
 intro f xs ins o h
 unfold pcx_b8 at h
 split at h
 ·exact good_b4 fu xs ins o h
 ·cases h
theorem goodv_b8 (fu : Nat) (x_0 : S_impl_Cmd) (y : S_impl_BytesResult) (hy : F_impl_PackCmd_H fu x_0 = some y) : GoodX E Try.prog 18 [(.agg [(ii x_0.Kind), (ii x_0.Expect), (ii x_0.Name), (ii x_0.Addr), (ii x_0.Number), (ii x_0.Proto)])] [] (enc_impl_BytesResult_H y).1 (enc_impl_BytesResult_H y).2 :=
 funX_good (ke := false) E_ok (pc_good (pc := pc_b8 fu) (hpc_b8 fu) (hpx_b8 fu)) (fn := Try.f18) (by kernel_rfl) (by kernel_rfl) (by kernel_rfl) (lpok_b8 fu) (by kernel_rfl) (Nat.zero_le _) (fun d os hd => out_impl_BytesResult_H_enc d os _ hd) ((ev_b8 fu x_0).trans hy)
theorem good_b8 (fu : Nat) : GoodSX E Try.prog 18 (S_b8 fu) := by
 intro xs ins o h y hy
 unfold S_b8 at h
 split at h
 ·rename_i a0_1 a0_2 a0_3 a0_4 a0_5 a0_6
  cases h
  exact goodv_b8 fu (⟨a0_1, a0_2, a0_3, a0_4, a0_5, a0_6⟩ : S_impl_Cmd) y hy
 ·cases h
def F_impl_PackConfig (fu : Nat) (c_0 : S_impl_Config) : Option (S_impl_BytesResult) :=
 ((F_impl_ConfigFault fu c_0).bind fun a => (bif (a != 0) then (some (⟨a, (⟨(some true), 0, (fun _ => dflt .u8)⟩ : (Sl Int))⟩ : S_impl_BytesResult)) else
  ((F_impl_packConfig_H fu c_0).bind fun b => (some (⟨0, (⟨none, b.n, b.f⟩ : (Sl Int))⟩ : S_impl_BytesResult)))))
def pcf_b9 (fu f : Nat) (xs : List (D RT den)) : Option (Out RT den) := match f with | 35 => S_b1 fu xs | _ => none
def pcx_b9 (fu f : Nat) (xs : List (D RT den)) (ins : List (Ob RT den)) : Option (OutX RT den) := match f with | 37 => S_a24 fu xs ins | _ => none
def pcd_b9 : Nat → Bool := fun _ => false
def pc_b9 (fu : Nat) : Pc RT den := ⟨pcf_b9 fu, fun f => match f with | 37 => true | _ => false, fun _ => false, pcd_b9, pcd0, pcd0, pcx_b9 fu⟩
def msk_b9 (b : Nat) : List Nat := []
def lp_b9 (fu : Nat) : Lp RT den (S_impl_BytesResult) := ⟨fun b s k => none, inl0⟩
theorem ev_b9 (fu : Nat) (c_0 : S_impl_Config) : evFun E (pc_b9 fu) msk_b9 (lp_b9 fu) out_impl_BytesResult 20 [(.agg [(ii c_0.Version), (.rs c_0.Backends.z .impl_Backend c_0.Backends.n c_0.Backends.f), (.rs c_0.Vips.z .impl_Vip c_0.Vips.n c_0.Vips.f)])] = F_impl_PackConfig fu c_0 := by kernel_rfl
noncomputable def body_b9 : Code := Try.f20.body.getD .skip
theorem lpok_b9 (fu : Nat) : LpOk E (pc_b9 fu) 0 msk_b9 (lp_b9 fu) (loops 0 body_b9) := lp_nil (loop_nil (by kernel_rfl)) (by kernel_rfl)
def S_b9 (fu : Nat) (xs : List (D RT den)) : Option (Out RT den) := match xs with | [.agg [.int .i64 a0_1, .rs za0_2 .impl_Backend na0_2 fa0_2, .rs za0_3 .impl_Vip na0_3 fa0_3]] => some ⟨S_impl_BytesResult, F_impl_PackConfig fu (⟨a0_1, (⟨za0_2, na0_2, fa0_2⟩ : (Sl S_impl_Backend)), (⟨za0_3, na0_3, fa0_3⟩ : (Sl S_impl_Vip))⟩ : S_impl_Config), enc_impl_BytesResult, fun _ => true⟩ | _ => none
theorem hpc_b9 (fu : Nat) : HpcOk E Try.prog (pcf_b9 fu) := by
 intro f xs o h
 unfold pcf_b9 at h
 split at h
 ·exact good_b1 fu xs o h
 ·cases h
theorem hpx_b9 (fu : Nat) : HpxOk E Try.prog pcd_b9 pcd0 (pcx_b9 fu) := by
 intro f xs ins o h
 unfold pcx_b9 at h
 split at h
 ·exact good_a24 fu xs ins o h
 ·cases h
theorem goodv_b9 (fu : Nat) (c_0 : S_impl_Config) (y : S_impl_BytesResult) (hy : F_impl_PackConfig fu c_0 = some y) : Good E Try.prog 20 [(.agg [(ii c_0.Version), (.rs c_0.Backends.z .impl_Backend c_0.Backends.n c_0.Backends.f), (.rs c_0.Vips.z .impl_Vip c_0.Vips.n c_0.Vips.f)])] (enc_impl_BytesResult y) :=
 fun_good E_ok (pc_good (pc := pc_b9 fu) (hpc_b9 fu) (hpx_b9 fu)) (fn := Try.f20) (by kernel_rfl) (by kernel_rfl) (by kernel_rfl) (lpok_b9 fu) (fun d hd => out_impl_BytesResult_enc d _ hd) ((ev_b9 fu c_0).trans hy)
theorem good_b9 (fu : Nat) : GoodS E Try.prog 20 (S_b9 fu) := by
 intro xs o h y hy
 unfold S_b9 at h
 split at h
 ·rename_i a0_1 za0_2 na0_2 fa0_2 za0_3 na0_3 fa0_3
  cases h
  exact goodv_b9 fu (⟨a0_1, (⟨za0_2, na0_2, fa0_2⟩ : (Sl S_impl_Backend)), (⟨za0_3, na0_3, fa0_3⟩ : (Sl S_impl_Vip))⟩ : S_impl_Config) y hy
 ·cases h
def F_spec_l1Take_B0 {ρ : Type} (fu : Nat) (data0_0 : (Sl Int)) (at1_1 size2_2 : Int) (k0 : Int → Option ρ) (n7_3 k8_4 : Int) (go : Int → Int → Option ρ) : Option ρ :=
 (bif (decide (k8_4 < size2_2)) then ((bif (decide (0 ≤ (IntKind.wrap .i64 (at1_1 + k8_4))) && decide ((Int.toNat (IntKind.wrap .i64 (at1_1 + k8_4))) < data0_0.n)) then some () else
  none : Option Unit).bind fun _ => (go (IntKind.wrap .i64 ((IntKind.wrap .i64 (n7_3 * 256)) + (IntKind.wrap .i64 (data0_0.f (Int.toNat (IntKind.wrap .i64 (at1_1 + k8_4))))))) (IntKind.wrap .i64 (k8_4 + 1)))) else
  (k0 n7_3))
def F_spec_l1Take (fu : Nat) (data_0 : (Sl Int)) (at_1 size_2 : Int) : Option (Int) :=
 (L (fun w0 go0 => F_spec_l1Take_B0 fu data_0 at_1 size_2 (fun a => (some a)) w0.1 w0.2 (fun q0 q1 => go0 (q0, q1))) fu ((0, 0) : Int × Int))
def pc_b10 (fu : Nat) : Pc RT den := ⟨pcf0, fun _ => false, fun _ => false, pcd0, pcd0, pcd0, pcx0⟩
def msk_b10 (b : Nat) : List Nat := match b with | 0 => (3 :: 4 :: 5 :: 6 :: (rg 9 16 [])) | 100000 => (rg 0 6 (rg 8 17 [])) | _ => []
def ps_b10_0 : List (Pat RT) := (.flat (.rs .u8) :: .flat (.int .i64) :: .flat (.int .i64) :: (fq 4 (.flat (.int .i64) :: .flat (.int .i64) :: (fq 16 []))))
def os_b10_0 : List (OP RT) := []
def conv_b10_0 (r : Raw den ps_b10_0 os_b10_0) : ((Sl Int) × Int × Int) × (Int × Int) := ((r.1.1, r.1.2.1, r.1.2.2.1), ((e5 r.1).2.2.1, (e5 r.1).2.2.2.1))
def back_b10_0 (c : (Sl Int) × Int × Int) (w : Int × Int) : St RT den := ⟨((.rs c.1.z .u8 c.1.n c.1.f) :: (ii c.2.1) :: (ii c.2.2) :: (qs 4 ((ii w.1) :: (ii w.2) :: (qs 16 [])))), []⟩
def Bk_b10_0 {ρ : Type} (fu : Nat) (c : (Sl Int) × Int × Int) (k : Ex → St RT den → Option ρ) (w : Int × Int) (go : (Int × Int) → Option ρ) : Option ρ := F_spec_l1Take_B0 fu c.1 c.2.1 c.2.2 (fun a0 => k (.exit 0) ⟨(qs 7 ((ii a0) :: (qs 17 []))), []⟩) w.1 w.2 (fun q0 q1 => go (q0, q1))
def lp_b10 (fu : Nat) : Lp RT den (Int) := ⟨fun b s k => match b with | 0 => handle ps_b10_0 os_b10_0 conv_b10_0 (Bk_b10_0 fu) fu s k | _ => none, inl0⟩
theorem ev_b10 (fu : Nat) (data_0 : (Sl Int)) (at_1 size_2 : Int) : evFun E (pc_b10 fu) msk_b10 (lp_b10 fu) out_i64 48 [(.rs data_0.z .u8 data_0.n data_0.f), (ii at_1), (ii size_2)] = F_spec_l1Take fu data_0 at_1 size_2 := by kernel_rfl
noncomputable def body_b10 : Code := Try.f48.body.getD .skip
noncomputable def lc_b10_0 : Code := ((loops 0 body_b10).getD 0 (0, .skip)).2
theorem round_b10_0 (fu : Nat) : RoundOk E (pc_b10 fu) msk_b10 (lp_b10 fu) 0 lc_b10_0 back_b10_0 0 100000 0 (Bk_b10_0 fu) := fun it k c w => by kernel_rfl
theorem lpok_b10_0 (fu : Nat) : LpAt E (pc_b10 fu) msk_b10 (lp_b10 fu) 0 0 100000 0 lc_b10_0 :=
 handle_ok (ps := ps_b10_0) (os := os_b10_0) (conv := conv_b10_0) (B := Bk_b10_0 fu) (fu := fu) back_b10_0 (fun raw => by kernel_rfl) 0 (fun c w => by kernel_rfl) (round_b10_0 fu)
theorem lpok_b10 (fu : Nat) : LpOk E (pc_b10 fu) 0 msk_b10 (lp_b10 fu) (loops 0 body_b10) := lp_nil (loop_all 1 (by kernel_rfl) fun i hi => match i, hi with
 | 0, _ => by
  have h : (loops 0 body_b10).getD 0 (0, .skip) = (0, lc_b10_0) := by kernel_rfl
  rw [h]; exact lpok_b10_0 fu
 | i + 1, hi => absurd hi (by omega)) (by kernel_rfl)
def S_b10 (fu : Nat) (xs : List (D RT den)) : Option (Out RT den) := match xs with | [.rs za0_0 .u8 na0_0 fa0_0, .int .i64 a1_0, .int .i64 a2_0] => some ⟨Int, F_spec_l1Take fu (⟨za0_0, na0_0, fa0_0⟩ : (Sl Int)) a1_0 a2_0, enc_i64, fun _ => true⟩ | _ => none
theorem goodv_b10 (fu : Nat) (data_0 : (Sl Int)) (at_1 size_2 y : Int) (hy : F_spec_l1Take fu data_0 at_1 size_2 = some y) : Good E Try.prog 48 [(.rs data_0.z .u8 data_0.n data_0.f), (ii at_1), (ii size_2)] (enc_i64 y) :=
 fun_good E_ok (pc_good (pc := pc_b10 fu) hpc0 hpx0) (fn := Try.f48) (by kernel_rfl) (by kernel_rfl) (by kernel_rfl) (lpok_b10 fu) (fun d hd => out_i64_enc d _ hd) ((ev_b10 fu data_0 at_1 size_2).trans hy)
theorem good_b10 (fu : Nat) : GoodS E Try.prog 48 (S_b10 fu) := by
 intro xs o h y hy
 unfold S_b10 at h
 split at h
 ·rename_i za0_0 na0_0 fa0_0 a1_0 a2_0
  cases h
  exact goodv_b10 fu (⟨za0_0, na0_0, fa0_0⟩ : (Sl Int)) a1_0 a2_0 y hy
 ·cases h
def F_spec_l6Next_M (fu : Nat) (size_1 : Int) (b0_1 : (Sl Int)) (b0_2 : Int) (b0_3 : Bool) : Option (Int × (Sl Int) × Int × Bool) :=
 (((bif b0_3 then (some true) else (some (decide ((IntKind.wrap .i64 (b0_2 + size_1)) > ((b0_1.n : Nat) : Int))))) : Option Bool).bind fun a => (bif a then (some (0, b0_1,
  b0_2, true)) else ((F_spec_l1Take fu b0_1 b0_2 size_1).bind fun b => (some (b, b0_1, (IntKind.wrap .i64 (b0_2 + size_1)), b0_3)))))
def pcf_b11 (fu f : Nat) (xs : List (D RT den)) : Option (Out RT den) := match f with | 48 => S_b10 fu xs | _ => none
def pc_b11 (fu : Nat) : Pc RT den := ⟨pcf_b11 fu, fun _ => false, fun _ => false, pcd0, pcd0, pcd0, pcx0⟩
def msk_b11 (b : Nat) : List Nat := match b with | 200001 => [23] | _ => []
def lp_b11 (fu : Nat) : Lp RT den (Int × (Sl Int) × Int × Bool) := ⟨fun b s k => none, inl0⟩
def pso_b11 : List (Pat RT) := [.flat (.int .i64)]
def oso_b11 : List (OP RT) := [.box true [(.rs .u8), (.int .i64), .bool]]
def conv_b11 (r : Raw den pso_b11 oso_b11) : Int × (Sl Int) × Int × Bool := (r.1.1, r.2.1.1, r.2.1.2.1, r.2.1.2.2.1)
def enc_b11 (y : Int × (Sl Int) × Int × Bool) : D RT den × List (Ob RT den) := ((.int .i64 y.1), [(.box true [(.rs y.2.1.z .u8 y.2.1.n y.2.1.f), (.int .i64 y.2.2.1), (.bool y.2.2.2)])])
def out_b11 (d : D RT den) (os : List (Ob RT den)) : Option (Int × (Sl Int) × Int × Bool) := (unSt pso_b11 oso_b11 ⟨[d], os⟩).bind fun v => some (conv_b11 v.1)
theorem out_b11_enc (d : D RT den) (os : List (Ob RT den)) (y : Int × (Sl Int) × Int × Bool) (h : out_b11 d os = some y) : d = (enc_b11 y).1 ∧ os = (enc_b11 y).2 :=
 outM (conv := conv_b11) (enc := enc_b11) (fun raw => by kernel_rfl) h
theorem ev_b11 (fu : Nat) (size_1 : Int) (b0_1 : (Sl Int)) (b0_2 : Int) (b0_3 : Bool) : evFunM E false (pc_b11 fu) msk_b11 (lp_b11 fu) out_b11 31 [(.ref 0 0), (ii size_1)] [(.box true [(.rs b0_1.z .u8 b0_1.n b0_1.f), (ii b0_2), (.bool b0_3)])] = F_spec_l6Next_M fu size_1 b0_1 b0_2 b0_3 := by kernel_rfl
noncomputable def body_b11 : Code := Try.f31.body.getD .skip
theorem lpok_b11 (fu : Nat) : LpOk E (pc_b11 fu) 0 msk_b11 (lp_b11 fu) (loops 0 body_b11) := lp_nil (loop_nil (by kernel_rfl)) (by kernel_rfl)
def S_b11 (fu : Nat) (xs : List (D RT den)) (ins : List (Ob RT den)) : Option (OutX RT den) := match xs, ins with | [.ref 0 0, .int .i64 a1_0], [.box true [.rs za1000_0 .u8 na1000_0 fa1000_0, .int .i64 a1001_0, .bool a1002_0]] => some ⟨Int × (Sl Int) × Int × Bool, F_spec_l6Next_M fu a1_0 (⟨za1000_0, na1000_0, fa1000_0⟩ : (Sl Int)) a1001_0 a1002_0, enc_b11⟩ | _, _ => none
theorem hpc_b11 (fu : Nat) : HpcOk E Try.prog (pcf_b11 fu) := by
 intro f xs o h
 unfold pcf_b11 at h
 split at h
 ·exact good_b10 fu xs o h
 ·cases h
theorem goodv_b11 (fu : Nat) (size_1 : Int) (b0_1 : (Sl Int)) (b0_2 : Int) (b0_3 : Bool) (y : Int × (Sl Int) × Int × Bool) (hy : F_spec_l6Next_M fu size_1 b0_1 b0_2 b0_3 = some y) : GoodX E Try.prog 31 [(.ref 0 0), (ii size_1)] [(.box true [(.rs b0_1.z .u8 b0_1.n b0_1.f), (ii b0_2), (.bool b0_3)])] (enc_b11 y).1 (enc_b11 y).2 :=
 funM_good (ke := false) E_ok (pc_good (pc := pc_b11 fu) (hpc_b11 fu) hpx0) (fn := Try.f31) (by kernel_rfl) (by kernel_rfl) (by kernel_rfl) (lpok_b11 fu) (by kernel_rfl) (Nat.le_of_ble_eq_true (by kernel_rfl)) (fun d os hd => out_b11_enc d os _ hd) ((ev_b11 fu size_1 b0_1 b0_2 b0_3).trans hy)
theorem good_b11 (fu : Nat) : GoodSX E Try.prog 31 (S_b11 fu) := by
 intro xs ins o h y hy
 unfold S_b11 at h
 split at h
 ·rename_i a1_0 za1000_0 na1000_0 fa1000_0 a1001_0 a1002_0
  cases h
  exact goodv_b11 fu a1_0 (⟨za1000_0, na1000_0, fa1000_0⟩ : (Sl Int)) a1001_0 a1002_0 y hy
 ·cases h
def F_spec_l5Version (fu : Nat) (v_0 : Int) : Option (Bool) :=
 ((F_spec_l1In fu v_0 0 1000000).bind fun a => (some a))
def pcf_b12 (fu f : Nat) (xs : List (D RT den)) : Option (Out RT den) := match f with | 96 => S_a1 fu xs | _ => none
def pc_b12 (fu : Nat) : Pc RT den := ⟨pcf_b12 fu, fun _ => false, fun _ => false, pcd0, pcd0, pcd0, pcx0⟩
def msk_b12 (b : Nat) : List Nat := []
def lp_b12 (fu : Nat) : Lp RT den (Bool) := ⟨fun b s k => none, inl0⟩
theorem ev_b12 (fu : Nat) (v_0 : Int) : evFun E (pc_b12 fu) msk_b12 (lp_b12 fu) out_bo 73 [(ii v_0)] = F_spec_l5Version fu v_0 := by kernel_rfl
noncomputable def body_b12 : Code := Try.f73.body.getD .skip
theorem lpok_b12 (fu : Nat) : LpOk E (pc_b12 fu) 0 msk_b12 (lp_b12 fu) (loops 0 body_b12) := lp_nil (loop_nil (by kernel_rfl)) (by kernel_rfl)
def S_b12 (fu : Nat) (xs : List (D RT den)) : Option (Out RT den) := match xs with | [.int .i64 a0_0] => some ⟨Bool, F_spec_l5Version fu a0_0, enc_bo, fun _ => true⟩ | _ => none
theorem hpc_b12 (fu : Nat) : HpcOk E Try.prog (pcf_b12 fu) := by
 intro f xs o h
 unfold pcf_b12 at h
 split at h
 ·exact good_a1 fu xs o h
 ·cases h
theorem goodv_b12 (fu : Nat) (v_0 : Int) (y : Bool) (hy : F_spec_l5Version fu v_0 = some y) : Good E Try.prog 73 [(ii v_0)] (enc_bo y) :=
 fun_good E_ok (pc_good (pc := pc_b12 fu) (hpc_b12 fu) hpx0) (fn := Try.f73) (by kernel_rfl) (by kernel_rfl) (by kernel_rfl) (lpok_b12 fu) (fun d hd => out_bo_enc d _ hd) ((ev_b12 fu v_0).trans hy)
theorem good_b12 (fu : Nat) : GoodS E Try.prog 73 (S_b12 fu) := by
 intro xs o h y hy
 unfold S_b12 at h
 split at h
 ·rename_i a0_0
  cases h
  exact goodv_b12 fu a0_0 y hy
 ·cases h
def F_spec_l3Name (fu : Nat) (name_0 : Int) : Option (Bool) :=
 ((F_spec_l1In fu name_0 1 999).bind fun a => (some a))
def pcf_b13 (fu f : Nat) (xs : List (D RT den)) : Option (Out RT den) := match f with | 96 => S_a1 fu xs | _ => none
def pc_b13 (fu : Nat) : Pc RT den := ⟨pcf_b13 fu, fun _ => false, fun _ => false, pcd0, pcd0, pcd0, pcx0⟩
def msk_b13 (b : Nat) : List Nat := []
def lp_b13 (fu : Nat) : Lp RT den (Bool) := ⟨fun b s k => none, inl0⟩
theorem ev_b13 (fu : Nat) (name_0 : Int) : evFun E (pc_b13 fu) msk_b13 (lp_b13 fu) out_bo 97 [(ii name_0)] = F_spec_l3Name fu name_0 := by kernel_rfl
noncomputable def body_b13 : Code := Try.f97.body.getD .skip
theorem lpok_b13 (fu : Nat) : LpOk E (pc_b13 fu) 0 msk_b13 (lp_b13 fu) (loops 0 body_b13) := lp_nil (loop_nil (by kernel_rfl)) (by kernel_rfl)
def S_b13 (fu : Nat) (xs : List (D RT den)) : Option (Out RT den) := match xs with | [.int .i64 a0_0] => some ⟨Bool, F_spec_l3Name fu a0_0, enc_bo, fun _ => true⟩ | _ => none
theorem hpc_b13 (fu : Nat) : HpcOk E Try.prog (pcf_b13 fu) := by
 intro f xs o h
 unfold pcf_b13 at h
 split at h
 ·exact good_a1 fu xs o h
 ·cases h
theorem goodv_b13 (fu : Nat) (name_0 : Int) (y : Bool) (hy : F_spec_l3Name fu name_0 = some y) : Good E Try.prog 97 [(ii name_0)] (enc_bo y) :=
 fun_good E_ok (pc_good (pc := pc_b13 fu) (hpc_b13 fu) hpx0) (fn := Try.f97) (by kernel_rfl) (by kernel_rfl) (by kernel_rfl) (lpok_b13 fu) (fun d hd => out_bo_enc d _ hd) ((ev_b13 fu name_0).trans hy)
theorem good_b13 (fu : Nat) : GoodS E Try.prog 97 (S_b13 fu) := by
 intro xs o h y hy
 unfold S_b13 at h
 split at h
 ·rename_i a0_0
  cases h
  exact goodv_b13 fu a0_0 y hy
 ·cases h
def F_spec_l2Address (fu : Nat) (a_0 : Int) : Option (Bool) :=
 ((F_spec_l1In fu a_0 0 4294967295).bind fun a => (some a))
def pcf_b14 (fu f : Nat) (xs : List (D RT den)) : Option (Out RT den) := match f with | 96 => S_a1 fu xs | _ => none
def pc_b14 (fu : Nat) : Pc RT den := ⟨pcf_b14 fu, fun _ => false, fun _ => false, pcd0, pcd0, pcd0, pcx0⟩
def msk_b14 (b : Nat) : List Nat := []
def lp_b14 (fu : Nat) : Lp RT den (Bool) := ⟨fun b s k => none, inl0⟩
theorem ev_b14 (fu : Nat) (a_0 : Int) : evFun E (pc_b14 fu) msk_b14 (lp_b14 fu) out_bo 98 [(ii a_0)] = F_spec_l2Address fu a_0 := by kernel_rfl
noncomputable def body_b14 : Code := Try.f98.body.getD .skip
theorem lpok_b14 (fu : Nat) : LpOk E (pc_b14 fu) 0 msk_b14 (lp_b14 fu) (loops 0 body_b14) := lp_nil (loop_nil (by kernel_rfl)) (by kernel_rfl)
def S_b14 (fu : Nat) (xs : List (D RT den)) : Option (Out RT den) := match xs with | [.int .i64 a0_0] => some ⟨Bool, F_spec_l2Address fu a0_0, enc_bo, fun _ => true⟩ | _ => none
theorem hpc_b14 (fu : Nat) : HpcOk E Try.prog (pcf_b14 fu) := by
 intro f xs o h
 unfold pcf_b14 at h
 split at h
 ·exact good_a1 fu xs o h
 ·cases h
theorem goodv_b14 (fu : Nat) (a_0 : Int) (y : Bool) (hy : F_spec_l2Address fu a_0 = some y) : Good E Try.prog 98 [(ii a_0)] (enc_bo y) :=
 fun_good E_ok (pc_good (pc := pc_b14 fu) (hpc_b14 fu) hpx0) (fn := Try.f98) (by kernel_rfl) (by kernel_rfl) (by kernel_rfl) (lpok_b14 fu) (fun d hd => out_bo_enc d _ hd) ((ev_b14 fu a_0).trans hy)
theorem good_b14 (fu : Nat) : GoodS E Try.prog 98 (S_b14 fu) := by
 intro xs o h y hy
 unfold S_b14 at h
 split at h
 ·rename_i a0_0
  cases h
  exact goodv_b14 fu a0_0 y hy
 ·cases h
def F_spec_l5Backend (fu : Nat) (b_0 : S_impl_Backend) : Option (Bool) :=
 ((((F_spec_l3Name fu b_0.Name).bind fun a => (bif a then ((F_spec_l2Address fu b_0.Address).bind fun b => (bif b then ((F_spec_l1In fu b_0.Weight 0 9).bind fun d =>
  (bif d then ((F_spec_l1In fu b_0.Stage 1 3).bind fun g => (some g)) else (some false))) else (some false))) else (some false))) : Option Bool).bind fun h =>
  (some h))
def pcf_b15 (fu f : Nat) (xs : List (D RT den)) : Option (Out RT den) := match f with | 96 => S_a1 fu xs | 97 => S_b13 fu xs | 98 => S_b14 fu xs | _ => none
def pc_b15 (fu : Nat) : Pc RT den := ⟨pcf_b15 fu, fun _ => false, fun _ => false, pcd0, pcd0, pcd0, pcx0⟩
def msk_b15 (b : Nat) : List Nat := match b with | 200001 => [2] | _ => []
def lp_b15 (fu : Nat) : Lp RT den (Bool) := ⟨fun b s k => none, inl0⟩
theorem ev_b15 (fu : Nat) (b_0 : S_impl_Backend) : evFun E (pc_b15 fu) msk_b15 (lp_b15 fu) out_bo 74 [(.agg [(ii b_0.Name), (ii b_0.Address), (ii b_0.Weight), (ii b_0.Stage), (.bool b_0.Up)])] = F_spec_l5Backend fu b_0 := by kernel_rfl
noncomputable def body_b15 : Code := Try.f74.body.getD .skip
theorem lpok_b15 (fu : Nat) : LpOk E (pc_b15 fu) 0 msk_b15 (lp_b15 fu) (loops 0 body_b15) := lp_nil (loop_nil (by kernel_rfl)) (by kernel_rfl)
def S_b15 (fu : Nat) (xs : List (D RT den)) : Option (Out RT den) := match xs with | [.agg [.int .i64 a0_1, .int .i64 a0_2, .int .i64 a0_3, .int .i64 a0_4, .bool a0_5]] => some ⟨Bool, F_spec_l5Backend fu (⟨a0_1, a0_2, a0_3, a0_4, a0_5⟩ : S_impl_Backend), enc_bo, fun _ => true⟩ | _ => none
theorem hpc_b15 (fu : Nat) : HpcOk E Try.prog (pcf_b15 fu) := by
 intro f xs o h
 unfold pcf_b15 at h
 split at h
 ·exact good_a1 fu xs o h
 ·exact good_b13 fu xs o h
 ·exact good_b14 fu xs o h
 ·cases h
theorem goodv_b15 (fu : Nat) (b_0 : S_impl_Backend) (y : Bool) (hy : F_spec_l5Backend fu b_0 = some y) : Good E Try.prog 74 [(.agg [(ii b_0.Name), (ii b_0.Address), (ii b_0.Weight), (ii b_0.Stage), (.bool b_0.Up)])] (enc_bo y) :=
 fun_good E_ok (pc_good (pc := pc_b15 fu) (hpc_b15 fu) hpx0) (fn := Try.f74) (by kernel_rfl) (by kernel_rfl) (by kernel_rfl) (lpok_b15 fu) (fun d hd => out_bo_enc d _ hd) ((ev_b15 fu b_0).trans hy)
theorem good_b15 (fu : Nat) : GoodS E Try.prog 74 (S_b15 fu) := by
 intro xs o h y hy
 unfold S_b15 at h
 split at h
 ·rename_i a0_1 a0_2 a0_3 a0_4 a0_5
  cases h
  exact goodv_b15 fu (⟨a0_1, a0_2, a0_3, a0_4, a0_5⟩ : S_impl_Backend) y hy
 ·cases h
def F_spec_l2Port (fu : Nat) (p_0 : Int) : Option (Bool) :=
 ((F_spec_l1In fu p_0 0 65535).bind fun a => (some a))
def pcf_b16 (fu f : Nat) (xs : List (D RT den)) : Option (Out RT den) := match f with | 96 => S_a1 fu xs | _ => none
def pc_b16 (fu : Nat) : Pc RT den := ⟨pcf_b16 fu, fun _ => false, fun _ => false, pcd0, pcd0, pcd0, pcx0⟩
def msk_b16 (b : Nat) : List Nat := []
def lp_b16 (fu : Nat) : Lp RT den (Bool) := ⟨fun b s k => none, inl0⟩
theorem ev_b16 (fu : Nat) (p_0 : Int) : evFun E (pc_b16 fu) msk_b16 (lp_b16 fu) out_bo 120 [(ii p_0)] = F_spec_l2Port fu p_0 := by kernel_rfl
noncomputable def body_b16 : Code := Try.f120.body.getD .skip
theorem lpok_b16 (fu : Nat) : LpOk E (pc_b16 fu) 0 msk_b16 (lp_b16 fu) (loops 0 body_b16) := lp_nil (loop_nil (by kernel_rfl)) (by kernel_rfl)
def S_b16 (fu : Nat) (xs : List (D RT den)) : Option (Out RT den) := match xs with | [.int .i64 a0_0] => some ⟨Bool, F_spec_l2Port fu a0_0, enc_bo, fun _ => true⟩ | _ => none
theorem hpc_b16 (fu : Nat) : HpcOk E Try.prog (pcf_b16 fu) := by
 intro f xs o h
 unfold pcf_b16 at h
 split at h
 ·exact good_a1 fu xs o h
 ·cases h
theorem goodv_b16 (fu : Nat) (p_0 : Int) (y : Bool) (hy : F_spec_l2Port fu p_0 = some y) : Good E Try.prog 120 [(ii p_0)] (enc_bo y) :=
 fun_good E_ok (pc_good (pc := pc_b16 fu) (hpc_b16 fu) hpx0) (fn := Try.f120) (by kernel_rfl) (by kernel_rfl) (by kernel_rfl) (lpok_b16 fu) (fun d hd => out_bo_enc d _ hd) ((ev_b16 fu p_0).trans hy)
theorem good_b16 (fu : Nat) : GoodS E Try.prog 120 (S_b16 fu) := by
 intro xs o h y hy
 unfold S_b16 at h
 split at h
 ·rename_i a0_0
  cases h
  exact goodv_b16 fu a0_0 y hy
 ·cases h
def F_spec_l5Proto (fu : Nat) (p_0 : Int) : Option (Bool) :=
 (((bif (p_0 == 6) then (some true) else (some (p_0 == 17))) : Option Bool).bind fun a => (some a))
def pc_b17 (fu : Nat) : Pc RT den := ⟨pcf0, fun _ => false, fun _ => false, pcd0, pcd0, pcd0, pcx0⟩
def msk_b17 (b : Nat) : List Nat := match b with | 200001 => [2] | _ => []
def lp_b17 (fu : Nat) : Lp RT den (Bool) := ⟨fun b s k => none, inl0⟩
theorem ev_b17 (fu : Nat) (p_0 : Int) : evFun E (pc_b17 fu) msk_b17 (lp_b17 fu) out_bo 100 [(ii p_0)] = F_spec_l5Proto fu p_0 := by kernel_rfl
noncomputable def body_b17 : Code := Try.f100.body.getD .skip
theorem lpok_b17 (fu : Nat) : LpOk E (pc_b17 fu) 0 msk_b17 (lp_b17 fu) (loops 0 body_b17) := lp_nil (loop_nil (by kernel_rfl)) (by kernel_rfl)
def S_b17 (fu : Nat) (xs : List (D RT den)) : Option (Out RT den) := match xs with | [.int .i64 a0_0] => some ⟨Bool, F_spec_l5Proto fu a0_0, enc_bo, fun _ => true⟩ | _ => none
theorem goodv_b17 (fu : Nat) (p_0 : Int) (y : Bool) (hy : F_spec_l5Proto fu p_0 = some y) : Good E Try.prog 100 [(ii p_0)] (enc_bo y) :=
 fun_good E_ok (pc_good (pc := pc_b17 fu) hpc0 hpx0) (fn := Try.f100) (by kernel_rfl) (by kernel_rfl) (by kernel_rfl) (lpok_b17 fu) (fun d hd => out_bo_enc d _ hd) ((ev_b17 fu p_0).trans hy)
theorem good_b17 (fu : Nat) : GoodS E Try.prog 100 (S_b17 fu) := by
 intro xs o h y hy
 unfold S_b17 at h
 split at h
 ·rename_i a0_0
  cases h
  exact goodv_b17 fu a0_0 y hy
 ·cases h
def F_spec_l5Vip_B0 {ρ : Type} (fu : Nat) (c0_0 : Int) (c0_1 : (Sl S_impl_Backend)) (c0_2 : (Sl S_impl_Vip)) (o0_4 o0_5 o0_6 : Int) (o0_7 : (Sl Int)) (k0 : Option ρ) (k1 : Option ρ) (i6_3 : Int) (go : Int → Option ρ) : Option ρ :=
 (bif (decide (i6_3 < ((o0_7.n : Nat) : Int))) then ((bif (decide (0 ≤ i6_3) && decide ((Int.toNat i6_3) < o0_7.n)) then some () else none : Option Unit).bind fun _ =>
  ((F_spec_l5At fu (⟨c0_0, c0_1, c0_2⟩ : S_impl_Config) (o0_7.f (Int.toNat i6_3))).bind fun a => (bif (decide (a < 0)) then k0 else (go (IntKind.wrap .i64 (i6_3 + 1)))))) else
  k1)
def F_spec_l5Vip_B2 {ρ : Type} (fu : Nat) (o0_1 o0_2 o0_3 : Int) (o0_4 : (Sl Int)) (k0 : Option ρ) (k1 : Option ρ) (i7_0 : Int) (go : Int → Option ρ) : Option ρ :=
 (bif (decide (i7_0 < ((o0_4.n : Nat) : Int))) then ((bif (decide (0 ≤ i7_0) && decide ((Int.toNat i7_0) < o0_4.n)) then some () else none : Option Unit).bind fun _ => ((bif (decide (0 ≤ (IntKind.wrap .i64 (i7_0 - 1))) &&
  decide ((Int.toNat (IntKind.wrap .i64 (i7_0 - 1))) < o0_4.n)) then some () else none : Option Unit).bind fun _ => (bif (decide ((o0_4.f (Int.toNat i7_0)) ≤ (o0_4.f (Int.toNat (IntKind.wrap .i64 (i7_0 - 1)))))) then
  k0 else (go (IntKind.wrap .i64 (i7_0 + 1)))))) else k1)
def F_spec_l5Vip (fu : Nat) (c_0 : S_impl_Config) (at_1 : Int) : Option (Int) :=
 ((bif (decide (0 ≤ at_1) && decide ((Int.toNat at_1) < c_0.Vips.n)) then some () else none : Option Unit).bind fun _ => ((((F_spec_l2Address fu (c_0.Vips.f (Int.toNat at_1)).Address).bind fun a =>
  (bif (!a) then (some true) else ((F_spec_l2Port fu (c_0.Vips.f (Int.toNat at_1)).Port).bind fun b => (bif (!b) then (some true) else ((F_spec_l5Proto fu (c_0.Vips.f (Int.toNat at_1)).Proto).bind fun d =>
  (some (!d))))))) : Option Bool).bind fun g => (bif g then (some 3) else (((bif (decide (at_1 > 0)) then ((bif (decide (0 ≤ (IntKind.wrap .i64 (at_1 - 1))) && decide ((Int.toNat (IntKind.wrap .i64 (at_1 - 1))) < c_0.Vips.n)) then
  some () else none : Option Unit).bind fun _ => ((F_spec_l5Behind fu (c_0.Vips.f (Int.toNat (IntKind.wrap .i64 (at_1 - 1)))) (c_0.Vips.f (Int.toNat at_1))).bind fun h =>
  (some (!h)))) else (some false)) : Option Bool).bind fun j => (bif j then (some 1) else (L (fun w0 go0 => F_spec_l5Vip_B0 fu c_0.Version c_0.Backends c_0.Vips ((c_0.Vips.f (Int.toNat at_1)).Address) ((c_0.Vips.f (Int.toNat at_1)).Port) ((c_0.Vips.f (Int.toNat at_1)).Proto) ((c_0.Vips.f (Int.toNat at_1)).Names) (some 4) (L (fun w2 go2 =>
  F_spec_l5Vip_B2 fu ((c_0.Vips.f (Int.toNat at_1)).Address) ((c_0.Vips.f (Int.toNat at_1)).Port) ((c_0.Vips.f (Int.toNat at_1)).Proto) ((c_0.Vips.f (Int.toNat at_1)).Names) (some 1) (some 0) w2 go2) fu (1 : Int)) w0 go0) fu (0 : Int)))))))
def pcf_b18 (fu f : Nat) (xs : List (D RT den)) : Option (Out RT den) := match f with | 58 => S_a11 fu xs | 98 => S_b14 fu xs | 100 => S_b17 fu xs | 120 => S_b16 fu xs | 121 => S_a15 fu xs | _ => none
def pc_b18 (fu : Nat) : Pc RT den := ⟨pcf_b18 fu, fun _ => false, fun _ => false, pcd0, pcd0, pcd0, pcx0⟩
def msk_b18 (b : Nat) : List Nat := match b with | 0 => (1 :: 2 :: 3 :: 4 :: (rg 7 73 [])) | 100000 => (0 :: 1 :: 2 :: 3 :: (rg 6 74 [])) | 2 => (rg 0 5 (6 :: (rg 8 72 []))) | 100002 => (0 :: 1 :: 2 :: 3 :: (rg 5 75 [])) | 200002 => [30] | 200004 => [45] | _ => []
def ps_b18_0 : List (Pat RT) := (.rptr [(.int .i64), (.rs .impl_Backend), (.rs .impl_Vip)] :: (fq 4 (.flat (.ref 0 0) :: .flat (.int .i64) :: (fq 73 []))))
def os_b18_0 : List (OP RT) := [.box false [(.int .i64), (.int .i64), (.int .i64), (.rs .i64)]]
def conv_b18_0 (r : Raw den ps_b18_0 os_b18_0) : (Yf4) × (Int) := ((r.1.1.1, r.1.1.2.1, r.1.1.2.2.1, r.2.1.1, r.2.1.2.1, r.2.1.2.2.1, r.2.1.2.2.2.1), (e5 r.1).2.1)
def back_b18_0 (c : Yf4) (w : Int) : St RT den := ⟨((.rptr [(ii c.1), (.rs c.2.1.z .impl_Backend c.2.1.n c.2.1.f), (.rs c.2.2.1.z .impl_Vip c.2.2.1.n c.2.2.1.f)]) :: (qs 4 ((.ref 0 0) :: (ii w) :: (qs 73 [])))), [(.box false [(ii c.2.2.2.1), (ii c.2.2.2.2.1), (ii (e5 c).1), (.rs (e5 c).2.z .i64 (e5 c).2.n (e5 c).2.f)])]⟩
def Bk_b18_0 {ρ : Type} (fu : Nat) (c : Yf4) (k : Ex → St RT den → Option ρ) (w : Int) (go : (Int) → Option ρ) : Option ρ := F_spec_l5Vip_B0 fu c.1 c.2.1 c.2.2.1 c.2.2.2.1 c.2.2.2.2.1 (e5 c).1 (e5 c).2 (k .ret ⟨(qs 4 ((ii 4) :: (.ref 0 0) :: (qs 74 []))), [(.box false [(ii c.2.2.2.1), (ii c.2.2.2.2.1), (ii (e5 c).1), (.rs (e5 c).2.z .i64 (e5 c).2.n (e5 c).2.f)])]⟩) (k (.exit 0) ⟨(qs 5 ((.ref 0 0) :: (qs 74 []))), [(.box false [(ii c.2.2.2.1), (ii c.2.2.2.2.1), (ii (e5 c).1), (.rs (e5 c).2.z .i64 (e5 c).2.n (e5 c).2.f)])]⟩) w go
def ps_b18_2 : List (Pat RT) := (fq 5 (.flat (.ref 0 0) :: .flat .q :: .flat (.int .i64) :: (fq 72 [])))
def os_b18_2 : List (OP RT) := [.box false [(.int .i64), (.int .i64), (.int .i64), (.rs .i64)]]
def conv_b18_2 (r : Raw den ps_b18_2 os_b18_2) : (Int × Int × Int × (Sl Int)) × (Int) := ((r.2.1.1, r.2.1.2.1, r.2.1.2.2.1, r.2.1.2.2.2.1), (e5 r.1).2.2.1)
def back_b18_2 (c : Int × Int × Int × (Sl Int)) (w : Int) : St RT den := ⟨(qs 5 ((.ref 0 0) :: .q :: (ii w) :: (qs 72 []))), [(.box false [(ii c.1), (ii c.2.1), (ii c.2.2.1), (.rs c.2.2.2.z .i64 c.2.2.2.n c.2.2.2.f)])]⟩
def Bk_b18_2 {ρ : Type} (fu : Nat) (c : Int × Int × Int × (Sl Int)) (k : Ex → St RT den → Option ρ) (w : Int) (go : (Int) → Option ρ) : Option ρ := F_spec_l5Vip_B2 fu c.1 c.2.1 c.2.2.1 c.2.2.2 (k .ret ⟨(qs 4 ((ii 1) :: (qs 75 []))), [(.box false [(ii c.1), (ii c.2.1), (ii c.2.2.1), (.rs c.2.2.2.z .i64 c.2.2.2.n c.2.2.2.f)])]⟩) (k (.exit 2) ⟨(qs 80 []), [(.box false [(ii c.1), (ii c.2.1), (ii c.2.2.1), (.rs c.2.2.2.z .i64 c.2.2.2.n c.2.2.2.f)])]⟩) w go
def lp_b18 (fu : Nat) : Lp RT den (Int) := ⟨fun b s k => match b with | 0 => handle ps_b18_0 os_b18_0 conv_b18_0 (Bk_b18_0 fu) fu s k | 2 => handle ps_b18_2 os_b18_2 conv_b18_2 (Bk_b18_2 fu) fu s k | _ => none, inl0⟩
theorem ev_b18 (fu : Nat) (c_0 : S_impl_Config) (at_1 : Int) : evFun E (pc_b18 fu) msk_b18 (lp_b18 fu) out_i64 75 [(.rptr [(ii c_0.Version), (.rs c_0.Backends.z .impl_Backend c_0.Backends.n c_0.Backends.f), (.rs c_0.Vips.z .impl_Vip c_0.Vips.n c_0.Vips.f)]), (ii at_1)] = F_spec_l5Vip fu c_0 at_1 := by kernel_rfl
noncomputable def body_b18 : Code := Try.f75.body.getD .skip
noncomputable def lc_b18_0 : Code := ((loops 0 body_b18).getD 0 (0, .skip)).2
theorem round_b18_0 (fu : Nat) : RoundOk E (pc_b18 fu) msk_b18 (lp_b18 fu) 0 lc_b18_0 back_b18_0 0 100000 1 (Bk_b18_0 fu) := fun it k c w => by kernel_rfl
theorem lpok_b18_0 (fu : Nat) : LpAt E (pc_b18 fu) msk_b18 (lp_b18 fu) 0 0 100000 0 lc_b18_0 :=
 handle_ok (ps := ps_b18_0) (os := os_b18_0) (conv := conv_b18_0) (B := Bk_b18_0 fu) (fu := fu) back_b18_0 (fun raw => by kernel_rfl) 1 (fun c w => by kernel_rfl) (round_b18_0 fu)
noncomputable def lc_b18_2 : Code := ((loops 0 body_b18).getD 1 (0, .skip)).2
theorem round_b18_2 (fu : Nat) : RoundOk E (pc_b18 fu) msk_b18 (lp_b18 fu) 2 lc_b18_2 back_b18_2 2 100002 1 (Bk_b18_2 fu) := fun it k c w => by kernel_rfl
theorem lpok_b18_2 (fu : Nat) : LpAt E (pc_b18 fu) msk_b18 (lp_b18 fu) 2 2 100002 2 lc_b18_2 :=
 handle_ok (ps := ps_b18_2) (os := os_b18_2) (conv := conv_b18_2) (B := Bk_b18_2 fu) (fu := fu) back_b18_2 (fun raw => by kernel_rfl) 1 (fun c w => by kernel_rfl) (round_b18_2 fu)
theorem lpok_b18 (fu : Nat) : LpOk E (pc_b18 fu) 0 msk_b18 (lp_b18 fu) (loops 0 body_b18) := lp_nil (loop_all 2 (by kernel_rfl) fun i hi => match i, hi with
 | 0, _ => by
  have h : (loops 0 body_b18).getD 0 (0, .skip) = (0, lc_b18_0) := by kernel_rfl
  rw [h]; exact lpok_b18_0 fu
 | 1, _ => by
  have h : (loops 0 body_b18).getD 1 (0, .skip) = (2, lc_b18_2) := by kernel_rfl
  rw [h]; exact lpok_b18_2 fu
 | i + 2, hi => absurd hi (by omega)) (by kernel_rfl)
def S_b18 (fu : Nat) (xs : List (D RT den)) : Option (Out RT den) := match xs with | [.rptr (.int .i64 a0_1 :: .rs za0_2 .impl_Backend na0_2 fa0_2 :: .rs za0_3 .impl_Vip na0_3 fa0_3 :: ra0), .int .i64 a1_0] => some ⟨Int, F_spec_l5Vip fu (⟨a0_1, (⟨za0_2, na0_2, fa0_2⟩ : (Sl S_impl_Backend)), (⟨za0_3, na0_3, fa0_3⟩ : (Sl S_impl_Vip))⟩ : S_impl_Config) a1_0, enc_i64, fun _ => true⟩ | _ => none
theorem hpc_b18 (fu : Nat) : HpcOk E Try.prog (pcf_b18 fu) := by
 intro f xs o h
 unfold pcf_b18 at h
 split at h
 ·exact good_a11 fu xs o h
 ·exact good_b14 fu xs o h
 ·exact good_b17 fu xs o h
 ·exact good_b16 fu xs o h
 ·exact good_a15 fu xs o h
 ·cases h
theorem goodv_b18 (fu : Nat) (c_0 : S_impl_Config) (at_1 y : Int) (hy : F_spec_l5Vip fu c_0 at_1 = some y) : Good E Try.prog 75 [(.rptr [(ii c_0.Version), (.rs c_0.Backends.z .impl_Backend c_0.Backends.n c_0.Backends.f), (.rs c_0.Vips.z .impl_Vip c_0.Vips.n c_0.Vips.f)]), (ii at_1)] (enc_i64 y) :=
 fun_good E_ok (pc_good (pc := pc_b18 fu) (hpc_b18 fu) hpx0) (fn := Try.f75) (by kernel_rfl) (by kernel_rfl) (by kernel_rfl) (lpok_b18 fu) (fun d hd => out_i64_enc d _ hd) ((ev_b18 fu c_0 at_1).trans hy)
theorem good_b18 (fu : Nat) : GoodS E Try.prog 75 (S_b18 fu) := by
 intro xs o h y hy
 unfold S_b18 at h
 split at h
 ·rename_i a0_1 za0_2 na0_2 fa0_2 za0_3 na0_3 fa0_3 ra0 a1_0
  cases h
  exact (goodv_b18 fu (⟨a0_1, (⟨za0_2, na0_2, fa0_2⟩ : (Sl S_impl_Backend)), (⟨za0_3, na0_3, fa0_3⟩ : (Sl S_impl_Vip))⟩ : S_impl_Config) a1_0 y hy).sub ⟨Sub.of_eq ra0 rfl, .refl _, trivial⟩
 ·cases h
end Go.Proofs.Ytcmfekgdlaffkaa.Pq
