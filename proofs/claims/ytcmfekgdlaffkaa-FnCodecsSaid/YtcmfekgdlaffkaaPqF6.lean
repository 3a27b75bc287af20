/- The functions' evaluated forms, each a proved summary. Conditions: none. -/
import Derived.Test.YtcmfekgdlaffkaaPqF5
namespace Go.Proofs.Ytcmfekgdlaffkaa.Pq
open Go Go.RowKit Go.Proofs Vm
set_option linter.unusedVariables false
set_option linter.unusedSimpArgs false
set_option maxRecDepth 100000
abbrev Yg0 : Type := Int × Int × Int × Int × Int × Int × (Sl Int) × Int
abbrev Yg1 : Type := Int × (Sl Int) × Int × Bool × Nat × Nat × (Nat → Int)
abbrev Yg2 : Type := Int × (Sl Int) × Int × Bool × Nat × Nat × (Nat → S_impl_Vip)
abbrev Yg3 : Type := (Sl Int) × Int × Int × Int × Nat × Nat × (Nat → S_impl_Backend)
abbrev Yg4 : Type := Int × (Sl Int) × Int × Bool × Nat × Nat × (Nat → S_impl_Backend)
abbrev Yg5 : Type := Int × Nat × Nat × (Sl Int) × Int × Nat × (Nat → S_impl_Backend) × Nat × (Nat → S_impl_Vip)
abbrev Yg6 : Type := (Sl Int) × Int × Int × Int × Int × Nat × Nat × Nat × (Nat → S_impl_Backend) × Nat × (Nat → S_impl_Vip) × Int × Int × Int
def F_spec_l5Fault_B0 {ρ : Type} (fu : Nat) (c0_0 : Int) (c0_1 : (Sl S_impl_Backend)) (c0_2 : (Sl S_impl_Vip)) (k0 : Option ρ) (k1 : Option ρ) (k2 : Option ρ) (i3_3 : Int) (go : Int → Option ρ) : Option ρ :=
 (bif (decide (i3_3 < ((c0_1.n : Nat) : Int))) then ((bif (decide (0 ≤ i3_3) && decide ((Int.toNat i3_3) < c0_1.n)) then some () else none : Option Unit).bind fun _ =>
  ((F_spec_l5Backend fu (c0_1.f (Int.toNat i3_3))).bind fun a => (bif (!a) then k0 else (((bif (decide (i3_3 > 0)) then ((bif (decide (0 ≤ i3_3) && decide ((Int.toNat i3_3) < c0_1.n)) then
  some () else none : Option Unit).bind fun _ => ((bif (decide (0 ≤ (IntKind.wrap .i64 (i3_3 - 1))) && decide ((Int.toNat (IntKind.wrap .i64 (i3_3 - 1))) < c0_1.n)) then some () else
  none : Option Unit).bind fun _ => (some (decide ((c0_1.f (Int.toNat i3_3)).Name ≤ (c0_1.f (Int.toNat (IntKind.wrap .i64 (i3_3 - 1)))).Name))))) else (some false)) : Option Bool).bind fun b =>
  (bif b then k1 else (go (IntKind.wrap .i64 (i3_3 + 1)))))))) else k2)
def F_spec_l5Fault_B2 {ρ : Type} (fu : Nat) (c0_0 : Int) (c0_1 : (Sl S_impl_Backend)) (c0_2 : (Sl S_impl_Vip)) (k0 : Int → Option ρ) (k1 : Option ρ) (i4_3 : Int) (go : Int → Option ρ) : Option ρ :=
 (bif (decide (i4_3 < ((c0_2.n : Nat) : Int))) then ((F_spec_l5Vip fu (⟨c0_0, c0_1, c0_2⟩ : S_impl_Config) i4_3).bind fun a => (bif (a != 0) then (k0 a) else (go (IntKind.wrap .i64 (i4_3 + 1))))) else
  k1)
def F_spec_l5Fault (fu : Nat) (c_0 : S_impl_Config) : Option (Int) :=
 ((F_spec_l5Version fu c_0.Version).bind fun a => (bif (!a) then (some 3) else (((bif (decide (((c_0.Backends.n : Nat) : Int) > 8)) then (some true) else (some (decide (((c_0.Vips.n : Nat) : Int) > 4)))) : Option Bool).bind fun b =>
  (bif b then (some 2) else (L (fun w0 go0 => F_spec_l5Fault_B0 fu c_0.Version c_0.Backends c_0.Vips (some 3) (some 1) (L (fun w2 go2 => F_spec_l5Fault_B2 fu c_0.Version c_0.Backends c_0.Vips (fun d =>
  (some d)) (some 0) w2 go2) fu (0 : Int)) w0 go0) fu (0 : Int))))))
def pcf_b19 (fu f : Nat) (xs : List (D RT den)) : Option (Out RT den) := match f with | 73 => S_b12 fu xs | 74 => S_b15 fu xs | 75 => S_b18 fu xs | _ => none
def pc_b19 (fu : Nat) : Pc RT den := ⟨pcf_b19 fu, fun _ => false, fun _ => false, pcd0, pcd0, pcd0, pcx0⟩
def msk_b19 (b : Nat) : List Nat := match b with | 0 => (1 :: 2 :: (rg 4 77 [])) | 100000 => (1 :: (rg 3 78 [])) | 2 => (1 :: 2 :: 3 :: (rg 5 76 [])) | 100002 => (0 :: 1 :: (rg 3 78 [])) | 200003 => [25] | 200010 => [65] | _ => []
def ps_b19_0 : List (Pat RT) := (.rptr [(.int .i64), (.rs .impl_Backend), (.rs .impl_Vip)] :: .flat .q :: .flat .q :: .flat (.int .i64) :: (fq 77 []))
def os_b19_0 : List (OP RT) := []
def conv_b19_0 (r : Raw den ps_b19_0 os_b19_0) : (Int × (Sl S_impl_Backend) × (Sl S_impl_Vip)) × (Int) := ((r.1.1.1, r.1.1.2.1, r.1.1.2.2.1), r.1.2.2.2.1)
def back_b19_0 (c : Int × (Sl S_impl_Backend) × (Sl S_impl_Vip)) (w : Int) : St RT den := ⟨((.rptr [(ii c.1), (.rs c.2.1.z .impl_Backend c.2.1.n c.2.1.f), (.rs c.2.2.z .impl_Vip c.2.2.n c.2.2.f)]) :: .q :: .q :: (ii w) :: (qs 77 [])), []⟩
def Bk_b19_0 {ρ : Type} (fu : Nat) (c : Int × (Sl S_impl_Backend) × (Sl S_impl_Vip)) (k : Ex → St RT den → Option ρ) (w : Int) (go : (Int) → Option ρ) : Option ρ := F_spec_l5Fault_B0 fu c.1 c.2.1 c.2.2 (k .ret ⟨((.rptr [(ii c.1), (.rs c.2.1.z .impl_Backend c.2.1.n c.2.1.f), (.rs c.2.2.z .impl_Vip c.2.2.n c.2.2.f)]) :: .q :: (ii 3) :: (qs 78 [])), []⟩) (k .ret ⟨((.rptr [(ii c.1), (.rs c.2.1.z .impl_Backend c.2.1.n c.2.1.f), (.rs c.2.2.z .impl_Vip c.2.2.n c.2.2.f)]) :: .q :: (ii 1) :: (qs 78 [])), []⟩) (k (.exit 0) ⟨((.rptr [(ii c.1), (.rs c.2.1.z .impl_Backend c.2.1.n c.2.1.f), (.rs c.2.2.z .impl_Vip c.2.2.n c.2.2.f)]) :: (qs 80 [])), []⟩) w go
def ps_b19_2 : List (Pat RT) := (.rptr [(.int .i64), (.rs .impl_Backend), (.rs .impl_Vip)] :: .flat .q :: .flat .q :: .flat .q :: .flat (.int .i64) :: (fq 76 []))
def os_b19_2 : List (OP RT) := []
def conv_b19_2 (r : Raw den ps_b19_2 os_b19_2) : (Int × (Sl S_impl_Backend) × (Sl S_impl_Vip)) × (Int) := ((r.1.1.1, r.1.1.2.1, r.1.1.2.2.1), r.1.2.2.2.2.1)
def back_b19_2 (c : Int × (Sl S_impl_Backend) × (Sl S_impl_Vip)) (w : Int) : St RT den := ⟨((.rptr [(ii c.1), (.rs c.2.1.z .impl_Backend c.2.1.n c.2.1.f), (.rs c.2.2.z .impl_Vip c.2.2.n c.2.2.f)]) :: .q :: .q :: .q :: (ii w) :: (qs 76 [])), []⟩
def Bk_b19_2 {ρ : Type} (fu : Nat) (c : Int × (Sl S_impl_Backend) × (Sl S_impl_Vip)) (k : Ex → St RT den → Option ρ) (w : Int) (go : (Int) → Option ρ) : Option ρ := F_spec_l5Fault_B2 fu c.1 c.2.1 c.2.2 (fun a0 => k .ret ⟨(.q :: .q :: (ii a0) :: (qs 78 [])), []⟩) (k (.exit 2) ⟨(qs 81 []), []⟩) w go
def lp_b19 (fu : Nat) : Lp RT den (Int) := ⟨fun b s k => match b with | 0 => handle ps_b19_0 os_b19_0 conv_b19_0 (Bk_b19_0 fu) fu s k | 2 => handle ps_b19_2 os_b19_2 conv_b19_2 (Bk_b19_2 fu) fu s k | _ => none, inl0⟩
theorem ev_b19 (fu : Nat) (c_0 : S_impl_Config) : evFun E (pc_b19 fu) msk_b19 (lp_b19 fu) out_i64 32 [(.rptr [(ii c_0.Version), (.rs c_0.Backends.z .impl_Backend c_0.Backends.n c_0.Backends.f), (.rs c_0.Vips.z .impl_Vip c_0.Vips.n c_0.Vips.f)])] = F_spec_l5Fault fu c_0 := by kernel_rfl
noncomputable def body_b19 : Code := Try.f32.body.getD .skip
noncomputable def lc_b19_0 : Code := ((loops 0 body_b19).getD 0 (0, .skip)).2
theorem round_b19_0 (fu : Nat) : RoundOk E (pc_b19 fu) msk_b19 (lp_b19 fu) 0 lc_b19_0 back_b19_0 0 100000 0 (Bk_b19_0 fu) := fun it k c w => by kernel_rfl
theorem lpok_b19_0 (fu : Nat) : LpAt E (pc_b19 fu) msk_b19 (lp_b19 fu) 0 0 100000 0 lc_b19_0 :=
 handle_ok (ps := ps_b19_0) (os := os_b19_0) (conv := conv_b19_0) (B := Bk_b19_0 fu) (fu := fu) back_b19_0 (fun raw => by kernel_rfl) 0 (fun c w => by kernel_rfl) (round_b19_0 fu)
noncomputable def lc_b19_2 : Code := ((loops 0 body_b19).getD 1 (0, .skip)).2
theorem round_b19_2 (fu : Nat) : RoundOk E (pc_b19 fu) msk_b19 (lp_b19 fu) 2 lc_b19_2 back_b19_2 2 100002 0 (Bk_b19_2 fu) := fun it k c w => by kernel_rfl
theorem lpok_b19_2 (fu : Nat) : LpAt E (pc_b19 fu) msk_b19 (lp_b19 fu) 2 2 100002 2 lc_b19_2 :=
 handle_ok (ps := ps_b19_2) (os := os_b19_2) (conv := conv_b19_2) (B := Bk_b19_2 fu) (fu := fu) back_b19_2 (fun raw => by kernel_rfl) 0 (fun c w => by kernel_rfl) (round_b19_2 fu)
theorem lpok_b19 (fu : Nat) : LpOk E (pc_b19 fu) 0 msk_b19 (lp_b19 fu) (loops 0 body_b19) := lp_nil (loop_all 2 (by kernel_rfl) fun i hi => match i, hi with
 | 0, _ => by
  have h : (loops 0 body_b19).getD 0 (0, .skip) = (0, lc_b19_0) := by kernel_rfl
  rw [h]; exact lpok_b19_0 fu
 | 1, _ => by
  have h : (loops 0 body_b19).getD 1 (0, .skip) = (2, lc_b19_2) := by kernel_rfl
  rw [h]; exact lpok_b19_2 fu
 | i + 2, hi => absurd hi (by omega)) (by kernel_rfl)
def S_b19 (fu : Nat) (xs : List (D RT den)) : Option (Out RT den) := match xs with | [.rptr (.int .i64 a0_1 :: .rs za0_2 .impl_Backend na0_2 fa0_2 :: .rs za0_3 .impl_Vip na0_3 fa0_3 :: ra0)] => some ⟨Int, F_spec_l5Fault fu (⟨a0_1, (⟨za0_2, na0_2, fa0_2⟩ : (Sl S_impl_Backend)), (⟨za0_3, na0_3, fa0_3⟩ : (Sl S_impl_Vip))⟩ : S_impl_Config), enc_i64, fun _ => true⟩ | _ => none
theorem hpc_b19 (fu : Nat) : HpcOk E Try.prog (pcf_b19 fu) := by
 intro f xs o h
 unfold pcf_b19 at h
 split at h
 ·exact good_b12 fu xs o h
 ·exact good_b15 fu xs o h
 ·exact good_b18 fu xs o h
 ·cases h
theorem goodv_b19 (fu : Nat) (c_0 : S_impl_Config) (y : Int) (hy : F_spec_l5Fault fu c_0 = some y) : Good E Try.prog 32 [(.rptr [(ii c_0.Version), (.rs c_0.Backends.z .impl_Backend c_0.Backends.n c_0.Backends.f), (.rs c_0.Vips.z .impl_Vip c_0.Vips.n c_0.Vips.f)])] (enc_i64 y) :=
 fun_good E_ok (pc_good (pc := pc_b19 fu) (hpc_b19 fu) hpx0) (fn := Try.f32) (by kernel_rfl) (by kernel_rfl) (by kernel_rfl) (lpok_b19 fu) (fun d hd => out_i64_enc d _ hd) ((ev_b19 fu c_0).trans hy)
theorem good_b19 (fu : Nat) : GoodS E Try.prog 32 (S_b19 fu) := by
 intro xs o h y hy
 unfold S_b19 at h
 split at h
 ·rename_i a0_1 za0_2 na0_2 fa0_2 za0_3 na0_3 fa0_3 ra0
  cases h
  exact (goodv_b19 fu (⟨a0_1, (⟨za0_2, na0_2, fa0_2⟩ : (Sl S_impl_Backend)), (⟨za0_3, na0_3, fa0_3⟩ : (Sl S_impl_Vip))⟩ : S_impl_Config) y hy).sub ⟨Sub.of_eq ra0 rfl, trivial⟩
 ·cases h
def F_spec_UnpackConfig_B0 {ρ : Type} (fu : Nat) (data0_0 : (Sl Int)) (o0_2 o0_3 o2_7 : Int) (k0 : (Sl Int) → Int → Bool → Nat → Nat → (Nat → S_impl_Backend) → Option ρ) (n5_1 : Int) (o1_4 : (Sl Int)) (o1_5 : Int) (o1_6 : Bool) (o2_8 on3_9 : Nat) (of3_10 : (Nat → S_impl_Backend)) (go : Int → (Sl Int) → Int → Bool → Nat → Nat → (Nat → S_impl_Backend) → Option ρ) : Option ρ :=
 (((bif (decide (n5_1 > 0)) then (some (!o1_6)) else (some false)) : Option Bool).bind fun a => (bif a then ((F_spec_l6Next_M fu 2 o1_4 o1_5 o1_6).bind fun b =>
  ((F_spec_l6Next_M fu 4 b.2.1 b.2.2.1 b.2.2.2).bind fun d => ((F_spec_l6Next_M fu 1 d.2.1 d.2.2.1 d.2.2.2).bind fun g => (bif (decide ((o2_8 + 1) ≤ 9223372036854775807) &&
  decide ((o2_8 + 1) * 40 ≤ 140737488355328)) then (go (IntKind.wrap .i64 (n5_1 - 1)) g.2.1 g.2.2.1 g.2.2.2 (o2_8 + 1) (o2_8 + 1) (fun i => if i < o2_8 then (of3_10 i) else
  ((fun i => ([(⟨b.1, d.1, (IntKind.wrap .i64 (Int.tdiv g.1 8)), (IntKind.wrap .i64 (Int.tdiv (Int.tmod g.1 8) 2)), ((Int.tmod g.1 2) == 1)⟩ : S_impl_Backend)] : List (S_impl_Backend)).getD i (dflt .impl_Backend)) (i - o2_8)))) else
  none)))) else (k0 o1_4 o1_5 o1_6 o2_8 on3_9 of3_10)))
def F_spec_UnpackConfig_B4 {ρ : Type} (fu : Nat) (data0_0 : (Sl Int)) (n8_1 o0_3 o0_4 o2_8 : Int) (o2_9 o2_10 on3_11 : Nat) (of3_12 : (Nat → S_impl_Backend)) (on4_13 : Nat) (of4_14 : (Nat → S_impl_Vip)) (o5_15 o5_16 o5_17 : Int) (k0 : (Sl Int) → Int → Bool → Nat → Nat → (Nat → Int) → Option ρ) (k10_2 : Int) (o1_5 : (Sl Int)) (o1_6 : Int) (o1_7 : Bool) (o5_18 on6_19 : Nat) (of6_20 : (Nat → Int)) (go : Int → (Sl Int) → Int → Bool → Nat → Nat → (Nat → Int) → Option ρ) : Option ρ :=
 (((bif (decide (k10_2 > 0)) then (some (!o1_7)) else (some false)) : Option Bool).bind fun a => (bif a then ((F_spec_l6Next_M fu 2 o1_5 o1_6 o1_7).bind fun b => (bif (decide ((o5_18 + 1) ≤ 9223372036854775807) &&
  decide ((o5_18 + 1) * 8 ≤ 140737488355328)) then (go (IntKind.wrap .i64 (k10_2 - 1)) b.2.1 b.2.2.1 b.2.2.2 (o5_18 + 1) (o5_18 + 1) (fun i => if i < o5_18 then
  (of6_20 i) else ((fun i => ([b.1] : List (Int)).getD i (dflt .i64)) (i - o5_18)))) else none)) else (k0 o1_5 o1_6 o1_7 o5_18 on6_19 of6_20)))
def F_spec_UnpackConfig_B2 {ρ : Type} (fu : Nat) (data0_0 : (Sl Int)) (o0_2 o0_3 o2_7 : Int) (o2_8 on3_10 : Nat) (of3_11 : (Nat → S_impl_Backend)) (k0 : (Sl Int) → Int → Bool → Nat → Nat → (Nat → S_impl_Vip) → Option ρ) (n8_1 : Int) (o1_4 : (Sl Int)) (o1_5 : Int) (o1_6 : Bool) (o2_9 on4_12 : Nat) (of4_13 : (Nat → S_impl_Vip)) (go : Int → (Sl Int) → Int → Bool → Nat → Nat → (Nat → S_impl_Vip) → Option ρ) : Option ρ :=
 (((bif (decide (n8_1 > 0)) then (some (!o1_6)) else (some false)) : Option Bool).bind fun a => (bif a then ((F_spec_l6Next_M fu 4 o1_4 o1_5 o1_6).bind fun b =>
  ((F_spec_l6Next_M fu 2 b.2.1 b.2.2.1 b.2.2.2).bind fun d => ((F_spec_l6Next_M fu 1 d.2.1 d.2.2.1 d.2.2.2).bind fun g => ((F_spec_l6Next_M fu 1 g.2.1 g.2.2.1 g.2.2.2).bind fun h =>
  (L (fun w4 go4 => F_spec_UnpackConfig_B4 fu data0_0 n8_1 o0_2 o0_3 o2_7 o2_8 o2_9 on3_10 of3_11 on4_12 of4_13 b.1 d.1 g.1 (fun j l n o p q =>
  (bif (decide ((o2_9 + 1) ≤ 9223372036854775807) && decide ((o2_9 + 1) * 48 ≤ 140737488355328)) then (go (IntKind.wrap .i64 (n8_1 - 1)) j l n (o2_9 + 1) (o2_9 + 1) (fun i =>
  if i < o2_9 then (of4_13 i) else ((fun i => ([(⟨b.1, d.1, g.1, (⟨none, o, q⟩ : (Sl Int))⟩ : S_impl_Vip)] : List (S_impl_Vip)).getD i (dflt .impl_Vip)) (i - o2_9)))) else
  none)) w4.1 w4.2.1 w4.2.2.1 w4.2.2.2.1 w4.2.2.2.2.1 w4.2.2.2.2.2.1 w4.2.2.2.2.2.2 (fun q0 q1 q2 q3 q4 q5 q6 => go4 (q0, q1, q2, q3, q4, q5, q6))) fu ((h.1, h.2.1,
  h.2.2.1, h.2.2.2, 0, 0, (fun _ => dflt .i64)) : Yg1)))))) else (k0 o1_4 o1_5 o1_6 o2_9 on4_12 of4_13)))
def F_spec_UnpackConfig (fu : Nat) (data_0 : (Sl Int)) : Option (S_impl_ConfigResult) :=
 ((F_spec_l6Next_M fu 4 data_0 0 false).bind fun a => ((F_spec_l6Next_M fu 1 a.2.1 a.2.2.1 a.2.2.2).bind fun b => (L (fun w0 go0 => F_spec_UnpackConfig_B0 fu data_0 0 0 a.1 (fun d g h j l o =>
  ((F_spec_l6Next_M fu 1 d g h).bind fun p => (L (fun w2 go2 => F_spec_UnpackConfig_B2 fu data_0 0 0 a.1 j l o (fun q r t u v w =>
  (bif t then (some (⟨5, (⟨0, (⟨(some true), 0, (fun _ => dflt .impl_Backend)⟩ : (Sl S_impl_Backend)), (⟨(some true), 0, (fun _ => dflt .impl_Vip)⟩ : (Sl S_impl_Vip))⟩ : S_impl_Config)⟩ : S_impl_ConfigResult)) else
  (bif (r != ((data_0.n : Nat) : Int)) then (some (⟨5, (⟨0, (⟨(some true), 0, (fun _ => dflt .impl_Backend)⟩ : (Sl S_impl_Backend)), (⟨(some true), 0, (fun _ => dflt .impl_Vip)⟩ : (Sl S_impl_Vip))⟩ : S_impl_Config)⟩ : S_impl_ConfigResult)) else
  ((F_spec_l5Fault fu (⟨a.1, (⟨none, j, o⟩ : (Sl S_impl_Backend)), (⟨none, u, w⟩ : (Sl S_impl_Vip))⟩ : S_impl_Config)).bind fun y0 => (bif (y0 != 0) then
  (some (⟨5, (⟨0, (⟨(some true), 0, (fun _ => dflt .impl_Backend)⟩ : (Sl S_impl_Backend)), (⟨(some true), 0, (fun _ => dflt .impl_Vip)⟩ : (Sl S_impl_Vip))⟩ : S_impl_Config)⟩ : S_impl_ConfigResult)) else
  ((F_spec_l6Config_H fu (⟨a.1, (⟨none, j, o⟩ : (Sl S_impl_Backend)), (⟨none, u, w⟩ : (Sl S_impl_Vip))⟩ : S_impl_Config)).bind fun y1 => (bif (!(ByteArray.toList (bytesOf y1.n (fun i =>
  (y1.f i))) == ByteArray.toList (bytesOf data_0.n (fun i => (data_0.f i))))) then (some (⟨5, (⟨0, (⟨(some true), 0, (fun _ => dflt .impl_Backend)⟩ : (Sl S_impl_Backend)),
  (⟨(some true), 0, (fun _ => dflt .impl_Vip)⟩ : (Sl S_impl_Vip))⟩ : S_impl_Config)⟩ : S_impl_ConfigResult)) else (some (⟨0, (⟨a.1, (⟨none, j, o⟩ : (Sl S_impl_Backend)),
  (⟨none, u, w⟩ : (Sl S_impl_Vip))⟩ : S_impl_Config)⟩ : S_impl_ConfigResult))))))))) w2.1 w2.2.1 w2.2.2.1 w2.2.2.2.1 w2.2.2.2.2.1 w2.2.2.2.2.2.1 w2.2.2.2.2.2.2 (fun q0 q1 q2 q3 q4 q5 q6 =>
  go2 (q0, q1, q2, q3, q4, q5, q6))) fu ((p.1, p.2.1, p.2.2.1, p.2.2.2, 0, 0, (fun _ => dflt .impl_Vip)) : Yg2)))) w0.1 w0.2.1 w0.2.2.1 w0.2.2.2.1 w0.2.2.2.2.1 w0.2.2.2.2.2.1 w0.2.2.2.2.2.2 (fun q0 q1 q2 q3 q4 q5 q6 =>
  go0 (q0, q1, q2, q3, q4, q5, q6))) fu ((b.1, b.2.1, b.2.2.1, b.2.2.2, 0, 0, (fun _ => dflt .impl_Backend)) : Yg4))))
def pcf_b20 (fu f : Nat) (xs : List (D RT den)) : Option (Out RT den) := match f with | 32 => S_b19 fu xs | _ => none
def pcx_b20 (fu f : Nat) (xs : List (D RT den)) (ins : List (Ob RT den)) : Option (OutX RT den) := match f with | 31 => S_b11 fu xs ins | 33 => S_a19 fu xs ins | _ => none
def pcd_b20 : Nat → Bool := fun _ => false
def pc_b20 (fu : Nat) : Pc RT den := ⟨pcf_b20 fu, fun f => match f with | 31 => true | 33 => true | _ => false, fun f => match f with | 31 => true | _ => false, pcd_b20, fun f => match f with | 31 => true | _ => false, pcd0, pcx_b20 fu⟩
def msk_b20 (b : Nat) : List Nat := match b with | 0 => (1 :: (rg 6 102 [])) | 100000 => (1 :: (rg 5 103 [])) | 2 => (1 :: 5 :: 6 :: 7 :: (rg 9 99 [])) | 100002 => (1 :: (rg 5 103 [])) | 4 => (1 :: 5 :: 6 :: 7 :: (rg 11 97 [])) | 100004 => (1 :: 5 :: 6 :: 7 :: (rg 10 98 [])) | 200004 => [22] | 200014 => [54] | 200020 => [70] | 300000 => [1002001] | 300002 => [1002002] | 300004 => [1004003, 1005003] | 500023 => [5, 6] | _ => []
def ps_b20_0 : List (Pat RT) := (.flat (.rs .u8) :: .flat .q :: .flat (.ref 0 0) :: .flat (.ref 1 0) :: .flat (.ref 2 0) :: .flat (.int .i64) :: (fq 102 []))
def os_b20_0 : List (OP RT) := [.box false [(.int .i64), (.int .i64), (.emp true .impl_Backend), (.emp true .impl_Vip)], .box false [(.rs .u8), (.int .i64), .bool], .box false [(.int .i64), (.os 3), (.emp true .impl_Vip)], .row false .impl_Backend]
def conv_b20_0 (r : Raw den ps_b20_0 os_b20_0) : ((Sl Int) × Int × Int × Int) × (Yg4) := ((r.1.1, r.2.1.1, r.2.1.2.1, r.2.2.2.1.1), ((e5 r.1).1, r.2.2.1.1, r.2.2.1.2.1, r.2.2.1.2.2.1, r.2.2.2.1.2.1, r.2.2.2.2.1.1, r.2.2.2.2.1.2))
def back_b20_0 (c : (Sl Int) × Int × Int × Int) (w : Yg4) : St RT den := ⟨((.rs c.1.z .u8 c.1.n c.1.f) :: .q :: (.ref 0 0) :: (.ref 1 0) :: (.ref 2 0) :: (ii w.1) :: (qs 102 [])), [(.box false [(ii c.2.1), (ii c.2.2.1), (.emp true .impl_Backend), (.emp true .impl_Vip)]), (.box false [(.rs w.2.1.z .u8 w.2.1.n w.2.1.f), (ii w.2.2.1), (.bool w.2.2.2.1)]), (.box false [(ii c.2.2.2), (.os 3 w.2.2.2.2.1), (.emp true .impl_Vip)]), (.row false .impl_Backend (e5 w).1 (e5 w).2)]⟩
def Bk_b20_0 {ρ : Type} (fu : Nat) (c : (Sl Int) × Int × Int × Int) (k : Ex → St RT den → Option ρ) (w : Yg4) (go : (Yg4) → Option ρ) : Option ρ := F_spec_UnpackConfig_B0 fu c.1 c.2.1 c.2.2.1 c.2.2.2 (fun a0 a1 a2 a3 a4 a5 => k (.exit 0) ⟨((.rs c.1.z .u8 c.1.n c.1.f) :: .q :: (.ref 0 0) :: (.ref 1 0) :: (.ref 2 0) :: (qs 103 [])), [(.box false [(ii c.2.1), (ii c.2.2.1), (.emp true .impl_Backend), (.emp true .impl_Vip)]), (.box false [(.rs a0.z .u8 a0.n a0.f), (ii a1), (.bool a2)]), (.box false [(ii c.2.2.2), (.os 3 a3), (.emp true .impl_Vip)]), (.row false .impl_Backend a4 a5)]⟩) w.1 w.2.1 w.2.2.1 w.2.2.2.1 w.2.2.2.2.1 (e5 w).1 (e5 w).2 (fun q0 q1 q2 q3 q4 q5 q6 => go (q0, q1, q2, q3, q4, q5, q6))
def ps_b20_4 : List (Pat RT) := (.flat (.rs .u8) :: .flat .q :: .flat (.ref 0 0) :: .flat (.ref 1 0) :: .flat (.ref 2 0) :: .flat .q :: .flat .q :: .flat .q :: .flat (.int .i64) :: .flat (.ref 5 0) :: .flat (.int .i64) :: (fq 97 []))
def os_b20_4 : List (OP RT) := [.box false [(.int .i64), (.int .i64), (.emp true .impl_Backend), (.emp true .impl_Vip)], .box false [(.rs .u8), (.int .i64), .bool], .box false [(.int .i64), (.os 3), (.os 4)], .row false .impl_Backend, .row false .impl_Vip, .box false [(.int .i64), (.int .i64), (.int .i64), (.os 6)], .row false .i64]
def conv_b20_4 (r : Raw den ps_b20_4 os_b20_4) : (Yg6) × (Yg1) := ((r.1.1, (e5 r.1).2.2.2.1, r.2.1.1, r.2.1.2.1, r.2.2.2.1.1, r.2.2.2.1.2.1, r.2.2.2.1.2.2.1, r.2.2.2.2.1.1, r.2.2.2.2.1.2, (e5 r).1.1, (e5 r).1.2, (e5 r).2.1.1, (e5 r).2.1.2.1, (e5 r).2.1.2.2.1), ((e10 r.1).1, r.2.2.1.1, r.2.2.1.2.1, r.2.2.1.2.2.1, (e5 r).2.1.2.2.2.1, (e5 r).2.2.1.1, (e5 r).2.2.1.2))
def back_b20_4 (c : Yg6) (w : Yg1) : St RT den := ⟨((.rs c.1.z .u8 c.1.n c.1.f) :: .q :: (.ref 0 0) :: (.ref 1 0) :: (.ref 2 0) :: .q :: .q :: .q :: (ii c.2.1) :: (.ref 5 0) :: (ii w.1) :: (qs 97 [])), [(.box false [(ii c.2.2.1), (ii c.2.2.2.1), (.emp true .impl_Backend), (.emp true .impl_Vip)]), (.box false [(.rs w.2.1.z .u8 w.2.1.n w.2.1.f), (ii w.2.2.1), (.bool w.2.2.2.1)]), (.box false [(ii c.2.2.2.2.1), (.os 3 (e5 c).1), (.os 4 (e5 c).2.1)]), (.row false .impl_Backend (e5 c).2.2.1 (e5 c).2.2.2.1), (.row false .impl_Vip (e5 c).2.2.2.2.1 (e10 c).1), (.box false [(ii (e10 c).2.1), (ii (e10 c).2.2.1), (ii (e10 c).2.2.2), (.os 6 w.2.2.2.2.1)]), (.row false .i64 (e5 w).1 (e5 w).2)]⟩
def Bk_b20_4 {ρ : Type} (fu : Nat) (c : Yg6) (k : Ex → St RT den → Option ρ) (w : Yg1) (go : (Yg1) → Option ρ) : Option ρ := F_spec_UnpackConfig_B4 fu c.1 c.2.1 c.2.2.1 c.2.2.2.1 c.2.2.2.2.1 (e5 c).1 (e5 c).2.1 (e5 c).2.2.1 (e5 c).2.2.2.1 (e5 c).2.2.2.2.1 (e10 c).1 (e10 c).2.1 (e10 c).2.2.1 (e10 c).2.2.2 (fun a0 a1 a2 a3 a4 a5 => k (.exit 4) ⟨((.rs c.1.z .u8 c.1.n c.1.f) :: .q :: (.ref 0 0) :: (.ref 1 0) :: (.ref 2 0) :: .q :: .q :: .q :: (ii c.2.1) :: (.ref 5 0) :: (qs 98 [])), [(.box false [(ii c.2.2.1), (ii c.2.2.2.1), (.emp true .impl_Backend), (.emp true .impl_Vip)]), (.box false [(.rs a0.z .u8 a0.n a0.f), (ii a1), (.bool a2)]), (.box false [(ii c.2.2.2.2.1), (.os 3 (e5 c).1), (.os 4 (e5 c).2.1)]), (.row false .impl_Backend (e5 c).2.2.1 (e5 c).2.2.2.1), (.row false .impl_Vip (e5 c).2.2.2.2.1 (e10 c).1), (.box false [(ii (e10 c).2.1), (ii (e10 c).2.2.1), (ii (e10 c).2.2.2), (.os 6 a3)]), (.row false .i64 a4 a5)]⟩) w.1 w.2.1 w.2.2.1 w.2.2.2.1 w.2.2.2.2.1 (e5 w).1 (e5 w).2 (fun q0 q1 q2 q3 q4 q5 q6 => go (q0, q1, q2, q3, q4, q5, q6))
def ps_b20_2 : List (Pat RT) := (.flat (.rs .u8) :: .flat .q :: .flat (.ref 0 0) :: .flat (.ref 1 0) :: .flat (.ref 2 0) :: .flat .q :: .flat .q :: .flat .q :: .flat (.int .i64) :: (fq 99 []))
def os_b20_2 : List (OP RT) := [.box false [(.int .i64), (.int .i64), (.emp true .impl_Backend), (.emp true .impl_Vip)], .box false [(.rs .u8), (.int .i64), .bool], .box false [(.int .i64), (.os 3), (.os 4)], .row false .impl_Backend, .row false .impl_Vip]
def conv_b20_2 (r : Raw den ps_b20_2 os_b20_2) : (Yg3) × (Yg2) := ((r.1.1, r.2.1.1, r.2.1.2.1, r.2.2.2.1.1, r.2.2.2.1.2.1, r.2.2.2.2.1.1, r.2.2.2.2.1.2), ((e5 r.1).2.2.2.1, r.2.2.1.1, r.2.2.1.2.1, r.2.2.1.2.2.1, r.2.2.2.1.2.2.1, (e5 r).1.1, (e5 r).1.2))
def back_b20_2 (c : Yg3) (w : Yg2) : St RT den := ⟨((.rs c.1.z .u8 c.1.n c.1.f) :: .q :: (.ref 0 0) :: (.ref 1 0) :: (.ref 2 0) :: .q :: .q :: .q :: (ii w.1) :: (qs 99 [])), [(.box false [(ii c.2.1), (ii c.2.2.1), (.emp true .impl_Backend), (.emp true .impl_Vip)]), (.box false [(.rs w.2.1.z .u8 w.2.1.n w.2.1.f), (ii w.2.2.1), (.bool w.2.2.2.1)]), (.box false [(ii c.2.2.2.1), (.os 3 c.2.2.2.2.1), (.os 4 w.2.2.2.2.1)]), (.row false .impl_Backend (e5 c).1 (e5 c).2), (.row false .impl_Vip (e5 w).1 (e5 w).2)]⟩
def Bk_b20_2 {ρ : Type} (fu : Nat) (c : Yg3) (k : Ex → St RT den → Option ρ) (w : Yg2) (go : (Yg2) → Option ρ) : Option ρ := F_spec_UnpackConfig_B2 fu c.1 c.2.1 c.2.2.1 c.2.2.2.1 c.2.2.2.2.1 (e5 c).1 (e5 c).2 (fun a0 a1 a2 a3 a4 a5 => k (.exit 2) ⟨((.rs c.1.z .u8 c.1.n c.1.f) :: .q :: (.ref 0 0) :: (.ref 1 0) :: (.ref 2 0) :: (qs 103 [])), [(.box false [(ii c.2.1), (ii c.2.2.1), (.emp true .impl_Backend), (.emp true .impl_Vip)]), (.box false [(.rs a0.z .u8 a0.n a0.f), (ii a1), (.bool a2)]), (.box false [(ii c.2.2.2.1), (.os 3 c.2.2.2.2.1), (.os 4 a3)]), (.row false .impl_Backend (e5 c).1 (e5 c).2), (.row false .impl_Vip a4 a5)]⟩) w.1 w.2.1 w.2.2.1 w.2.2.2.1 w.2.2.2.2.1 (e5 w).1 (e5 w).2 (fun q0 q1 q2 q3 q4 q5 q6 => go (q0, q1, q2, q3, q4, q5, q6))
def lp_b20 (fu : Nat) : Lp RT den (S_impl_ConfigResult) := ⟨fun b s k => match b with | 0 => handle ps_b20_0 os_b20_0 conv_b20_0 (Bk_b20_0 fu) fu s k | 2 => handle ps_b20_2 os_b20_2 conv_b20_2 (Bk_b20_2 fu) fu s k | 4 => handle ps_b20_4 os_b20_4 conv_b20_4 (Bk_b20_4 fu) fu s k | _ => none, inl0⟩
theorem ev_b20 (fu : Nat) (data_0 : (Sl Int)) : evFun E (pc_b20 fu) msk_b20 (lp_b20 fu) out_impl_ConfigResult 6 [(.rs data_0.z .u8 data_0.n data_0.f)] = F_spec_UnpackConfig fu data_0 := by kernel_rfl
noncomputable def body_b20 : Code := Try.f6.body.getD .skip
noncomputable def lc_b20_0 : Code := ((loops 0 body_b20).getD 0 (0, .skip)).2
theorem round_b20_0 (fu : Nat) : RoundOk E (pc_b20 fu) msk_b20 (lp_b20 fu) 0 lc_b20_0 back_b20_0 0 100000 4 (Bk_b20_0 fu) := fun it k c w => by kernel_rfl
theorem lpok_b20_0 (fu : Nat) : LpAt E (pc_b20 fu) msk_b20 (lp_b20 fu) 0 0 100000 0 lc_b20_0 :=
 handle_ok (ps := ps_b20_0) (os := os_b20_0) (conv := conv_b20_0) (B := Bk_b20_0 fu) (fu := fu) back_b20_0 (fun raw => by kernel_rfl) 4 (fun c w => by kernel_rfl) (round_b20_0 fu)
noncomputable def lc_b20_2 : Code := ((loops 0 body_b20).getD 1 (0, .skip)).2
theorem round_b20_2 (fu : Nat) : RoundOk E (pc_b20 fu) msk_b20 (lp_b20 fu) 2 lc_b20_2 back_b20_2 2 100002 5 (Bk_b20_2 fu) := fun it k c w => by kernel_rfl
theorem lpok_b20_2 (fu : Nat) : LpAt E (pc_b20 fu) msk_b20 (lp_b20 fu) 2 2 100002 2 lc_b20_2 :=
 handle_ok (ps := ps_b20_2) (os := os_b20_2) (conv := conv_b20_2) (B := Bk_b20_2 fu) (fu := fu) back_b20_2 (fun raw => by kernel_rfl) 5 (fun c w => by kernel_rfl) (round_b20_2 fu)
noncomputable def lc_b20_4 : Code := ((loops 0 body_b20).getD 2 (0, .skip)).2
theorem round_b20_4 (fu : Nat) : RoundOk E (pc_b20 fu) msk_b20 (lp_b20 fu) 4 lc_b20_4 back_b20_4 4 100004 7 (Bk_b20_4 fu) := fun it k c w => by kernel_rfl
theorem lpok_b20_4 (fu : Nat) : LpAt E (pc_b20 fu) msk_b20 (lp_b20 fu) 4 4 100004 4 lc_b20_4 :=
 handle_ok (ps := ps_b20_4) (os := os_b20_4) (conv := conv_b20_4) (B := Bk_b20_4 fu) (fu := fu) back_b20_4 (fun raw => by kernel_rfl) 7 (fun c w => by kernel_rfl) (round_b20_4 fu)
theorem lpok_b20 (fu : Nat) : LpOk E (pc_b20 fu) 0 msk_b20 (lp_b20 fu) (loops 0 body_b20) := lp_nil (loop_all 3 (by kernel_rfl) fun i hi => match i, hi with
 | 0, _ => by
  have h : (loops 0 body_b20).getD 0 (0, .skip) = (0, lc_b20_0) := by kernel_rfl
  rw [h]; exact lpok_b20_0 fu
 | 1, _ => by
  have h : (loops 0 body_b20).getD 1 (0, .skip) = (2, lc_b20_2) := by kernel_rfl
  rw [h]; exact lpok_b20_2 fu
 | 2, _ => by
  have h : (loops 0 body_b20).getD 2 (0, .skip) = (4, lc_b20_4) := by kernel_rfl
  rw [h]; exact lpok_b20_4 fu
 | i + 3, hi => absurd hi (by omega)) (by kernel_rfl)
def S_b20 (fu : Nat) (xs : List (D RT den)) : Option (Out RT den) := match xs with | [.rs za0_0 .u8 na0_0 fa0_0] => some ⟨S_impl_ConfigResult, F_spec_UnpackConfig fu (⟨za0_0, na0_0, fa0_0⟩ : (Sl Int)), enc_impl_ConfigResult, fun _ => true⟩ | _ => none
theorem hpc_b20 (fu : Nat) : HpcOk E Try.prog (pcf_b20 fu) := by
 intro f xs o h
 unfold pcf_b20 at h
 split at h
 ·exact good_b19 fu xs o h
 ·cases h
theorem hpx_b20 (fu : Nat) : HpxOk E Try.prog pcd_b20 pcd0 (pcx_b20 fu) := by
 intro f xs ins o h
 unfold pcx_b20 at h
 split at h
 ·exact good_b11 fu xs ins o h
 ·exact good_a19 fu xs ins o h
 ·cases h
theorem goodv_b20 (fu : Nat) (data_0 : (Sl Int)) (y : S_impl_ConfigResult) (hy : F_spec_UnpackConfig fu data_0 = some y) : Good E Try.prog 6 [(.rs data_0.z .u8 data_0.n data_0.f)] (enc_impl_ConfigResult y) :=
 fun_good E_ok (pc_good (pc := pc_b20 fu) (hpc_b20 fu) (hpx_b20 fu)) (fn := Try.f6) (by kernel_rfl) (by kernel_rfl) (by kernel_rfl) (lpok_b20 fu) (fun d hd => out_impl_ConfigResult_enc d _ hd) ((ev_b20 fu data_0).trans hy)
theorem good_b20 (fu : Nat) : GoodS E Try.prog 6 (S_b20 fu) := by
 intro xs o h y hy
 unfold S_b20 at h
 split at h
 ·rename_i za0_0 na0_0 fa0_0
  cases h
  exact goodv_b20 fu (⟨za0_0, na0_0, fa0_0⟩ : (Sl Int)) y hy
 ·cases h
def F_spec_l5Number (fu : Nat) (x_0 : S_impl_Cmd) : Option (Bool) :=
 (bif (x_0.Kind == 1) then ((F_spec_l1In fu x_0.Number 0 9).bind fun a => (some a)) else (bif (x_0.Kind == 2) then ((F_spec_l1In fu x_0.Number 0 9).bind fun b => (some b)) else
  (bif (x_0.Kind == 3) then ((F_spec_l1In fu x_0.Number 1 3).bind fun d => (some d)) else (bif (x_0.Kind == 9) then ((F_spec_l1In fu x_0.Number 0 1).bind fun g =>
  (some g)) else ((F_spec_l2Port fu x_0.Number).bind fun h => (some h))))))
def pcf_b21 (fu f : Nat) (xs : List (D RT den)) : Option (Out RT den) := match f with | 96 => S_a1 fu xs | 120 => S_b16 fu xs | _ => none
def pc_b21 (fu : Nat) : Pc RT den := ⟨pcf_b21 fu, fun _ => false, fun _ => false, pcd0, pcd0, pcd0, pcx0⟩
def msk_b21 (b : Nat) : List Nat := []
def lp_b21 (fu : Nat) : Lp RT den (Bool) := ⟨fun b s k => none, inl0⟩
theorem ev_b21 (fu : Nat) (x_0 : S_impl_Cmd) : evFun E (pc_b21 fu) msk_b21 (lp_b21 fu) out_bo 99 [(.agg [(ii x_0.Kind), (ii x_0.Expect), (ii x_0.Name), (ii x_0.Addr), (ii x_0.Number), (ii x_0.Proto)])] = F_spec_l5Number fu x_0 := by kernel_rfl
noncomputable def body_b21 : Code := Try.f99.body.getD .skip
theorem lpok_b21 (fu : Nat) : LpOk E (pc_b21 fu) 0 msk_b21 (lp_b21 fu) (loops 0 body_b21) := lp_nil (loop_nil (by kernel_rfl)) (by kernel_rfl)
def S_b21 (fu : Nat) (xs : List (D RT den)) : Option (Out RT den) := match xs with | [.agg [.int .i64 a0_1, .int .i64 a0_2, .int .i64 a0_3, .int .i64 a0_4, .int .i64 a0_5, .int .i64 a0_6]] => some ⟨Bool, F_spec_l5Number fu (⟨a0_1, a0_2, a0_3, a0_4, a0_5, a0_6⟩ : S_impl_Cmd), enc_bo, fun _ => true⟩ | _ => none
theorem hpc_b21 (fu : Nat) : HpcOk E Try.prog (pcf_b21 fu) := by
 intro f xs o h
 unfold pcf_b21 at h
 split at h
 ·exact good_a1 fu xs o h
 ·exact good_b16 fu xs o h
 ·cases h
theorem goodv_b21 (fu : Nat) (x_0 : S_impl_Cmd) (y : Bool) (hy : F_spec_l5Number fu x_0 = some y) : Good E Try.prog 99 [(.agg [(ii x_0.Kind), (ii x_0.Expect), (ii x_0.Name), (ii x_0.Addr), (ii x_0.Number), (ii x_0.Proto)])] (enc_bo y) :=
 fun_good E_ok (pc_good (pc := pc_b21 fu) (hpc_b21 fu) hpx0) (fn := Try.f99) (by kernel_rfl) (by kernel_rfl) (by kernel_rfl) (lpok_b21 fu) (fun d hd => out_bo_enc d _ hd) ((ev_b21 fu x_0).trans hy)
theorem good_b21 (fu : Nat) : GoodS E Try.prog 99 (S_b21 fu) := by
 intro xs o h y hy
 unfold S_b21 at h
 split at h
 ·rename_i a0_1 a0_2 a0_3 a0_4 a0_5 a0_6
  cases h
  exact goodv_b21 fu (⟨a0_1, a0_2, a0_3, a0_4, a0_5, a0_6⟩ : S_impl_Cmd) y hy
 ·cases h
def F_spec_CmdFault (fu : Nat) (x_0 : S_impl_Cmd) : Option (Int) :=
 ((F_spec_l1In fu x_0.Kind 1 9).bind fun a => (bif (!a) then (some 1) else ((F_spec_l5Needs fu x_0.Kind).bind fun b => (((bif (x_0.Expect != (-1)) then
  ((F_spec_l5Version fu x_0.Expect).bind fun d => (bif (!d) then (some true) else (bif b.1 then ((F_spec_l3Name fu x_0.Name).bind fun g => (bif (!g) then (some true) else
  (bif b.2.1 then ((F_spec_l2Address fu x_0.Addr).bind fun h => (bif (!h) then (some true) else (bif b.2.2.1 then ((F_spec_l5Number fu x_0).bind fun j => (bif (!j) then
  (some true) else (bif b.2.2.2 then ((F_spec_l5Proto fu x_0.Proto).bind fun l => (some (!l))) else (some false)))) else (bif b.2.2.2 then ((F_spec_l5Proto fu x_0.Proto).bind fun n =>
  (some (!n))) else (some false))))) else (bif b.2.2.1 then ((F_spec_l5Number fu x_0).bind fun o => (bif (!o) then (some true) else (bif b.2.2.2 then
  ((F_spec_l5Proto fu x_0.Proto).bind fun p => (some (!p))) else (some false)))) else (bif b.2.2.2 then ((F_spec_l5Proto fu x_0.Proto).bind fun q => (some (!q))) else
  (some false)))))) else (bif b.2.1 then ((F_spec_l2Address fu x_0.Addr).bind fun r => (bif (!r) then (some true) else (bif b.2.2.1 then ((F_spec_l5Number fu x_0).bind fun t =>
  (bif (!t) then (some true) else (bif b.2.2.2 then ((F_spec_l5Proto fu x_0.Proto).bind fun u => (some (!u))) else (some false)))) else (bif b.2.2.2 then
  ((F_spec_l5Proto fu x_0.Proto).bind fun v => (some (!v))) else (some false))))) else (bif b.2.2.1 then ((F_spec_l5Number fu x_0).bind fun w => (bif (!w) then
  (some true) else (bif b.2.2.2 then ((F_spec_l5Proto fu x_0.Proto).bind fun y0 => (some (!y0))) else (some false)))) else (bif b.2.2.2 then ((F_spec_l5Proto fu x_0.Proto).bind fun y1 =>
  (some (!y1))) else (some false))))))) else (bif b.1 then ((F_spec_l3Name fu x_0.Name).bind fun y2 => (bif (!y2) then (some true) else (bif b.2.1 then
  ((F_spec_l2Address fu x_0.Addr).bind fun y3 => (bif (!y3) then (some true) else (bif b.2.2.1 then ((F_spec_l5Number fu x_0).bind fun y4 => (bif (!y4) then (some true) else
  (bif b.2.2.2 then ((F_spec_l5Proto fu x_0.Proto).bind fun y5 => (some (!y5))) else (some false)))) else (bif b.2.2.2 then ((F_spec_l5Proto fu x_0.Proto).bind fun y6 =>
  (some (!y6))) else (some false))))) else (bif b.2.2.1 then ((F_spec_l5Number fu x_0).bind fun y7 => (bif (!y7) then (some true) else (bif b.2.2.2 then
  ((F_spec_l5Proto fu x_0.Proto).bind fun y8 => (some (!y8))) else (some false)))) else (bif b.2.2.2 then ((F_spec_l5Proto fu x_0.Proto).bind fun y9 => (some (!y9))) else
  (some false)))))) else (bif b.2.1 then ((F_spec_l2Address fu x_0.Addr).bind fun y10 => (bif (!y10) then (some true) else (bif b.2.2.1 then ((F_spec_l5Number fu x_0).bind fun y11 =>
  (bif (!y11) then (some true) else (bif b.2.2.2 then ((F_spec_l5Proto fu x_0.Proto).bind fun y12 => (some (!y12))) else (some false)))) else (bif b.2.2.2 then
  ((F_spec_l5Proto fu x_0.Proto).bind fun y13 => (some (!y13))) else (some false))))) else (bif b.2.2.1 then ((F_spec_l5Number fu x_0).bind fun y14 => (bif (!y14) then
  (some true) else (bif b.2.2.2 then ((F_spec_l5Proto fu x_0.Proto).bind fun y15 => (some (!y15))) else (some false)))) else (bif b.2.2.2 then ((F_spec_l5Proto fu x_0.Proto).bind fun y16 =>
  (some (!y16))) else (some false)))))) : Option Bool).bind fun y17 => (bif y17 then (some 3) else (((bif (!b.1) then (bif (x_0.Name != 0) then (some true) else (bif (!b.2.1) then
  (bif (x_0.Addr != 0) then (some true) else (bif (!b.2.2.1) then (bif (x_0.Number != 0) then (some true) else (bif (!b.2.2.2) then (some (x_0.Proto != 0)) else (some false))) else
  (bif (!b.2.2.2) then (some (x_0.Proto != 0)) else (some false)))) else (bif (!b.2.2.1) then (bif (x_0.Number != 0) then (some true) else (bif (!b.2.2.2) then (some (x_0.Proto != 0)) else
  (some false))) else (bif (!b.2.2.2) then (some (x_0.Proto != 0)) else (some false))))) else (bif (!b.2.1) then (bif (x_0.Addr != 0) then (some true) else (bif (!b.2.2.1) then
  (bif (x_0.Number != 0) then (some true) else (bif (!b.2.2.2) then (some (x_0.Proto != 0)) else (some false))) else (bif (!b.2.2.2) then (some (x_0.Proto != 0)) else
  (some false)))) else (bif (!b.2.2.1) then (bif (x_0.Number != 0) then (some true) else (bif (!b.2.2.2) then (some (x_0.Proto != 0)) else (some false))) else (bif (!b.2.2.2) then
  (some (x_0.Proto != 0)) else (some false))))) : Option Bool).bind fun y18 => (bif y18 then (some 1) else (some 0))))))))
def pcf_b22 (fu f : Nat) (xs : List (D RT den)) : Option (Out RT den) := match f with | 73 => S_b12 fu xs | 91 => S_a2 fu xs | 96 => S_a1 fu xs | 97 => S_b13 fu xs | 98 => S_b14 fu xs | 99 => S_b21 fu xs | 100 => S_b17 fu xs | _ => none
def pc_b22 (fu : Nat) : Pc RT den := ⟨pcf_b22 fu, fun _ => false, fun _ => false, pcd0, pcd0, pcd0, pcx0⟩
def msk_b22 (b : Nat) : List Nat := match b with | 200004 => [62] | 200006 => [96] | _ => []
def lp_b22 (fu : Nat) : Lp RT den (Int) := ⟨fun b s k => none, inl0⟩
theorem ev_b22 (fu : Nat) (x_0 : S_impl_Cmd) : evFun E (pc_b22 fu) msk_b22 (lp_b22 fu) out_i64 49 [(.agg [(ii x_0.Kind), (ii x_0.Expect), (ii x_0.Name), (ii x_0.Addr), (ii x_0.Number), (ii x_0.Proto)])] = F_spec_CmdFault fu x_0 := by kernel_rfl
noncomputable def body_b22 : Code := Try.f49.body.getD .skip
theorem lpok_b22 (fu : Nat) : LpOk E (pc_b22 fu) 0 msk_b22 (lp_b22 fu) (loops 0 body_b22) := lp_nil (loop_nil (by kernel_rfl)) (by kernel_rfl)
def S_b22 (fu : Nat) (xs : List (D RT den)) : Option (Out RT den) := match xs with | [.agg [.int .i64 a0_1, .int .i64 a0_2, .int .i64 a0_3, .int .i64 a0_4, .int .i64 a0_5, .int .i64 a0_6]] => some ⟨Int, F_spec_CmdFault fu (⟨a0_1, a0_2, a0_3, a0_4, a0_5, a0_6⟩ : S_impl_Cmd), enc_i64, fun _ => true⟩ | _ => none
theorem hpc_b22 (fu : Nat) : HpcOk E Try.prog (pcf_b22 fu) := by
 intro f xs o h
 unfold pcf_b22 at h
 split at h
 ·exact good_b12 fu xs o h
 ·exact good_a2 fu xs o h
 ·exact good_a1 fu xs o h
 ·exact good_b13 fu xs o h
 ·exact good_b14 fu xs o h
 ·exact good_b21 fu xs o h
 ·exact good_b17 fu xs o h
 ·cases h
theorem goodv_b22 (fu : Nat) (x_0 : S_impl_Cmd) (y : Int) (hy : F_spec_CmdFault fu x_0 = some y) : Good E Try.prog 49 [(.agg [(ii x_0.Kind), (ii x_0.Expect), (ii x_0.Name), (ii x_0.Addr), (ii x_0.Number), (ii x_0.Proto)])] (enc_i64 y) :=
 fun_good E_ok (pc_good (pc := pc_b22 fu) (hpc_b22 fu) hpx0) (fn := Try.f49) (by kernel_rfl) (by kernel_rfl) (by kernel_rfl) (lpok_b22 fu) (fun d hd => out_i64_enc d _ hd) ((ev_b22 fu x_0).trans hy)
theorem good_b22 (fu : Nat) : GoodS E Try.prog 49 (S_b22 fu) := by
 intro xs o h y hy
 unfold S_b22 at h
 split at h
 ·rename_i a0_1 a0_2 a0_3 a0_4 a0_5 a0_6
  cases h
  exact goodv_b22 fu (⟨a0_1, a0_2, a0_3, a0_4, a0_5, a0_6⟩ : S_impl_Cmd) y hy
 ·cases h
def F_spec_PackCmd_H (fu : Nat) (x_0 : S_impl_Cmd) : Option (S_impl_BytesResult) :=
 ((F_spec_CmdFault fu x_0).bind fun a => (bif (a != 0) then (some (⟨a, (⟨(some true), 0, (fun _ => dflt .u8)⟩ : (Sl Int))⟩ : S_impl_BytesResult)) else ((F_spec_l6Cmd_H fu x_0).bind fun b =>
  (some (⟨0, (⟨none, b.n, b.f⟩ : (Sl Int))⟩ : S_impl_BytesResult)))))
def pcf_b23 (fu f : Nat) (xs : List (D RT den)) : Option (Out RT den) := match f with | 49 => S_b22 fu xs | _ => none
def pcx_b23 (fu f : Nat) (xs : List (D RT den)) (ins : List (Ob RT den)) : Option (OutX RT den) := match f with | 42 => S_a8 fu xs ins | _ => none
def pcd_b23 : Nat → Bool := fun _ => false
def pc_b23 (fu : Nat) : Pc RT den := ⟨pcf_b23 fu, fun f => match f with | 42 => true | _ => false, fun _ => false, pcd_b23, pcd0, pcd0, pcx_b23 fu⟩
def msk_b23 (b : Nat) : List Nat := []
def lp_b23 (fu : Nat) : Lp RT den (S_impl_BytesResult) := ⟨fun b s k => none, inl0⟩
theorem ev_b23 (fu : Nat) (x_0 : S_impl_Cmd) : evFunX E false (pc_b23 fu) msk_b23 (lp_b23 fu) out_impl_BytesResult_H 22 [(.agg [(ii x_0.Kind), (ii x_0.Expect), (ii x_0.Name), (ii x_0.Addr), (ii x_0.Number), (ii x_0.Proto)])] [] = F_spec_PackCmd_H fu x_0 := by kernel_rfl
noncomputable def body_b23 : Code := Try.f22.body.getD .skip
theorem lpok_b23 (fu : Nat) : LpOk E (pc_b23 fu) 0 msk_b23 (lp_b23 fu) (loops 0 body_b23) := lp_nil (loop_nil (by kernel_rfl)) (by kernel_rfl)
def S_b23 (fu : Nat) (xs : List (D RT den)) (ins : List (Ob RT den)) : Option (OutX RT den) := match xs, ins with | [.agg [.int .i64 a0_1, .int .i64 a0_2, .int .i64 a0_3, .int .i64 a0_4, .int .i64 a0_5, .int .i64 a0_6]], [] => some ⟨S_impl_BytesResult, F_spec_PackCmd_H fu (⟨a0_1, a0_2, a0_3, a0_4, a0_5, a0_6⟩ : S_impl_Cmd), enc_impl_BytesResult_H⟩ | _, _ => none
theorem hpc_b23 (fu : Nat) : HpcOk E Try.prog (pcf_b23 fu) := by
 intro f xs o h
 unfold pcf_b23 at h
 split at h
 ·exact good_b22 fu xs o h
 ·cases h
theorem hpx_b23 (fu : Nat) : HpxOk E Try.prog pcd_b23 pcd0 (pcx_b23 fu) := by
 intro f xs ins o h
 unfold pcx_b23 at h
 split at h
 ·exact good_a8 fu xs ins o h
 ·cases h
theorem goodv_b23 (fu : Nat) (x_0 : S_impl_Cmd) (y : S_impl_BytesResult) (hy : F_spec_PackCmd_H fu x_0 = some y) : GoodX E Try.prog 22 [(.agg [(ii x_0.Kind), (ii x_0.Expect), (ii x_0.Name), (ii x_0.Addr), (ii x_0.Number), (ii x_0.Proto)])] [] (enc_impl_BytesResult_H y).1 (enc_impl_BytesResult_H y).2 :=
 funX_good (ke := false) E_ok (pc_good (pc := pc_b23 fu) (hpc_b23 fu) (hpx_b23 fu)) (fn := Try.f22) (by kernel_rfl) (by kernel_rfl) (by kernel_rfl) (lpok_b23 fu) (by kernel_rfl) (Nat.zero_le _) (fun d os hd => out_impl_BytesResult_H_enc d os _ hd) ((ev_b23 fu x_0).trans hy)
theorem good_b23 (fu : Nat) : GoodSX E Try.prog 22 (S_b23 fu) := by
 intro xs ins o h y hy
 unfold S_b23 at h
 split at h
 ·rename_i a0_1 a0_2 a0_3 a0_4 a0_5 a0_6
  cases h
  exact goodv_b23 fu (⟨a0_1, a0_2, a0_3, a0_4, a0_5, a0_6⟩ : S_impl_Cmd) y hy
 ·cases h
def F_spec_l5Bent_M (fu : Nat) (b0_0 : (Sl Int)) (b0_1 : Int) : Option (Yg5) :=
 ((F_spec_l5Right_M fu b0_0 b0_1).bind fun a => ((F_spec_l1Next_M fu 20 a.2.2.2.1 a.2.2.2.2.1).bind fun b => (bif (b.1 == 0) then ((F_spec_l1Pick_M fu (⟨(some false),
  3, (fun i => ([(-1), 1000000, 1000001] : List (Int)).getD i (dflt .i64))⟩ : (Sl Int)) b.2.1 b.2.2).bind fun d => (some (d.1, a.2.1, a.2.2.1, d.2.1,
  d.2.2, a.2.1, a.2.2.2.2.2.2.1, a.2.2.1, a.2.2.2.2.2.2.2.2))) else (bif (b.1 == 1) then ((F_spec_l1Pick_M fu (⟨(some false), 3, (fun i => ([1, 999, 0] : List (Int)).getD i (dflt .i64))⟩ : (Sl Int)) b.2.1 b.2.2).bind fun g =>
  ((F_spec_l1Pick_M fu (⟨(some false), 2, (fun i => ([0, 10] : List (Int)).getD i (dflt .i64))⟩ : (Sl Int)) g.2.1 g.2.2).bind fun h => ((F_spec_l1Next_M fu 5 h.2.1 h.2.2).bind fun j =>
  (bif (decide ((a.2.1 + 1) ≤ 9223372036854775807) && decide ((a.2.1 + 1) * 40 ≤ 140737488355328)) then (some (a.1, (a.2.1 + 1), a.2.2.1, j.2.1, j.2.2,
  (a.2.1 + 1), (fun i => if i < a.2.1 then (a.2.2.2.2.2.2.1 i) else ((fun i => ([(⟨g.1, 0, h.1, j.1, false⟩ : S_impl_Backend)] : List (S_impl_Backend)).getD i (dflt .impl_Backend)) (i - a.2.1))),
  a.2.2.1, a.2.2.2.2.2.2.2.2)) else none)))) else (bif (b.1 == 2) then ((F_spec_l1Pick_M fu (⟨(some false), 2, (fun i => ([0, 4294967295] : List (Int)).getD i (dflt .i64))⟩ : (Sl Int)) b.2.1 b.2.2).bind fun l =>
  ((F_spec_l1Pick_M fu (⟨(some false), 2, (fun i => ([80, 65536] : List (Int)).getD i (dflt .i64))⟩ : (Sl Int)) l.2.1 l.2.2).bind fun n => ((F_spec_l1Pick_M fu (⟨(some false),
  2, (fun i => ([6, 1] : List (Int)).getD i (dflt .i64))⟩ : (Sl Int)) n.2.1 n.2.2).bind fun o => ((F_spec_l1Next_M fu 4 o.2.1 o.2.2).bind fun p => (bif (decide ((a.2.2.1 + 1) ≤ 9223372036854775807) &&
  decide ((a.2.2.1 + 1) * 48 ≤ 140737488355328)) then (some (a.1, a.2.1, (a.2.2.1 + 1), p.2.1, p.2.2, a.2.1, a.2.2.2.2.2.2.1, (a.2.2.1 + 1),
  (fun i => if i < a.2.2.1 then (a.2.2.2.2.2.2.2.2 i) else ((fun i => ([(⟨l.1, n.1, o.1, (⟨(some false), 1, (fun i => ([p.1] : List (Int)).getD i (dflt .i64))⟩ : (Sl Int))⟩ : S_impl_Vip)] : List (S_impl_Vip)).getD i (dflt .impl_Vip)) (i - a.2.2.1))))) else
  none))))) else (bif (b.1 == 3) then (some (a.1, 9, a.2.2.1, b.2.1, b.2.2, 9, (fun _ => (⟨0, 0, 0, 0, false⟩ : S_impl_Backend)), a.2.2.1,
  a.2.2.2.2.2.2.2.2)) else (some (a.1, a.2.1, a.2.2.1, b.2.1, b.2.2, a.2.1, a.2.2.2.2.2.2.1, a.2.2.1, a.2.2.2.2.2.2.2.2))))))))
def pcx_b24 (fu f : Nat) (xs : List (D RT den)) (ins : List (Ob RT den)) : Option (OutX RT den) := match f with | 46 => S_a18 fu xs ins | 89 => S_a3 fu xs ins | 90 => S_a4 fu xs ins | _ => none
def pcd_b24 : Nat → Bool := fun _ => false
def pc_b24 (fu : Nat) : Pc RT den := ⟨pcf0, fun f => match f with | 46 => true | 89 => true | 90 => true | _ => false, fun f => match f with | 46 => true | 89 => true | 90 => true | _ => false, pcd_b24, fun f => match f with | 46 => true | 89 => true | 90 => true | _ => false, pcd0, pcx_b24 fu⟩
def msk_b24 (b : Nat) : List Nat := []
def lp_b24 (fu : Nat) : Lp RT den (Yg5) := ⟨fun b s k => none, inl0⟩
def pso_b24 : List (Pat RT) := [.agg [(.int .i64), (.os 1), (.os 2)]]
def oso_b24 : List (OP RT) := [.box true [(.rs .u8), (.int .i64)], .row false .impl_Backend, .row false .impl_Vip]
def conv_b24 (r : Raw den pso_b24 oso_b24) : Yg5 := (r.1.1.1, r.1.1.2.1, r.1.1.2.2.1, r.2.1.1, r.2.1.2.1, r.2.2.1.1, r.2.2.1.2, r.2.2.2.1.1, r.2.2.2.1.2)
def enc_b24 (y : Yg5) : D RT den × List (Ob RT den) := ((.agg [(.int .i64 y.1), (.os 1 y.2.1), (.os 2 y.2.2.1)]), [(.box true [(.rs y.2.2.2.1.z .u8 y.2.2.2.1.n y.2.2.2.1.f), (.int .i64 y.2.2.2.2.1)]), (.row false .impl_Backend y.2.2.2.2.2.1 y.2.2.2.2.2.2.1), (.row false .impl_Vip y.2.2.2.2.2.2.2.1 y.2.2.2.2.2.2.2.2)])
def out_b24 (d : D RT den) (os : List (Ob RT den)) : Option (Yg5) := (unSt pso_b24 oso_b24 ⟨[d], os⟩).bind fun v => some (conv_b24 v.1)
theorem out_b24_enc (d : D RT den) (os : List (Ob RT den)) (y : Yg5) (h : out_b24 d os = some y) : d = (enc_b24 y).1 ∧ os = (enc_b24 y).2 :=
 outM (conv := conv_b24) (enc := enc_b24) (fun raw => by kernel_rfl) h
theorem ev_b24 (fu : Nat) (b0_0 : (Sl Int)) (b0_1 : Int) : evFunM E false (pc_b24 fu) msk_b24 (lp_b24 fu) out_b24 51 [(.ref 0 0)] [(.box true [(.rs b0_0.z .u8 b0_0.n b0_0.f), (ii b0_1)])] = F_spec_l5Bent_M fu b0_0 b0_1 := by kernel_rfl
noncomputable def body_b24 : Code := Try.f51.body.getD .skip
theorem lpok_b24 (fu : Nat) : LpOk E (pc_b24 fu) 0 msk_b24 (lp_b24 fu) (loops 0 body_b24) := lp_nil (loop_nil (by kernel_rfl)) (by kernel_rfl)
def S_b24 (fu : Nat) (xs : List (D RT den)) (ins : List (Ob RT den)) : Option (OutX RT den) := match xs, ins with | [.ref 0 0], [.box true [.rs za1000_0 .u8 na1000_0 fa1000_0, .int .i64 a1001_0]] => some ⟨Yg5, F_spec_l5Bent_M fu (⟨za1000_0, na1000_0, fa1000_0⟩ : (Sl Int)) a1001_0, enc_b24⟩ | _, _ => none
theorem hpx_b24 (fu : Nat) : HpxOk E Try.prog pcd_b24 pcd0 (pcx_b24 fu) := by
 intro f xs ins o h
 unfold pcx_b24 at h
 split at h
 ·exact good_a18 fu xs ins o h
 ·exact good_a3 fu xs ins o h
 ·exact good_a4 fu xs ins o h
 ·cases h
theorem goodv_b24 (fu : Nat) (b0_0 : (Sl Int)) (b0_1 : Int) (y : Yg5) (hy : F_spec_l5Bent_M fu b0_0 b0_1 = some y) : GoodX E Try.prog 51 [(.ref 0 0)] [(.box true [(.rs b0_0.z .u8 b0_0.n b0_0.f), (ii b0_1)])] (enc_b24 y).1 (enc_b24 y).2 :=
 funM_good (ke := false) E_ok (pc_good (pc := pc_b24 fu) hpc0 (hpx_b24 fu)) (fn := Try.f51) (by kernel_rfl) (by kernel_rfl) (by kernel_rfl) (lpok_b24 fu) (by kernel_rfl) (Nat.le_of_ble_eq_true (by kernel_rfl)) (fun d os hd => out_b24_enc d os _ hd) ((ev_b24 fu b0_0 b0_1).trans hy)
theorem good_b24 (fu : Nat) : GoodSX E Try.prog 51 (S_b24 fu) := by
 intro xs ins o h y hy
 unfold S_b24 at h
 split at h
 ·rename_i za1000_0 na1000_0 fa1000_0 a1001_0
  cases h
  exact goodv_b24 fu (⟨za1000_0, na1000_0, fa1000_0⟩ : (Sl Int)) a1001_0 y hy
 ·cases h
def F_spec_DrawPackConfig (fu : Nat) (code_0 : (Sl Int)) : Option (S_impl_Config) :=
 ((F_spec_l1Source_M fu code_0).bind fun a => ((F_spec_l5Bent_M fu a.1 a.2).bind fun b => (some (⟨b.1, (⟨none, b.2.1, b.2.2.2.2.2.2.1⟩ : (Sl S_impl_Backend)),
  (⟨none, b.2.2.1, b.2.2.2.2.2.2.2.2⟩ : (Sl S_impl_Vip))⟩ : S_impl_Config))))
def pcx_b25 (fu f : Nat) (xs : List (D RT den)) (ins : List (Ob RT den)) : Option (OutX RT den) := match f with | 40 => S_a0 fu xs ins | 51 => S_b24 fu xs ins | _ => none
def pcd_b25 : Nat → Bool := fun _ => false
def pc_b25 (fu : Nat) : Pc RT den := ⟨pcf0, fun f => match f with | 40 => true | 51 => true | _ => false, fun f => match f with | 40 => true | 51 => true | _ => false, pcd_b25, fun f => match f with | 51 => true | _ => false, pcd0, pcx_b25 fu⟩
def msk_b25 (b : Nat) : List Nat := []
def lp_b25 (fu : Nat) : Lp RT den (S_impl_Config) := ⟨fun b s k => none, inl0⟩
theorem ev_b25 (fu : Nat) (code_0 : (Sl Int)) : evFun E (pc_b25 fu) msk_b25 (lp_b25 fu) out_impl_Config 23 [(.rs code_0.z .u8 code_0.n code_0.f)] = F_spec_DrawPackConfig fu code_0 := by kernel_rfl
noncomputable def body_b25 : Code := Try.f23.body.getD .skip
theorem lpok_b25 (fu : Nat) : LpOk E (pc_b25 fu) 0 msk_b25 (lp_b25 fu) (loops 0 body_b25) := lp_nil (loop_nil (by kernel_rfl)) (by kernel_rfl)
def S_b25 (fu : Nat) (xs : List (D RT den)) : Option (Out RT den) := match xs with | [.rs za0_0 .u8 na0_0 fa0_0] => some ⟨S_impl_Config, F_spec_DrawPackConfig fu (⟨za0_0, na0_0, fa0_0⟩ : (Sl Int)), enc_impl_Config, fun _ => true⟩ | _ => none
theorem hpx_b25 (fu : Nat) : HpxOk E Try.prog pcd_b25 pcd0 (pcx_b25 fu) := by
 intro f xs ins o h
 unfold pcx_b25 at h
 split at h
 ·exact good_a0 fu xs ins o h
 ·exact good_b24 fu xs ins o h
 ·cases h
theorem goodv_b25 (fu : Nat) (code_0 : (Sl Int)) (y : S_impl_Config) (hy : F_spec_DrawPackConfig fu code_0 = some y) : Good E Try.prog 23 [(.rs code_0.z .u8 code_0.n code_0.f)] (enc_impl_Config y) :=
 fun_good E_ok (pc_good (pc := pc_b25 fu) hpc0 (hpx_b25 fu)) (fn := Try.f23) (by kernel_rfl) (by kernel_rfl) (by kernel_rfl) (lpok_b25 fu) (fun d hd => out_impl_Config_enc d _ hd) ((ev_b25 fu code_0).trans hy)
theorem good_b25 (fu : Nat) : GoodS E Try.prog 23 (S_b25 fu) := by
 intro xs o h y hy
 unfold S_b25 at h
 split at h
 ·rename_i za0_0 na0_0 fa0_0
  cases h
  exact goodv_b25 fu (⟨za0_0, na0_0, fa0_0⟩ : (Sl Int)) y hy
 ·cases h
def F_spec_PackConfig (fu : Nat) (c_0 : S_impl_Config) : Option (S_impl_BytesResult) :=
 ((F_spec_l5Fault fu c_0).bind fun a => (bif (a != 0) then (some (⟨a, (⟨(some true), 0, (fun _ => dflt .u8)⟩ : (Sl Int))⟩ : S_impl_BytesResult)) else
  ((F_spec_l6Config_H fu c_0).bind fun b => (some (⟨0, (⟨none, b.n, b.f⟩ : (Sl Int))⟩ : S_impl_BytesResult)))))
def pcf_b26 (fu f : Nat) (xs : List (D RT den)) : Option (Out RT den) := match f with | 32 => S_b19 fu xs | _ => none
def pcx_b26 (fu f : Nat) (xs : List (D RT den)) (ins : List (Ob RT den)) : Option (OutX RT den) := match f with | 33 => S_a19 fu xs ins | _ => none
def pcd_b26 : Nat → Bool := fun _ => false
def pc_b26 (fu : Nat) : Pc RT den := ⟨pcf_b26 fu, fun f => match f with | 33 => true | _ => false, fun _ => false, pcd_b26, pcd0, pcd0, pcx_b26 fu⟩
def msk_b26 (b : Nat) : List Nat := []
def lp_b26 (fu : Nat) : Lp RT den (S_impl_BytesResult) := ⟨fun b s k => none, inl0⟩
theorem ev_b26 (fu : Nat) (c_0 : S_impl_Config) : evFun E (pc_b26 fu) msk_b26 (lp_b26 fu) out_impl_BytesResult 24 [(.agg [(ii c_0.Version), (.rs c_0.Backends.z .impl_Backend c_0.Backends.n c_0.Backends.f), (.rs c_0.Vips.z .impl_Vip c_0.Vips.n c_0.Vips.f)])] = F_spec_PackConfig fu c_0 := by kernel_rfl
noncomputable def body_b26 : Code := Try.f24.body.getD .skip
theorem lpok_b26 (fu : Nat) : LpOk E (pc_b26 fu) 0 msk_b26 (lp_b26 fu) (loops 0 body_b26) := lp_nil (loop_nil (by kernel_rfl)) (by kernel_rfl)
def S_b26 (fu : Nat) (xs : List (D RT den)) : Option (Out RT den) := match xs with | [.agg [.int .i64 a0_1, .rs za0_2 .impl_Backend na0_2 fa0_2, .rs za0_3 .impl_Vip na0_3 fa0_3]] => some ⟨S_impl_BytesResult, F_spec_PackConfig fu (⟨a0_1, (⟨za0_2, na0_2, fa0_2⟩ : (Sl S_impl_Backend)), (⟨za0_3, na0_3, fa0_3⟩ : (Sl S_impl_Vip))⟩ : S_impl_Config), enc_impl_BytesResult, fun _ => true⟩ | _ => none
theorem hpc_b26 (fu : Nat) : HpcOk E Try.prog (pcf_b26 fu) := by
 intro f xs o h
 unfold pcf_b26 at h
 split at h
 ·exact good_b19 fu xs o h
 ·cases h
theorem hpx_b26 (fu : Nat) : HpxOk E Try.prog pcd_b26 pcd0 (pcx_b26 fu) := by
 intro f xs ins o h
 unfold pcx_b26 at h
 split at h
 ·exact good_a19 fu xs ins o h
 ·cases h
theorem goodv_b26 (fu : Nat) (c_0 : S_impl_Config) (y : S_impl_BytesResult) (hy : F_spec_PackConfig fu c_0 = some y) : Good E Try.prog 24 [(.agg [(ii c_0.Version), (.rs c_0.Backends.z .impl_Backend c_0.Backends.n c_0.Backends.f), (.rs c_0.Vips.z .impl_Vip c_0.Vips.n c_0.Vips.f)])] (enc_impl_BytesResult y) :=
 fun_good E_ok (pc_good (pc := pc_b26 fu) (hpc_b26 fu) (hpx_b26 fu)) (fn := Try.f24) (by kernel_rfl) (by kernel_rfl) (by kernel_rfl) (lpok_b26 fu) (fun d hd => out_impl_BytesResult_enc d _ hd) ((ev_b26 fu c_0).trans hy)
theorem good_b26 (fu : Nat) : GoodS E Try.prog 24 (S_b26 fu) := by
 intro xs o h y hy
 unfold S_b26 at h
 split at h
 ·rename_i a0_1 za0_2 na0_2 fa0_2 za0_3 na0_3 fa0_3
  cases h
  exact goodv_b26 fu (⟨a0_1, (⟨za0_2, na0_2, fa0_2⟩ : (Sl S_impl_Backend)), (⟨za0_3, na0_3, fa0_3⟩ : (Sl S_impl_Vip))⟩ : S_impl_Config) y hy
 ·cases h
def F_laws_lwBig (fu : Nat) (code_0 : (Sl Int)) : Option (Bool) :=
 (some (decide (((code_0.n : Nat) : Int) > 1048576)))
def pc_b27 (fu : Nat) : Pc RT den := ⟨pcf0, fun _ => false, fun _ => false, pcd0, pcd0, pcd0, pcx0⟩
def msk_b27 (b : Nat) : List Nat := []
def lp_b27 (fu : Nat) : Lp RT den (Bool) := ⟨fun b s k => none, inl0⟩
theorem ev_b27 (fu : Nat) (code_0 : (Sl Int)) : evFun E (pc_b27 fu) msk_b27 (lp_b27 fu) out_bo 14 [(.rs code_0.z .u8 code_0.n code_0.f)] = F_laws_lwBig fu code_0 := by kernel_rfl
noncomputable def body_b27 : Code := Try.f14.body.getD .skip
theorem lpok_b27 (fu : Nat) : LpOk E (pc_b27 fu) 0 msk_b27 (lp_b27 fu) (loops 0 body_b27) := lp_nil (loop_nil (by kernel_rfl)) (by kernel_rfl)
def S_b27 (fu : Nat) (xs : List (D RT den)) : Option (Out RT den) := match xs with | [.rs za0_0 .u8 na0_0 fa0_0] => some ⟨Bool, F_laws_lwBig fu (⟨za0_0, na0_0, fa0_0⟩ : (Sl Int)), enc_bo, fun _ => true⟩ | _ => none
theorem goodv_b27 (fu : Nat) (code_0 : (Sl Int)) (y : Bool) (hy : F_laws_lwBig fu code_0 = some y) : Good E Try.prog 14 [(.rs code_0.z .u8 code_0.n code_0.f)] (enc_bo y) :=
 fun_good E_ok (pc_good (pc := pc_b27 fu) hpc0 hpx0) (fn := Try.f14) (by kernel_rfl) (by kernel_rfl) (by kernel_rfl) (lpok_b27 fu) (fun d hd => out_bo_enc d _ hd) ((ev_b27 fu code_0).trans hy)
theorem good_b27 (fu : Nat) : GoodS E Try.prog 14 (S_b27 fu) := by
 intro xs o h y hy
 unfold S_b27 at h
 split at h
 ·rename_i za0_0 na0_0 fa0_0
  cases h
  exact goodv_b27 fu (⟨za0_0, na0_0, fa0_0⟩ : (Sl Int)) y hy
 ·cases h
def F_impl_UnpackCmd (fu : Nat) (data_0 : (Sl Int)) : Option (S_impl_CmdResult) :=
 (bif (((data_0.n : Nat) : Int) != 14) then (some (⟨5, (⟨0, 0, 0, 0, 0, 0⟩ : S_impl_Cmd)⟩ : S_impl_CmdResult)) else ((bif (decide (0 ≤ (0 : Int)) && decide ((Int.toNat 0) < data_0.n)) then
  some () else none : Option Unit).bind fun _ => ((bif (decide ((1 : Int) ≤ 5) && decide ((Int.toNat 5) ≤ data_0.n)) then some () else none : Option Unit).bind fun _ =>
  ((F_impl_number fu (⟨data_0.z, ((Int.toNat 5) - 1), (fun i => data_0.f (1 + i))⟩ : (Sl Int))).bind fun a => ((bif (decide ((5 : Int) ≤ 7) && decide ((Int.toNat 7) ≤ data_0.n)) then
  some () else none : Option Unit).bind fun _ => ((F_impl_number fu (⟨data_0.z, ((Int.toNat 7) - 5), (fun i => data_0.f (5 + i))⟩ : (Sl Int))).bind fun b => ((bif (decide ((7 : Int) ≤ 11) &&
  decide ((Int.toNat 11) ≤ data_0.n)) then some () else none : Option Unit).bind fun _ => ((F_impl_number fu (⟨data_0.z, ((Int.toNat 11) - 7), (fun i => data_0.f (7 + i))⟩ : (Sl Int))).bind fun d =>
  ((bif (decide ((11 : Int) ≤ 13) && decide ((Int.toNat 13) ≤ data_0.n)) then some () else none : Option Unit).bind fun _ => ((F_impl_number fu (⟨data_0.z, ((Int.toNat 13) - 11),
  (fun i => data_0.f (11 + i))⟩ : (Sl Int))).bind fun g => ((bif (decide (0 ≤ (13 : Int)) && decide ((Int.toNat 13) < data_0.n)) then some () else none : Option Unit).bind fun _ =>
  ((F_impl_CmdFault fu (⟨(IntKind.wrap .i64 (data_0.f (Int.toNat 0))), (IntKind.wrap .i64 (a - 1)), b, d, g, (IntKind.wrap .i64 (data_0.f (Int.toNat 13)))⟩ : S_impl_Cmd)).bind fun h =>
  (bif (h != 0) then (some (⟨5, (⟨0, 0, 0, 0, 0, 0⟩ : S_impl_Cmd)⟩ : S_impl_CmdResult)) else (some (⟨0, (⟨(IntKind.wrap .i64 (data_0.f (Int.toNat 0))), (IntKind.wrap .i64 (a - 1)),
  b, d, g, (IntKind.wrap .i64 (data_0.f (Int.toNat 13)))⟩ : S_impl_Cmd)⟩ : S_impl_CmdResult)))))))))))))))
def pcf_b28 (fu f : Nat) (xs : List (D RT den)) : Option (Out RT den) := match f with | 44 => S_a21 fu xs | 45 => S_b7 fu xs | _ => none
def pc_b28 (fu : Nat) : Pc RT den := ⟨pcf_b28 fu, fun _ => false, fun _ => false, pcd0, pcd0, pcd0, pcx0⟩
def msk_b28 (b : Nat) : List Nat := []
def lp_b28 (fu : Nat) : Lp RT den (S_impl_CmdResult) := ⟨fun b s k => none, inl0⟩
theorem ev_b28 (fu : Nat) (data_0 : (Sl Int)) : evFun E (pc_b28 fu) msk_b28 (lp_b28 fu) out_impl_CmdResult 16 [(.rs data_0.z .u8 data_0.n data_0.f)] = F_impl_UnpackCmd fu data_0 := by kernel_rfl
noncomputable def body_b28 : Code := Try.f16.body.getD .skip
theorem lpok_b28 (fu : Nat) : LpOk E (pc_b28 fu) 0 msk_b28 (lp_b28 fu) (loops 0 body_b28) := lp_nil (loop_nil (by kernel_rfl)) (by kernel_rfl)
def S_b28 (fu : Nat) (xs : List (D RT den)) : Option (Out RT den) := match xs with | [.rs za0_0 .u8 na0_0 fa0_0] => some ⟨S_impl_CmdResult, F_impl_UnpackCmd fu (⟨za0_0, na0_0, fa0_0⟩ : (Sl Int)), enc_impl_CmdResult, fun _ => true⟩ | _ => none
theorem hpc_b28 (fu : Nat) : HpcOk E Try.prog (pcf_b28 fu) := by
 intro f xs o h
 unfold pcf_b28 at h
 split at h
 ·exact good_a21 fu xs o h
 ·exact good_b7 fu xs o h
 ·cases h
theorem goodv_b28 (fu : Nat) (data_0 : (Sl Int)) (y : S_impl_CmdResult) (hy : F_impl_UnpackCmd fu data_0 = some y) : Good E Try.prog 16 [(.rs data_0.z .u8 data_0.n data_0.f)] (enc_impl_CmdResult y) :=
 fun_good E_ok (pc_good (pc := pc_b28 fu) (hpc_b28 fu) hpx0) (fn := Try.f16) (by kernel_rfl) (by kernel_rfl) (by kernel_rfl) (lpok_b28 fu) (fun d hd => out_impl_CmdResult_enc d _ hd) ((ev_b28 fu data_0).trans hy)
theorem good_b28 (fu : Nat) : GoodS E Try.prog 16 (S_b28 fu) := by
 intro xs o h y hy
 unfold S_b28 at h
 split at h
 ·rename_i za0_0 na0_0 fa0_0
  cases h
  exact goodv_b28 fu (⟨za0_0, na0_0, fa0_0⟩ : (Sl Int)) y hy
 ·cases h
def F_spec_UnpackCmd (fu : Nat) (data_0 : (Sl Int)) : Option (S_impl_CmdResult) :=
 (bif (((data_0.n : Nat) : Int) != 14) then (some (⟨5, (⟨0, 0, 0, 0, 0, 0⟩ : S_impl_Cmd)⟩ : S_impl_CmdResult)) else ((bif (decide (0 ≤ (0 : Int)) && decide ((Int.toNat 0) < data_0.n)) then
  some () else none : Option Unit).bind fun _ => ((F_spec_l1Take fu data_0 1 4).bind fun a => ((F_spec_l1Take fu data_0 5 2).bind fun b => ((F_spec_l1Take fu data_0 7 4).bind fun d =>
  ((F_spec_l1Take fu data_0 11 2).bind fun g => ((bif (decide (0 ≤ (13 : Int)) && decide ((Int.toNat 13) < data_0.n)) then some () else none : Option Unit).bind fun _ =>
  ((F_spec_CmdFault fu (⟨(IntKind.wrap .i64 (data_0.f (Int.toNat 0))), (IntKind.wrap .i64 (a - 1)), b, d, g, (IntKind.wrap .i64 (data_0.f (Int.toNat 13)))⟩ : S_impl_Cmd)).bind fun h =>
  (bif (h != 0) then (some (⟨5, (⟨0, 0, 0, 0, 0, 0⟩ : S_impl_Cmd)⟩ : S_impl_CmdResult)) else (some (⟨0, (⟨(IntKind.wrap .i64 (data_0.f (Int.toNat 0))), (IntKind.wrap .i64 (a - 1)),
  b, d, g, (IntKind.wrap .i64 (data_0.f (Int.toNat 13)))⟩ : S_impl_Cmd)⟩ : S_impl_CmdResult)))))))))))
def pcf_b29 (fu f : Nat) (xs : List (D RT den)) : Option (Out RT den) := match f with | 48 => S_b10 fu xs | 49 => S_b22 fu xs | _ => none
def pc_b29 (fu : Nat) : Pc RT den := ⟨pcf_b29 fu, fun _ => false, fun _ => false, pcd0, pcd0, pcd0, pcx0⟩
def msk_b29 (b : Nat) : List Nat := []
def lp_b29 (fu : Nat) : Lp RT den (S_impl_CmdResult) := ⟨fun b s k => none, inl0⟩
theorem ev_b29 (fu : Nat) (data_0 : (Sl Int)) : evFun E (pc_b29 fu) msk_b29 (lp_b29 fu) out_impl_CmdResult 19 [(.rs data_0.z .u8 data_0.n data_0.f)] = F_spec_UnpackCmd fu data_0 := by kernel_rfl
noncomputable def body_b29 : Code := Try.f19.body.getD .skip
theorem lpok_b29 (fu : Nat) : LpOk E (pc_b29 fu) 0 msk_b29 (lp_b29 fu) (loops 0 body_b29) := lp_nil (loop_nil (by kernel_rfl)) (by kernel_rfl)
def S_b29 (fu : Nat) (xs : List (D RT den)) : Option (Out RT den) := match xs with | [.rs za0_0 .u8 na0_0 fa0_0] => some ⟨S_impl_CmdResult, F_spec_UnpackCmd fu (⟨za0_0, na0_0, fa0_0⟩ : (Sl Int)), enc_impl_CmdResult, fun _ => true⟩ | _ => none
theorem hpc_b29 (fu : Nat) : HpcOk E Try.prog (pcf_b29 fu) := by
 intro f xs o h
 unfold pcf_b29 at h
 split at h
 ·exact good_b10 fu xs o h
 ·exact good_b22 fu xs o h
 ·cases h
theorem goodv_b29 (fu : Nat) (data_0 : (Sl Int)) (y : S_impl_CmdResult) (hy : F_spec_UnpackCmd fu data_0 = some y) : Good E Try.prog 19 [(.rs data_0.z .u8 data_0.n data_0.f)] (enc_impl_CmdResult y) :=
 fun_good E_ok (pc_good (pc := pc_b29 fu) (hpc_b29 fu) hpx0) (fn := Try.f19) (by kernel_rfl) (by kernel_rfl) (by kernel_rfl) (lpok_b29 fu) (fun d hd => out_impl_CmdResult_enc d _ hd) ((ev_b29 fu data_0).trans hy)
theorem good_b29 (fu : Nat) : GoodS E Try.prog 19 (S_b29 fu) := by
 intro xs o h y hy
 unfold S_b29 at h
 split at h
 ·rename_i za0_0 na0_0 fa0_0
  cases h
  exact goodv_b29 fu (⟨za0_0, na0_0, fa0_0⟩ : (Sl Int)) y hy
 ·cases h
def F_spec_l5BentCmd_M (fu : Nat) (b0_0 : (Sl Int)) (b0_1 : Int) : Option (Yg0) :=
 ((F_spec_l5Cmd_M fu b0_0 b0_1).bind fun a => ((F_spec_l1Next_M fu 18 a.2.2.2.2.2.2.1 a.2.2.2.2.2.2.2).bind fun b => (bif (b.1 == 0) then ((F_spec_l1Next_M fu 9 b.2.1 b.2.2).bind fun d =>
  ((F_spec_l1Pick_M fu (⟨(some false), 3, (fun i => ([0, 10, (IntKind.wrap .i64 (1 + d.1))] : List (Int)).getD i (dflt .i64))⟩ : (Sl Int)) d.2.1 d.2.2).bind fun g =>
  (some (g.1, a.2.1, a.2.2.1, a.2.2.2.1, a.2.2.2.2.1, a.2.2.2.2.2.1, g.2.1, g.2.2)))) else (bif (b.1 == 1) then ((F_spec_l1Pick_M fu (⟨(some false),
  4, (fun i => ([(-2), 1000000, 1000001, 3] : List (Int)).getD i (dflt .i64))⟩ : (Sl Int)) b.2.1 b.2.2).bind fun h => (some (a.1, h.1, a.2.2.1,
  a.2.2.2.1, a.2.2.2.2.1, a.2.2.2.2.2.1, h.2.1, h.2.2))) else (bif (b.1 == 2) then ((F_spec_l1Pick_M fu (⟨(some false), 3, (fun i => ([0, 1000, 7] : List (Int)).getD i (dflt .i64))⟩ : (Sl Int)) b.2.1 b.2.2).bind fun j =>
  (some (a.1, a.2.1, j.1, a.2.2.2.1, a.2.2.2.2.1, a.2.2.2.2.2.1, j.2.1, j.2.2))) else (bif (b.1 == 3) then ((F_spec_l1Pick_M fu (⟨(some false),
  3, (fun i => ([(-1), 4294967296, 7] : List (Int)).getD i (dflt .i64))⟩ : (Sl Int)) b.2.1 b.2.2).bind fun l => (some (a.1, a.2.1, a.2.2.1, l.1,
  a.2.2.2.2.1, a.2.2.2.2.2.1, l.2.1, l.2.2))) else (bif (b.1 == 4) then ((F_spec_l1Pick_M fu (⟨(some false), 4, (fun i => ([(-1), 65536, 10, 0] : List (Int)).getD i (dflt .i64))⟩ : (Sl Int)) b.2.1 b.2.2).bind fun n =>
  (some (a.1, a.2.1, a.2.2.1, a.2.2.2.1, n.1, a.2.2.2.2.2.1, n.2.1, n.2.2))) else (bif (b.1 == 5) then ((F_spec_l1Pick_M fu (⟨(some false), 3,
  (fun i => ([1, 0, 17] : List (Int)).getD i (dflt .i64))⟩ : (Sl Int)) b.2.1 b.2.2).bind fun o => (some (a.1, a.2.1, a.2.2.1, a.2.2.2.1,
  a.2.2.2.2.1, o.1, o.2.1, o.2.2))) else (some (a.1, a.2.1, a.2.2.1, a.2.2.2.1, a.2.2.2.2.1, a.2.2.2.2.2.1, b.2.1, b.2.2))))))))))
def pcx_b30 (fu f : Nat) (xs : List (D RT den)) (ins : List (Ob RT den)) : Option (OutX RT den) := match f with | 43 => S_a6 fu xs ins | 89 => S_a3 fu xs ins | 90 => S_a4 fu xs ins | _ => none
def pcd_b30 : Nat → Bool := fun _ => false
def pc_b30 (fu : Nat) : Pc RT den := ⟨pcf0, fun f => match f with | 43 => true | 89 => true | 90 => true | _ => false, fun f => match f with | 43 => true | 89 => true | 90 => true | _ => false, pcd_b30, fun f => match f with | 43 => true | 89 => true | 90 => true | _ => false, pcd0, pcx_b30 fu⟩
def msk_b30 (b : Nat) : List Nat := []
def lp_b30 (fu : Nat) : Lp RT den (Yg0) := ⟨fun b s k => none, inl0⟩
def pso_b30 : List (Pat RT) := [.agg [(.int .i64), (.int .i64), (.int .i64), (.int .i64), (.int .i64), (.int .i64)]]
def oso_b30 : List (OP RT) := [.box true [(.rs .u8), (.int .i64)]]
def conv_b30 (r : Raw den pso_b30 oso_b30) : Yg0 := (r.1.1.1, r.1.1.2.1, r.1.1.2.2.1, r.1.1.2.2.2.1, r.1.1.2.2.2.2.1, (e5 r.1.1).1, r.2.1.1, r.2.1.2.1)
def enc_b30 (y : Yg0) : D RT den × List (Ob RT den) := ((.agg [(.int .i64 y.1), (.int .i64 y.2.1), (.int .i64 y.2.2.1), (.int .i64 y.2.2.2.1), (.int .i64 y.2.2.2.2.1), (.int .i64 y.2.2.2.2.2.1)]), [(.box true [(.rs y.2.2.2.2.2.2.1.z .u8 y.2.2.2.2.2.2.1.n y.2.2.2.2.2.2.1.f), (.int .i64 y.2.2.2.2.2.2.2)])])
def out_b30 (d : D RT den) (os : List (Ob RT den)) : Option (Yg0) := (unSt pso_b30 oso_b30 ⟨[d], os⟩).bind fun v => some (conv_b30 v.1)
theorem out_b30_enc (d : D RT den) (os : List (Ob RT den)) (y : Yg0) (h : out_b30 d os = some y) : d = (enc_b30 y).1 ∧ os = (enc_b30 y).2 :=
 outM (conv := conv_b30) (enc := enc_b30) (fun raw => by kernel_rfl) h
theorem ev_b30 (fu : Nat) (b0_0 : (Sl Int)) (b0_1 : Int) : evFunM E false (pc_b30 fu) msk_b30 (lp_b30 fu) out_b30 50 [(.ref 0 0)] [(.box true [(.rs b0_0.z .u8 b0_0.n b0_0.f), (ii b0_1)])] = F_spec_l5BentCmd_M fu b0_0 b0_1 := by kernel_rfl
noncomputable def body_b30 : Code := Try.f50.body.getD .skip
theorem lpok_b30 (fu : Nat) : LpOk E (pc_b30 fu) 0 msk_b30 (lp_b30 fu) (loops 0 body_b30) := lp_nil (loop_nil (by kernel_rfl)) (by kernel_rfl)
def S_b30 (fu : Nat) (xs : List (D RT den)) (ins : List (Ob RT den)) : Option (OutX RT den) := match xs, ins with | [.ref 0 0], [.box true [.rs za1000_0 .u8 na1000_0 fa1000_0, .int .i64 a1001_0]] => some ⟨Yg0, F_spec_l5BentCmd_M fu (⟨za1000_0, na1000_0, fa1000_0⟩ : (Sl Int)) a1001_0, enc_b30⟩ | _, _ => none
theorem hpx_b30 (fu : Nat) : HpxOk E Try.prog pcd_b30 pcd0 (pcx_b30 fu) := by
 intro f xs ins o h
 unfold pcx_b30 at h
 split at h
 ·exact good_a6 fu xs ins o h
 ·exact good_a3 fu xs ins o h
 ·exact good_a4 fu xs ins o h
 ·cases h
theorem goodv_b30 (fu : Nat) (b0_0 : (Sl Int)) (b0_1 : Int) (y : Yg0) (hy : F_spec_l5BentCmd_M fu b0_0 b0_1 = some y) : GoodX E Try.prog 50 [(.ref 0 0)] [(.box true [(.rs b0_0.z .u8 b0_0.n b0_0.f), (ii b0_1)])] (enc_b30 y).1 (enc_b30 y).2 :=
 funM_good (ke := false) E_ok (pc_good (pc := pc_b30 fu) hpc0 (hpx_b30 fu)) (fn := Try.f50) (by kernel_rfl) (by kernel_rfl) (by kernel_rfl) (lpok_b30 fu) (by kernel_rfl) (Nat.le_of_ble_eq_true (by kernel_rfl)) (fun d os hd => out_b30_enc d os _ hd) ((ev_b30 fu b0_0 b0_1).trans hy)
theorem good_b30 (fu : Nat) : GoodSX E Try.prog 50 (S_b30 fu) := by
 intro xs ins o h y hy
 unfold S_b30 at h
 split at h
 ·rename_i za1000_0 na1000_0 fa1000_0 a1001_0
  cases h
  exact goodv_b30 fu (⟨za1000_0, na1000_0, fa1000_0⟩ : (Sl Int)) a1001_0 y hy
 ·cases h
def F_spec_DrawPackCmd (fu : Nat) (code_0 : (Sl Int)) : Option (S_impl_Cmd) :=
 ((F_spec_l1Source_M fu code_0).bind fun a => ((F_spec_l5BentCmd_M fu a.1 a.2).bind fun b => (some (⟨b.1, b.2.1, b.2.2.1, b.2.2.2.1,
  b.2.2.2.2.1, b.2.2.2.2.2.1⟩ : S_impl_Cmd))))
def pcx_b31 (fu f : Nat) (xs : List (D RT den)) (ins : List (Ob RT den)) : Option (OutX RT den) := match f with | 40 => S_a0 fu xs ins | 50 => S_b30 fu xs ins | _ => none
def pcd_b31 : Nat → Bool := fun _ => false
def pc_b31 (fu : Nat) : Pc RT den := ⟨pcf0, fun f => match f with | 40 => true | 50 => true | _ => false, fun f => match f with | 40 => true | 50 => true | _ => false, pcd_b31, fun f => match f with | 50 => true | _ => false, pcd0, pcx_b31 fu⟩
def msk_b31 (b : Nat) : List Nat := []
def lp_b31 (fu : Nat) : Lp RT den (S_impl_Cmd) := ⟨fun b s k => none, inl0⟩
theorem ev_b31 (fu : Nat) (code_0 : (Sl Int)) : evFun E (pc_b31 fu) msk_b31 (lp_b31 fu) out_impl_Cmd 21 [(.rs code_0.z .u8 code_0.n code_0.f)] = F_spec_DrawPackCmd fu code_0 := by kernel_rfl
noncomputable def body_b31 : Code := Try.f21.body.getD .skip
theorem lpok_b31 (fu : Nat) : LpOk E (pc_b31 fu) 0 msk_b31 (lp_b31 fu) (loops 0 body_b31) := lp_nil (loop_nil (by kernel_rfl)) (by kernel_rfl)
def S_b31 (fu : Nat) (xs : List (D RT den)) : Option (Out RT den) := match xs with | [.rs za0_0 .u8 na0_0 fa0_0] => some ⟨S_impl_Cmd, F_spec_DrawPackCmd fu (⟨za0_0, na0_0, fa0_0⟩ : (Sl Int)), enc_impl_Cmd, fun _ => true⟩ | _ => none
theorem hpx_b31 (fu : Nat) : HpxOk E Try.prog pcd_b31 pcd0 (pcx_b31 fu) := by
 intro f xs ins o h
 unfold pcx_b31 at h
 split at h
 ·exact good_a0 fu xs ins o h
 ·exact good_b30 fu xs ins o h
 ·cases h
theorem goodv_b31 (fu : Nat) (code_0 : (Sl Int)) (y : S_impl_Cmd) (hy : F_spec_DrawPackCmd fu code_0 = some y) : Good E Try.prog 21 [(.rs code_0.z .u8 code_0.n code_0.f)] (enc_impl_Cmd y) :=
 fun_good E_ok (pc_good (pc := pc_b31 fu) hpc0 (hpx_b31 fu)) (fn := Try.f21) (by kernel_rfl) (by kernel_rfl) (by kernel_rfl) (lpok_b31 fu) (fun d hd => out_impl_Cmd_enc d _ hd) ((ev_b31 fu code_0).trans hy)
theorem good_b31 (fu : Nat) : GoodS E Try.prog 21 (S_b31 fu) := by
 intro xs o h y hy
 unfold S_b31 at h
 split at h
 ·rename_i za0_0 na0_0 fa0_0
  cases h
  exact goodv_b31 fu (⟨za0_0, na0_0, fa0_0⟩ : (Sl Int)) y hy
 ·cases h
end Go.Proofs.Ytcmfekgdlaffkaa.Pq
