/- The functions' evaluated forms, each a proved summary. Conditions: none. -/
import Derived.Test.YtcmfekgdlaffkaaGreatDoorPxF2
namespace Go.Proofs.YtcmfekgdlaffkaaGreatDoor.Px
open Go Go.RowKit Go.Proofs Vm
set_option linter.unusedVariables false
set_option linter.unusedSimpArgs false
set_option maxRecDepth 100000
abbrev Yd0 : Type := Int × (Sl S_impl_Backend) × (Sl S_impl_Vip) × (Sl Int) × Int
def F_spec_MuxText_B0 {ρ : Type} (fu : Nat) (o0_2 : Int) (o0_3 : ByteArray) (o1_4 o1_5 : Int) (o1_6 : Bool) (o1_7 : Int) (o1_8 : (Sl S_impl_Backend)) (o1_9 : (Sl S_impl_Vip)) (o1_10 : (Sl (Sl Int))) (o1_11 : (Sl S_impl_Held)) (k0 : ByteArray → Option ρ) (out4_0 : ByteArray) (i5_1 : Int) (go : ByteArray → Int → Option ρ) : Option ρ :=
 (bif (decide (i5_1 < ((o1_11.n : Nat) : Int))) then ((bif (decide (0 ≤ i5_1) && decide ((Int.toNat i5_1) < o1_11.n)) then some () else none : Option Unit).bind fun _ =>
  ((F_spec_l2Text fu (o1_11.f (Int.toNat i5_1)).Flow.From).bind fun y159 => ((bif (decide (ByteArray.size (⟨#[104, 101, 108, 100, 32]⟩ : ByteArray) + ByteArray.size y159 ≤ 9223372036854775807)) then
  some () else none : Option Unit).bind fun _ => ((F_spec_l5Line fu ((⟨#[104, 101, 108, 100, 32]⟩ : ByteArray) ++ y159) (⟨(some false), 3, (fun i => ([(o1_11.f (Int.toNat i5_1)).Flow.FromP,
  (o1_11.f (Int.toNat i5_1)).Name, (o1_11.f (Int.toNat i5_1)).Seen] : List (Int)).getD i (dflt .i64))⟩ : (Sl Int))).bind fun y160 => ((bif (decide (ByteArray.size out4_0 + ByteArray.size y160 ≤ 9223372036854775807)) then
  some () else none : Option Unit).bind fun _ => (go (out4_0 ++ y160) (IntKind.wrap .i64 (i5_1 + 1)))))))) else (k0 out4_0))
def F_spec_MuxText (fu : Nat) (m_0 : S_impl_Mux) : Option (S_impl_TextResult) :=
 ((F_spec_l14Fault fu m_0).bind fun y155 => (bif (y155 != 0) then (some (⟨y155, (⟨#[]⟩ : ByteArray)⟩ : S_impl_TextResult)) else ((F_spec_l2Text fu m_0.Address).bind fun y156 =>
  ((bif (decide (ByteArray.size (⟨#[109, 117, 120, 32]⟩ : ByteArray) + ByteArray.size y156 ≤ 9223372036854775807)) then some () else none : Option Unit).bind fun _ =>
  ((F_spec_l5Line fu (⟨#[]⟩ : ByteArray) (⟨(some false), 1, (fun i => ([m_0.Now] : List (Int)).getD i (dflt .i64))⟩ : (Sl Int))).bind fun y157 => ((bif (decide (ByteArray.size ((⟨#[109,
  117, 120, 32]⟩ : ByteArray) ++ y156) + ByteArray.size y157 ≤ 9223372036854775807)) then some () else none : Option Unit).bind fun _ => (bif m_0.Watch.Ready then ((F_spec_l5Line fu (⟨#[118,
  101, 114, 115, 105, 111, 110]⟩ : ByteArray) (⟨(some false), 1, (fun i => ([m_0.Watch.Config.Version] : List (Int)).getD i (dflt .i64))⟩ : (Sl Int))).bind fun y158 => ((bif (decide (ByteArray.size (((⟨#[109,
  117, 120, 32]⟩ : ByteArray) ++ y156) ++ y157) + ByteArray.size y158 ≤ 9223372036854775807)) then some () else none : Option Unit).bind fun _ => (L (fun w0 go0 =>
  F_spec_MuxText_B0 fu 0 (⟨#[]⟩ : ByteArray) m_0.Address m_0.Now m_0.Watch.Ready m_0.Watch.Config.Version m_0.Watch.Config.Backends m_0.Watch.Config.Vips m_0.Tables m_0.Cache (fun z161 =>
  (some (⟨0, z161⟩ : S_impl_TextResult))) w0.1 w0.2 (fun q0 q1 => go0 (q0, q1))) fu ((((((⟨#[109, 117, 120, 32]⟩ : ByteArray) ++ y156) ++ y157) ++ y158), 0) : ByteArray × Int)))) else
  ((bif (decide (ByteArray.size (((⟨#[109, 117, 120, 32]⟩ : ByteArray) ++ y156) ++ y157) + ByteArray.size (⟨#[101, 109, 112, 116, 121, 10]⟩ : ByteArray) ≤ 9223372036854775807)) then
  some () else none : Option Unit).bind fun _ => (L (fun w0 go0 => F_spec_MuxText_B0 fu 0 (⟨#[]⟩ : ByteArray) m_0.Address m_0.Now m_0.Watch.Ready m_0.Watch.Config.Version m_0.Watch.Config.Backends m_0.Watch.Config.Vips m_0.Tables m_0.Cache (fun z162 =>
  (some (⟨0, z162⟩ : S_impl_TextResult))) w0.1 w0.2 (fun q0 q1 => go0 (q0, q1))) fu ((((((⟨#[109, 117, 120, 32]⟩ : ByteArray) ++ y156) ++ y157) ++ (⟨#[101, 109, 112, 116, 121,
  10]⟩ : ByteArray)), 0) : ByteArray × Int))))))))))
def pcf_b17 (fu f : Nat) (xs : List (D RT den)) : Option (Out RT den) := match f with | 13 => S_b12 fu xs | 14 => S_b15 fu xs | 15 => S_b16 fu xs | _ => none
def pc_b17 (fu : Nat) : Pc RT den := ⟨pcf_b17 fu, fun _ => false, fun _ => false, pcd0, pcd0, pcd0, pcx0⟩
def msk_b17 (b : Nat) : List Nat := match b with | 0 => (0 :: 3 :: (rg 6 58 [])) | 100000 => (0 :: 1 :: 3 :: (rg 5 59 [])) | _ => []
def ps_b17_0 : List (Pat RT) := (.flat .q :: .flat (.ref 1 0) :: .flat (.ref 0 0) :: .flat .q :: .flat .str :: .flat (.int .i64) :: (fq 58 []))
def os_b17_0 : List (OP RT) := [.box false [(.int .i64), .str], .box false [(.int .i64), (.int .i64), .bool, (.int .i64), (.rs .impl_Backend), (.rs .impl_Vip), (.rs .sl_i64), (.rs .impl_Held)]]
def conv_b17_0 (r : Raw den ps_b17_0 os_b17_0) : (Int × ByteArray × Int × Int × Bool × Int × (Sl S_impl_Backend) × (Sl S_impl_Vip) × (Sl (Sl Int)) × (Sl S_impl_Held)) × (ByteArray × Int) := ((r.2.1.1, r.2.1.2.1, r.2.2.1.1, r.2.2.1.2.1, r.2.2.1.2.2.1, r.2.2.1.2.2.2.1, r.2.2.1.2.2.2.2.1, (e5 r.2.2.1).1, (e5 r.2.2.1).2.1, (e5 r.2.2.1).2.2.1), (r.1.2.2.2.2.1, (e5 r.1).1))
def back_b17_0 (c : Int × ByteArray × Int × Int × Bool × Int × (Sl S_impl_Backend) × (Sl S_impl_Vip) × (Sl (Sl Int)) × (Sl S_impl_Held)) (w : ByteArray × Int) : St RT den := ⟨(.q :: (.ref 1 0) :: (.ref 0 0) :: .q :: (.str w.1) :: (ii w.2) :: (qs 58 [])), [(.box false [(ii c.1), (.str c.2.1)]), (.box false [(ii c.2.2.1), (ii c.2.2.2.1), (.bool c.2.2.2.2.1), (ii (e5 c).1), (.rs (e5 c).2.1.z .impl_Backend (e5 c).2.1.n (e5 c).2.1.f), (.rs (e5 c).2.2.1.z .impl_Vip (e5 c).2.2.1.n (e5 c).2.2.1.f), (.rs (e5 c).2.2.2.1.z .sl_i64 (e5 c).2.2.2.1.n (e5 c).2.2.2.1.f), (.rs (e5 c).2.2.2.2.z .impl_Held (e5 c).2.2.2.2.n (e5 c).2.2.2.2.f)])]⟩
def Bk_b17_0 {ρ : Type} (fu : Nat) (c : Int × ByteArray × Int × Int × Bool × Int × (Sl S_impl_Backend) × (Sl S_impl_Vip) × (Sl (Sl Int)) × (Sl S_impl_Held)) (k : Ex → St RT den → Option ρ) (w : ByteArray × Int) (go : (ByteArray × Int) → Option ρ) : Option ρ := F_spec_MuxText_B0 fu c.1 c.2.1 c.2.2.1 c.2.2.2.1 c.2.2.2.2.1 (e5 c).1 (e5 c).2.1 (e5 c).2.2.1 (e5 c).2.2.2.1 (e5 c).2.2.2.2 (fun a0 => k (.exit 0) ⟨(.q :: .q :: (.ref 0 0) :: .q :: (.str a0) :: (qs 59 [])), [(.box false [(ii c.1), (.str c.2.1)]), (.box false [(ii c.2.2.1), (ii c.2.2.2.1), (.bool c.2.2.2.2.1), (ii (e5 c).1), (.rs (e5 c).2.1.z .impl_Backend (e5 c).2.1.n (e5 c).2.1.f), (.rs (e5 c).2.2.1.z .impl_Vip (e5 c).2.2.1.n (e5 c).2.2.1.f), (.rs (e5 c).2.2.2.1.z .sl_i64 (e5 c).2.2.2.1.n (e5 c).2.2.2.1.f), (.rs (e5 c).2.2.2.2.z .impl_Held (e5 c).2.2.2.2.n (e5 c).2.2.2.2.f)])]⟩) w.1 w.2 (fun q0 q1 => go (q0, q1))
def lp_b17 (fu : Nat) : Lp RT den (S_impl_TextResult) := ⟨fun b s k => match b with | 0 => handle ps_b17_0 os_b17_0 conv_b17_0 (Bk_b17_0 fu) fu s k | _ => none, inl0⟩
theorem ev_b17 (fu : Nat) (m_0 : S_impl_Mux) : evFun E (pc_b17 fu) msk_b17 (lp_b17 fu) out_impl_TextResult 5 [(.agg [(ii m_0.Address), (ii m_0.Now), (.bool m_0.Watch.Ready), (ii m_0.Watch.Config.Version), (.rs m_0.Watch.Config.Backends.z .impl_Backend m_0.Watch.Config.Backends.n m_0.Watch.Config.Backends.f), (.rs m_0.Watch.Config.Vips.z .impl_Vip m_0.Watch.Config.Vips.n m_0.Watch.Config.Vips.f), (.rs m_0.Tables.z .sl_i64 m_0.Tables.n m_0.Tables.f), (.rs m_0.Cache.z .impl_Held m_0.Cache.n m_0.Cache.f)])] = F_spec_MuxText fu m_0 := by kernel_rfl
noncomputable def body_b17 : Code := Tryz.f5.body.getD .skip
noncomputable def lc_b17_0 : Code := ((loops 0 body_b17).getD 0 (0, .skip)).2
theorem round_b17_0 (fu : Nat) : RoundOk E (pc_b17 fu) msk_b17 (lp_b17 fu) 0 lc_b17_0 back_b17_0 0 100000 2 (Bk_b17_0 fu) := fun it k c w => by kernel_rfl
theorem lpok_b17_0 (fu : Nat) : LpAt E (pc_b17 fu) msk_b17 (lp_b17 fu) 0 0 100000 0 lc_b17_0 :=
 handle_ok (ps := ps_b17_0) (os := os_b17_0) (conv := conv_b17_0) (B := Bk_b17_0 fu) (fu := fu) back_b17_0 (fun raw => by kernel_rfl) 2 (fun c w => by kernel_rfl) (round_b17_0 fu)
theorem lpok_b17 (fu : Nat) : LpOk E (pc_b17 fu) 0 msk_b17 (lp_b17 fu) (loops 0 body_b17) := lp_nil (loop_all 1 (by kernel_rfl) fun i hi => match i, hi with
 | 0, _ => by
  have h : (loops 0 body_b17).getD 0 (0, .skip) = (0, lc_b17_0) := by kernel_rfl
  rw [h]; exact lpok_b17_0 fu
 | i + 1, hi => absurd hi (by omega)) (by kernel_rfl)
def S_b17 (fu : Nat) (xs : List (D RT den)) : Option (Out RT den) := match xs with | [.agg [.int .i64 a0_1, .int .i64 a0_2, .bool a0_4, .int .i64 a0_6, .rs za0_7 .impl_Backend na0_7 fa0_7, .rs za0_8 .impl_Vip na0_8 fa0_8, .rs za0_9 .sl_i64 na0_9 fa0_9, .rs za0_10 .impl_Held na0_10 fa0_10]] => some ⟨S_impl_TextResult, F_spec_MuxText fu (⟨a0_1, a0_2, (⟨a0_4, (⟨a0_6, (⟨za0_7, na0_7, fa0_7⟩ : (Sl S_impl_Backend)), (⟨za0_8, na0_8, fa0_8⟩ : (Sl S_impl_Vip))⟩ : S_impl_Config)⟩ : S_impl_Watch), (⟨za0_9, na0_9, fa0_9⟩ : (Sl (Sl Int))), (⟨za0_10, na0_10, fa0_10⟩ : (Sl S_impl_Held))⟩ : S_impl_Mux), enc_impl_TextResult, fun _ => true⟩ | _ => none
theorem hpc_b17 (fu : Nat) : HpcOk E Tryz.prog (pcf_b17 fu) := by
 intro f xs o h
 unfold pcf_b17 at h
 split at h
 ·exact good_b12 fu xs o h
 ·exact good_b15 fu xs o h
 ·exact good_b16 fu xs o h
 ·cases h
theorem goodv_b17 (fu : Nat) (m_0 : S_impl_Mux) (y : S_impl_TextResult) (hy : F_spec_MuxText fu m_0 = some y) : Vm.Good E Tryz.prog 5 [(.agg [(ii m_0.Address), (ii m_0.Now), (.bool m_0.Watch.Ready), (ii m_0.Watch.Config.Version), (.rs m_0.Watch.Config.Backends.z .impl_Backend m_0.Watch.Config.Backends.n m_0.Watch.Config.Backends.f), (.rs m_0.Watch.Config.Vips.z .impl_Vip m_0.Watch.Config.Vips.n m_0.Watch.Config.Vips.f), (.rs m_0.Tables.z .sl_i64 m_0.Tables.n m_0.Tables.f), (.rs m_0.Cache.z .impl_Held m_0.Cache.n m_0.Cache.f)])] (enc_impl_TextResult y) :=
 fun_good E_ok (pc_good (pc := pc_b17 fu) (hpc_b17 fu) hpx0) (fn := Tryz.f5) (by kernel_rfl) (by kernel_rfl) (by kernel_rfl) (lpok_b17 fu) (fun d hd => out_impl_TextResult_enc d _ hd) ((ev_b17 fu m_0).trans hy)
theorem good_b17 (fu : Nat) : GoodS E Tryz.prog 5 (S_b17 fu) := by
 intro xs o h y hy
 unfold S_b17 at h
 split at h
 ·rename_i a0_1 a0_2 a0_4 a0_6 za0_7 na0_7 fa0_7 za0_8 na0_8 fa0_8 za0_9 na0_9 fa0_9 za0_10 na0_10 fa0_10
  cases h
  exact goodv_b17 fu (⟨a0_1, a0_2, (⟨a0_4, (⟨a0_6, (⟨za0_7, na0_7, fa0_7⟩ : (Sl S_impl_Backend)), (⟨za0_8, na0_8, fa0_8⟩ : (Sl S_impl_Vip))⟩ : S_impl_Config)⟩ : S_impl_Watch), (⟨za0_9, na0_9, fa0_9⟩ : (Sl (Sl Int))), (⟨za0_10, na0_10, fa0_10⟩ : (Sl S_impl_Held))⟩ : S_impl_Mux) y hy
 ·cases h
def F_impl_Config_backend_c1 (fu : Nat) (b_0 : S_impl_Backend) (x_1_1 : Int) : Option (Bool) :=
 (some (b_0.Name == x_1_1))
def pc_b18 (fu : Nat) : Pc RT den := ⟨pcf0, fun _ => false, fun _ => false, pcd0, pcd0, pcd0, pcx0⟩
def msk_b18 (b : Nat) : List Nat := []
def lp_b18 (fu : Nat) : Lp RT den (Bool) := ⟨fun b s k => none, inl0⟩
theorem ev_b18 (fu : Nat) (b_0 : S_impl_Backend) (x_1_1 : Int) : evFun E (pc_b18 fu) msk_b18 (lp_b18 fu) out_bo 102 [(.agg [(ii b_0.Name), (ii b_0.Address), (ii b_0.Weight), (ii b_0.Stage), (.bool b_0.Up)]), (.rptr [(ii x_1_1)])] = F_impl_Config_backend_c1 fu b_0 x_1_1 := by kernel_rfl
noncomputable def body_b18 : Code := Tryz.f102.body.getD .skip
theorem lpok_b18 (fu : Nat) : LpOk E (pc_b18 fu) 0 msk_b18 (lp_b18 fu) (loops 0 body_b18) := lp_nil (loop_nil (by kernel_rfl)) (by kernel_rfl)
def S_b18 (fu : Nat) (xs : List (D RT den)) : Option (Out RT den) := match xs with | [.agg [.int .i64 a0_1, .int .i64 a0_2, .int .i64 a0_3, .int .i64 a0_4, .bool a0_5], .rptr [.int .i64 a1_0]] => some ⟨Bool, F_impl_Config_backend_c1 fu (⟨a0_1, a0_2, a0_3, a0_4, a0_5⟩ : S_impl_Backend) a1_0, enc_bo, fun _ => true⟩ | _ => none
theorem goodv_b18 (fu : Nat) (b_0 : S_impl_Backend) (x_1_1 : Int) (y : Bool) (hy : F_impl_Config_backend_c1 fu b_0 x_1_1 = some y) : Vm.Good E Tryz.prog 102 [(.agg [(ii b_0.Name), (ii b_0.Address), (ii b_0.Weight), (ii b_0.Stage), (.bool b_0.Up)]), (.rptr [(ii x_1_1)])] (enc_bo y) :=
 fun_good E_ok (pc_good (pc := pc_b18 fu) hpc0 hpx0) (fn := Tryz.f102) (by kernel_rfl) (by kernel_rfl) (by kernel_rfl) (lpok_b18 fu) (fun d hd => out_bo_enc d _ hd) ((ev_b18 fu b_0 x_1_1).trans hy)
theorem good_b18 (fu : Nat) : GoodS E Tryz.prog 102 (S_b18 fu) := by
 intro xs o h y hy
 unfold S_b18 at h
 split at h
 ·rename_i a0_1 a0_2 a0_3 a0_4 a0_5 a1_0
  cases h
  exact goodv_b18 fu (⟨a0_1, a0_2, a0_3, a0_4, a0_5⟩ : S_impl_Backend) a1_0 y hy
 ·cases h
def F_slices_IndexFunc_impl_Backend_impl_Backend_w_impl_Config_backend_c1_B0 {ρ : Type} (fu : Nat) (s0_0 : (Sl S_impl_Backend)) (f1_1 t7_2 : Int) (k0 : Int → Option ρ) (k1 : Option ρ) (t8_3 : Int) (go : Int → Option ρ) : Option ρ :=
 (bif (decide (t8_3 < t7_2)) then ((bif (decide (0 ≤ t8_3) && decide ((Int.toNat t8_3) < s0_0.n)) then some () else none : Option Unit).bind fun _ => ((F_impl_Config_backend_c1 fu (s0_0.f (Int.toNat t8_3)) f1_1).bind fun y185 =>
  (bif y185 then (k0 t8_3) else (go (IntKind.wrap .i64 (t8_3 + 1)))))) else k1)
def F_slices_IndexFunc_impl_Backend_impl_Backend_w_impl_Config_backend_c1 (fu : Nat) (s_0 : (Sl S_impl_Backend)) (f_1_1 : Int) : Option (Int) :=
 (L (fun w0 go0 => F_slices_IndexFunc_impl_Backend_impl_Backend_w_impl_Config_backend_c1_B0 fu s_0 f_1_1 ((s_0.n : Nat) : Int) (fun z186 => (some z186)) (some (-1)) w0 go0) fu (0 : Int))
def pcf_b19 (fu f : Nat) (xs : List (D RT den)) : Option (Out RT den) := match f with | 102 => S_b18 fu xs | _ => none
def pc_b19 (fu : Nat) : Pc RT den := ⟨pcf_b19 fu, fun _ => false, fun _ => false, pcd0, pcd0, pcd0, pcx0⟩
def msk_b19 (b : Nat) : List Nat := match b with | 0 => (rg 2 5 (rg 9 10 [])) | 100000 => (0 :: 1 :: 2 :: 3 :: (rg 5 14 [])) | _ => []
def ps_b19_0 : List (Pat RT) := (.flat (.rs .impl_Backend) :: .fn 102 [.rptr [(.int .i64)]] :: (fq 5 (.flat (.int .i64) :: .flat (.int .i64) :: (fq 10 []))))
def os_b19_0 : List (OP RT) := []
def conv_b19_0 (r : Raw den ps_b19_0 os_b19_0) : ((Sl S_impl_Backend) × Int × Int) × (Int) := ((r.1.1, r.1.2.1.1.1, (e5 r.1).2.2.1), (e5 r.1).2.2.2.1)
def back_b19_0 (c : (Sl S_impl_Backend) × Int × Int) (w : Int) : St RT den := ⟨((.rs c.1.z .impl_Backend c.1.n c.1.f) :: (.fn 102 [(.rptr [(ii c.2.1)])]) :: (qs 5 ((ii c.2.2) :: (ii w) :: (qs 10 [])))), []⟩
def Bk_b19_0 {ρ : Type} (fu : Nat) (c : (Sl S_impl_Backend) × Int × Int) (k : Ex → St RT den → Option ρ) (w : Int) (go : (Int) → Option ρ) : Option ρ := F_slices_IndexFunc_impl_Backend_impl_Backend_w_impl_Config_backend_c1_B0 fu c.1 c.2.1 c.2.2 (fun a0 => k .ret ⟨(qs 4 ((ii a0) :: (qs 14 []))), []⟩) (k (.exit 0) ⟨(qs 19 []), []⟩) w go
def lp_b19 (fu : Nat) : Lp RT den (Int) := ⟨fun b s k => match b with | 0 => handle ps_b19_0 os_b19_0 conv_b19_0 (Bk_b19_0 fu) fu s k | _ => none, inl0⟩
theorem ev_b19 (fu : Nat) (s_0 : (Sl S_impl_Backend)) (f_1_1 : Int) : evFun E (pc_b19 fu) msk_b19 (lp_b19 fu) out_i64 101 [(.rs s_0.z .impl_Backend s_0.n s_0.f), (.fn 102 [(.rptr [(ii f_1_1)])])] = F_slices_IndexFunc_impl_Backend_impl_Backend_w_impl_Config_backend_c1 fu s_0 f_1_1 := by kernel_rfl
noncomputable def body_b19 : Code := Tryz.f101.body.getD .skip
noncomputable def lc_b19_0 : Code := ((loops 0 body_b19).getD 0 (0, .skip)).2
theorem round_b19_0 (fu : Nat) : RoundOk E (pc_b19 fu) msk_b19 (lp_b19 fu) 0 lc_b19_0 back_b19_0 0 100000 0 (Bk_b19_0 fu) := fun it k c w => by kernel_rfl
theorem lpok_b19_0 (fu : Nat) : LpAt E (pc_b19 fu) msk_b19 (lp_b19 fu) 0 0 100000 0 lc_b19_0 :=
 handle_ok (ps := ps_b19_0) (os := os_b19_0) (conv := conv_b19_0) (B := Bk_b19_0 fu) (fu := fu) back_b19_0 (fun raw => by kernel_rfl) 0 (fun c w => by kernel_rfl) (round_b19_0 fu)
theorem lpok_b19 (fu : Nat) : LpOk E (pc_b19 fu) 0 msk_b19 (lp_b19 fu) (loops 0 body_b19) := lp_nil (loop_all 1 (by kernel_rfl) fun i hi => match i, hi with
 | 0, _ => by
  have h : (loops 0 body_b19).getD 0 (0, .skip) = (0, lc_b19_0) := by kernel_rfl
  rw [h]; exact lpok_b19_0 fu
 | i + 1, hi => absurd hi (by omega)) (by kernel_rfl)
def S_b19 (fu : Nat) (xs : List (D RT den)) : Option (Out RT den) := match xs with | [.rs za0_0 .impl_Backend na0_0 fa0_0, .fn 102 [.rptr [.int .i64 a1_0]]] => some ⟨Int, F_slices_IndexFunc_impl_Backend_impl_Backend_w_impl_Config_backend_c1 fu (⟨za0_0, na0_0, fa0_0⟩ : (Sl S_impl_Backend)) a1_0, enc_i64, fun _ => true⟩ | _ => none
theorem hpc_b19 (fu : Nat) : HpcOk E Tryz.prog (pcf_b19 fu) := by
 intro f xs o h
 unfold pcf_b19 at h
 split at h
 ·exact good_b18 fu xs o h
 ·cases h
theorem goodv_b19 (fu : Nat) (s_0 : (Sl S_impl_Backend)) (f_1_1 y : Int) (hy : F_slices_IndexFunc_impl_Backend_impl_Backend_w_impl_Config_backend_c1 fu s_0 f_1_1 = some y) : Vm.Good E Tryz.prog 101 [(.rs s_0.z .impl_Backend s_0.n s_0.f), (.fn 102 [(.rptr [(ii f_1_1)])])] (enc_i64 y) :=
 fun_good E_ok (pc_good (pc := pc_b19 fu) (hpc_b19 fu) hpx0) (fn := Tryz.f101) (by kernel_rfl) (by kernel_rfl) (by kernel_rfl) (lpok_b19 fu) (fun d hd => out_i64_enc d _ hd) ((ev_b19 fu s_0 f_1_1).trans hy)
theorem good_b19 (fu : Nat) : GoodS E Tryz.prog 101 (S_b19 fu) := by
 intro xs o h y hy
 unfold S_b19 at h
 split at h
 ·rename_i za0_0 na0_0 fa0_0 a1_0
  cases h
  exact goodv_b19 fu (⟨za0_0, na0_0, fa0_0⟩ : (Sl S_impl_Backend)) a1_0 y hy
 ·cases h
def F_impl_Config_backend (fu : Nat) (c_0 : S_impl_Config) (name_1 : Int) : Option (Int) :=
 ((F_slices_IndexFunc_impl_Backend_impl_Backend_w_impl_Config_backend_c1 fu c_0.Backends name_1).bind fun y184 => (some y184))
def pcf_b20 (fu f : Nat) (xs : List (D RT den)) : Option (Out RT den) := match f with | 101 => S_b19 fu xs | _ => none
def pc_b20 (fu : Nat) : Pc RT den := ⟨pcf_b20 fu, fun _ => false, fun _ => false, pcd0, pcd0, pcd0, pcx0⟩
def msk_b20 (b : Nat) : List Nat := []
def lp_b20 (fu : Nat) : Lp RT den (Int) := ⟨fun b s k => none, inl0⟩
theorem ev_b20 (fu : Nat) (c_0 : S_impl_Config) (name_1 : Int) : evFun E (pc_b20 fu) msk_b20 (lp_b20 fu) out_i64 72 [(.rptr [(ii c_0.Version), (.rs c_0.Backends.z .impl_Backend c_0.Backends.n c_0.Backends.f), (.rs c_0.Vips.z .impl_Vip c_0.Vips.n c_0.Vips.f)]), (ii name_1)] = F_impl_Config_backend fu c_0 name_1 := by kernel_rfl
noncomputable def body_b20 : Code := Tryz.f72.body.getD .skip
theorem lpok_b20 (fu : Nat) : LpOk E (pc_b20 fu) 0 msk_b20 (lp_b20 fu) (loops 0 body_b20) := lp_nil (loop_nil (by kernel_rfl)) (by kernel_rfl)
def S_b20 (fu : Nat) (xs : List (D RT den)) : Option (Out RT den) := match xs with | [.rptr (.int .i64 a0_1 :: .rs za0_2 .impl_Backend na0_2 fa0_2 :: .rs za0_3 .impl_Vip na0_3 fa0_3 :: ra0), .int .i64 a1_0] => some ⟨Int, F_impl_Config_backend fu (⟨a0_1, (⟨za0_2, na0_2, fa0_2⟩ : (Sl S_impl_Backend)), (⟨za0_3, na0_3, fa0_3⟩ : (Sl S_impl_Vip))⟩ : S_impl_Config) a1_0, enc_i64, fun _ => true⟩ | _ => none
theorem hpc_b20 (fu : Nat) : HpcOk E Tryz.prog (pcf_b20 fu) := by
 intro f xs o h
 unfold pcf_b20 at h
 split at h
 ·exact good_b19 fu xs o h
 ·cases h
theorem goodv_b20 (fu : Nat) (c_0 : S_impl_Config) (name_1 y : Int) (hy : F_impl_Config_backend fu c_0 name_1 = some y) : Vm.Good E Tryz.prog 72 [(.rptr [(ii c_0.Version), (.rs c_0.Backends.z .impl_Backend c_0.Backends.n c_0.Backends.f), (.rs c_0.Vips.z .impl_Vip c_0.Vips.n c_0.Vips.f)]), (ii name_1)] (enc_i64 y) :=
 fun_good E_ok (pc_good (pc := pc_b20 fu) (hpc_b20 fu) hpx0) (fn := Tryz.f72) (by kernel_rfl) (by kernel_rfl) (by kernel_rfl) (lpok_b20 fu) (fun d hd => out_i64_enc d _ hd) ((ev_b20 fu c_0 name_1).trans hy)
theorem good_b20 (fu : Nat) : GoodS E Tryz.prog 72 (S_b20 fu) := by
 intro xs o h y hy
 unfold S_b20 at h
 split at h
 ·rename_i a0_1 za0_2 na0_2 fa0_2 za0_3 na0_3 fa0_3 ra0 a1_0
  cases h
  exact (goodv_b20 fu (⟨a0_1, (⟨za0_2, na0_2, fa0_2⟩ : (Sl S_impl_Backend)), (⟨za0_3, na0_3, fa0_3⟩ : (Sl S_impl_Vip))⟩ : S_impl_Config) a1_0 y hy).sub ⟨Sub.of_eq ra0 rfl, .refl _, trivial⟩
 ·cases h
def F_impl_Config_shares_B0 {ρ : Type} (fu : Nat) (c0_0 : Int) (c0_1 : (Sl S_impl_Backend)) (c0_2 : (Sl S_impl_Vip)) (t17_4 : (Sl Int)) (t18_5 : Int) (k0 : Nat → Nat → (Nat → S_impl_Share) → Option ρ) (out5_3 : Nat) (t19_6 : Int) (on0_7 : Nat) (of0_8 : (Nat → S_impl_Share)) (go : Nat → Int → Nat → (Nat → S_impl_Share) → Option ρ) : Option ρ :=
 (bif (decide (t19_6 < t18_5)) then ((bif (decide (0 ≤ t19_6) && decide ((Int.toNat t19_6) < t17_4.n)) then some () else none : Option Unit).bind fun _ => ((F_impl_Config_backend fu (⟨c0_0,
  c0_1, c0_2⟩ : S_impl_Config) (t17_4.f (Int.toNat t19_6))).bind fun y179 => ((bif (decide (0 ≤ y179) && decide ((Int.toNat y179) < c0_1.n)) then some () else none : Option Unit).bind fun _ =>
  (((bif (c0_1.f (Int.toNat y179)).Up then (some ((c0_1.f (Int.toNat y179)).Stage == 1)) else (some false)) : Option Bool).bind fun m180 => (bif m180 then (bif (decide ((out5_3 + 1) ≤ 9223372036854775807) &&
  decide ((out5_3 + 1) * 16 ≤ 140737488355328)) then (go (out5_3 + 1) (IntKind.wrap .i64 (t19_6 + 1)) (out5_3 + 1) (fun i => if i < out5_3 then (of0_8 i) else ((fun i =>
  ([(⟨(t17_4.f (Int.toNat t19_6)), (c0_1.f (Int.toNat y179)).Weight⟩ : S_impl_Share)] : List (S_impl_Share)).getD i (dflt .impl_Share)) (i - out5_3)))) else none) else (go out5_3 (IntKind.wrap .i64 (t19_6 + 1)) on0_7 of0_8)))))) else
  (k0 out5_3 on0_7 of0_8))
def F_impl_Config_shares (fu : Nat) (c_0 : S_impl_Config) (vip_1 : Int) : Option ((Sl S_impl_Share)) :=
 ((bif (decide (0 ≤ vip_1) && decide ((Int.toNat vip_1) < c_0.Vips.n)) then some () else none : Option Unit).bind fun _ => (L (fun w0 go0 => F_impl_Config_shares_B0 fu c_0.Version c_0.Backends c_0.Vips ((c_0.Vips.f (Int.toNat vip_1)).Names) (((c_0.Vips.f (Int.toNat vip_1)).Names.n : Nat) : Int) (fun z181 z182 z183 =>
  (some (⟨none, z181, z183⟩ : (Sl S_impl_Share)))) w0.1 w0.2.1 w0.2.2.1 w0.2.2.2 (fun q0 q1 q2 q3 => go0 (q0, q1, q2, q3))) fu ((0, 0, 0, (fun _ => dflt .impl_Share)) : Nat × Int × Nat × (Nat → S_impl_Share))))
def pcf_b21 (fu f : Nat) (xs : List (D RT den)) : Option (Out RT den) := match f with | 72 => S_b20 fu xs | _ => none
def pc_b21 (fu : Nat) : Pc RT den := ⟨pcf_b21 fu, fun _ => false, fun _ => false, pcd0, pcd0, pcd0, pcx0⟩
def msk_b21 (b : Nat) : List Nat := match b with | 0 => (1 :: 2 :: 3 :: 4 :: (rg 6 11 (rg 20 28 []))) | 100000 => (0 :: 1 :: 2 :: 3 :: (rg 6 42 [])) | 200006 => [38] | 300000 => [5] | _ => []
def ps_b21_0 : List (Pat RT) := (.rptr [(.int .i64), (.rs .impl_Backend), (.rs .impl_Vip)] :: (fq 4 (.flat (.os 0) :: (fq 11 (.flat (.rs .i64) :: .flat (.int .i64) :: .flat (.int .i64) :: (fq 28 []))))))
def os_b21_0 : List (OP RT) := [.row false .impl_Share]
def conv_b21_0 (r : Raw den ps_b21_0 os_b21_0) : (Yd0) × (Nat × Int × Nat × (Nat → S_impl_Share)) := ((r.1.1.1, r.1.1.2.1, r.1.1.2.2.1, (e5 (e10 r.1)).2.2.1, (e5 (e10 r.1)).2.2.2.1), ((e5 r.1).1, (e5 (e10 r.1)).2.2.2.2.1, r.2.1.1, r.2.1.2))
def back_b21_0 (c : Yd0) (w : Nat × Int × Nat × (Nat → S_impl_Share)) : St RT den := ⟨((.rptr [(ii c.1), (.rs c.2.1.z .impl_Backend c.2.1.n c.2.1.f), (.rs c.2.2.1.z .impl_Vip c.2.2.1.n c.2.2.1.f)]) :: (qs 4 ((.os 0 w.1) :: (qs 11 ((.rs c.2.2.2.1.z .i64 c.2.2.2.1.n c.2.2.2.1.f) :: (ii c.2.2.2.2) :: (ii w.2.1) :: (qs 28 [])))))), [(.row false .impl_Share w.2.2.1 w.2.2.2)]⟩
def Bk_b21_0 {ρ : Type} (fu : Nat) (c : Yd0) (k : Ex → St RT den → Option ρ) (w : Nat × Int × Nat × (Nat → S_impl_Share)) (go : (Nat × Int × Nat × (Nat → S_impl_Share)) → Option ρ) : Option ρ := F_impl_Config_shares_B0 fu c.1 c.2.1 c.2.2.1 c.2.2.2.1 c.2.2.2.2 (fun a0 a1 a2 => k (.exit 0) ⟨(qs 5 ((.os 0 a0) :: (qs 42 []))), [(.row false .impl_Share a1 a2)]⟩) w.1 w.2.1 w.2.2.1 w.2.2.2 (fun q0 q1 q2 q3 => go (q0, q1, q2, q3))
def lp_b21 (fu : Nat) : Lp RT den ((Sl S_impl_Share)) := ⟨fun b s k => match b with | 0 => handle ps_b21_0 os_b21_0 conv_b21_0 (Bk_b21_0 fu) fu s k | _ => none, inl0⟩
theorem ev_b21 (fu : Nat) (c_0 : S_impl_Config) (vip_1 : Int) : evFun E (pc_b21 fu) msk_b21 (lp_b21 fu) out_sl_impl_Share 69 [(.rptr [(ii c_0.Version), (.rs c_0.Backends.z .impl_Backend c_0.Backends.n c_0.Backends.f), (.rs c_0.Vips.z .impl_Vip c_0.Vips.n c_0.Vips.f)]), (ii vip_1)] = F_impl_Config_shares fu c_0 vip_1 := by kernel_rfl
noncomputable def body_b21 : Code := Tryz.f69.body.getD .skip
noncomputable def lc_b21_0 : Code := ((loops 0 body_b21).getD 0 (0, .skip)).2
theorem round_b21_0 (fu : Nat) : RoundOk E (pc_b21 fu) msk_b21 (lp_b21 fu) 0 lc_b21_0 back_b21_0 0 100000 1 (Bk_b21_0 fu) := fun it k c w => by kernel_rfl
theorem lpok_b21_0 (fu : Nat) : LpAt E (pc_b21 fu) msk_b21 (lp_b21 fu) 0 0 100000 0 lc_b21_0 :=
 handle_ok (ps := ps_b21_0) (os := os_b21_0) (conv := conv_b21_0) (B := Bk_b21_0 fu) (fu := fu) back_b21_0 (fun raw => by kernel_rfl) 1 (fun c w => by kernel_rfl) (round_b21_0 fu)
theorem lpok_b21 (fu : Nat) : LpOk E (pc_b21 fu) 0 msk_b21 (lp_b21 fu) (loops 0 body_b21) := lp_nil (loop_all 1 (by kernel_rfl) fun i hi => match i, hi with
 | 0, _ => by
  have h : (loops 0 body_b21).getD 0 (0, .skip) = (0, lc_b21_0) := by kernel_rfl
  rw [h]; exact lpok_b21_0 fu
 | i + 1, hi => absurd hi (by omega)) (by kernel_rfl)
def S_b21 (fu : Nat) (xs : List (D RT den)) : Option (Out RT den) := match xs with | [.rptr (.int .i64 a0_1 :: .rs za0_2 .impl_Backend na0_2 fa0_2 :: .rs za0_3 .impl_Vip na0_3 fa0_3 :: ra0), .int .i64 a1_0] => some ⟨(Sl S_impl_Share), F_impl_Config_shares fu (⟨a0_1, (⟨za0_2, na0_2, fa0_2⟩ : (Sl S_impl_Backend)), (⟨za0_3, na0_3, fa0_3⟩ : (Sl S_impl_Vip))⟩ : S_impl_Config) a1_0, enc_sl_impl_Share, fun _ => true⟩ | _ => none
theorem hpc_b21 (fu : Nat) : HpcOk E Tryz.prog (pcf_b21 fu) := by
 intro f xs o h
 unfold pcf_b21 at h
 split at h
 ·exact good_b20 fu xs o h
 ·cases h
theorem goodv_b21 (fu : Nat) (c_0 : S_impl_Config) (vip_1 : Int) (y : (Sl S_impl_Share)) (hy : F_impl_Config_shares fu c_0 vip_1 = some y) : Vm.Good E Tryz.prog 69 [(.rptr [(ii c_0.Version), (.rs c_0.Backends.z .impl_Backend c_0.Backends.n c_0.Backends.f), (.rs c_0.Vips.z .impl_Vip c_0.Vips.n c_0.Vips.f)]), (ii vip_1)] (enc_sl_impl_Share y) :=
 fun_good E_ok (pc_good (pc := pc_b21 fu) (hpc_b21 fu) hpx0) (fn := Tryz.f69) (by kernel_rfl) (by kernel_rfl) (by kernel_rfl) (lpok_b21 fu) (fun d hd => out_sl_impl_Share_enc d _ hd) ((ev_b21 fu c_0 vip_1).trans hy)
theorem good_b21 (fu : Nat) : GoodS E Tryz.prog 69 (S_b21 fu) := by
 intro xs o h y hy
 unfold S_b21 at h
 split at h
 ·rename_i a0_1 za0_2 na0_2 fa0_2 za0_3 na0_3 fa0_3 ra0 a1_0
  cases h
  exact (goodv_b21 fu (⟨a0_1, (⟨za0_2, na0_2, fa0_2⟩ : (Sl S_impl_Backend)), (⟨za0_3, na0_3, fa0_3⟩ : (Sl S_impl_Vip))⟩ : S_impl_Config) a1_0 y hy).sub ⟨Sub.of_eq ra0 rfl, .refl _, trivial⟩
 ·cases h
def F_impl_rest (fu : Nat) (n_0 by_1 : Int) : Option (Int) :=
 ((bif (!decide (by_1 = 0)) then some () else none : Option Unit).bind fun _ => ((bif (!decide (by_1 = 0)) then some () else none : Option Unit).bind fun _ => (some (Int.tmod (IntKind.wrap .i64 ((Int.tmod n_0 by_1) + by_1)) by_1))))
def pc_b22 (fu : Nat) : Pc RT den := ⟨pcf0, fun _ => false, fun _ => false, pcd0, pcd0, pcd0, pcx0⟩
def msk_b22 (b : Nat) : List Nat := []
def lp_b22 (fu : Nat) : Lp RT den (Int) := ⟨fun b s k => none, inl0⟩
theorem ev_b22 (fu : Nat) (n_0 by_1 : Int) : evFun E (pc_b22 fu) msk_b22 (lp_b22 fu) out_i64 134 [(ii n_0), (ii by_1)] = F_impl_rest fu n_0 by_1 := by kernel_rfl
noncomputable def body_b22 : Code := Tryz.f134.body.getD .skip
theorem lpok_b22 (fu : Nat) : LpOk E (pc_b22 fu) 0 msk_b22 (lp_b22 fu) (loops 0 body_b22) := lp_nil (loop_nil (by kernel_rfl)) (by kernel_rfl)
def S_b22 (fu : Nat) (xs : List (D RT den)) : Option (Out RT den) := match xs with | [.int .i64 a0_0, .int .i64 a1_0] => some ⟨Int, F_impl_rest fu a0_0 a1_0, enc_i64, fun _ => true⟩ | _ => none
theorem goodv_b22 (fu : Nat) (n_0 by_1 y : Int) (hy : F_impl_rest fu n_0 by_1 = some y) : Vm.Good E Tryz.prog 134 [(ii n_0), (ii by_1)] (enc_i64 y) :=
 fun_good E_ok (pc_good (pc := pc_b22 fu) hpc0 hpx0) (fn := Tryz.f134) (by kernel_rfl) (by kernel_rfl) (by kernel_rfl) (lpok_b22 fu) (fun d hd => out_i64_enc d _ hd) ((ev_b22 fu n_0 by_1).trans hy)
theorem good_b22 (fu : Nat) : GoodS E Tryz.prog 134 (S_b22 fu) := by
 intro xs o h y hy
 unfold S_b22 at h
 split at h
 ·rename_i a0_0 a1_0
  cases h
  exact goodv_b22 fu a0_0 a1_0 y hy
 ·cases h
def F_impl_MixNumber_B0 {ρ : Type} (fu : Nat) (k0 : Int → Option ρ) (n0_0 h5_1 t11_2 : Int) (go : Int → Int → Int → Option ρ) : Option ρ :=
 (bif (decide (t11_2 < 4)) then (go (IntKind.wrap .i64 (Int.tdiv n0_0 256)) (Int.tmod (IntKind.wrap .i64 ((IntKind.wrap .i64 ((IntKind.wrap .i64 (h5_1 * 131)) + (Int.tmod n0_0 256))) + 1)) 1000003) (IntKind.wrap .i64 (t11_2 + 1))) else
  (k0 h5_1))
def F_impl_MixNumber (fu : Nat) (n_0 salt_1 : Int) : Option (Int) :=
 ((F_impl_rest fu salt_1 10007).bind fun y196 => ((F_impl_rest fu n_0 4294967296).bind fun y197 => (L (fun w0 go0 => F_impl_MixNumber_B0 fu  (fun z198 => (some z198)) w0.1 w0.2.1 w0.2.2 (fun q0 q1 q2 =>
  go0 (q0, q1, q2))) fu ((y197, (IntKind.wrap .i64 (y196 + 11)), 0) : Int × Int × Int))))
def pcf_b23 (fu f : Nat) (xs : List (D RT den)) : Option (Out RT den) := match f with | 134 => S_b22 fu xs | _ => none
def pc_b23 (fu : Nat) : Pc RT den := ⟨pcf_b23 fu, fun _ => false, fun _ => false, pcd0, pcd0, pcd0, pcx0⟩
def msk_b23 (b : Nat) : List Nat := match b with | 0 => (1 :: 2 :: 3 :: 4 :: (rg 6 5 (rg 12 12 []))) | 100000 => (0 :: 1 :: 2 :: 3 :: (rg 6 18 [])) | _ => []
def ps_b23_0 : List (Pat RT) := (.flat (.int .i64) :: (fq 4 (.flat (.int .i64) :: (fq 5 (.flat (.int .i64) :: (fq 12 []))))))
def os_b23_0 : List (OP RT) := []
def conv_b23_0 (r : Raw den ps_b23_0 os_b23_0) : (Unit) × (Int × Int × Int) := ((), (r.1.1, (e5 r.1).1, (e10 r.1).2.1))
def back_b23_0 (c : Unit) (w : Int × Int × Int) : St RT den := ⟨((ii w.1) :: (qs 4 ((ii w.2.1) :: (qs 5 ((ii w.2.2) :: (qs 12 [])))))), []⟩
def Bk_b23_0 {ρ : Type} (fu : Nat) (c : Unit) (k : Ex → St RT den → Option ρ) (w : Int × Int × Int) (go : (Int × Int × Int) → Option ρ) : Option ρ := F_impl_MixNumber_B0 fu  (fun a0 => k (.exit 0) ⟨(qs 5 ((ii a0) :: (qs 18 []))), []⟩) w.1 w.2.1 w.2.2 (fun q0 q1 q2 => go (q0, q1, q2))
def lp_b23 (fu : Nat) : Lp RT den (Int) := ⟨fun b s k => match b with | 0 => handle ps_b23_0 os_b23_0 conv_b23_0 (Bk_b23_0 fu) fu s k | _ => none, inl0⟩
theorem ev_b23 (fu : Nat) (n_0 salt_1 : Int) : evFun E (pc_b23 fu) msk_b23 (lp_b23 fu) out_i64 127 [(ii n_0), (ii salt_1)] = F_impl_MixNumber fu n_0 salt_1 := by kernel_rfl
noncomputable def body_b23 : Code := Tryz.f127.body.getD .skip
noncomputable def lc_b23_0 : Code := ((loops 0 body_b23).getD 0 (0, .skip)).2
theorem round_b23_0 (fu : Nat) : RoundOk E (pc_b23 fu) msk_b23 (lp_b23 fu) 0 lc_b23_0 back_b23_0 0 100000 0 (Bk_b23_0 fu) := fun it k c w => by kernel_rfl
theorem lpok_b23_0 (fu : Nat) : LpAt E (pc_b23 fu) msk_b23 (lp_b23 fu) 0 0 100000 0 lc_b23_0 :=
 handle_ok (ps := ps_b23_0) (os := os_b23_0) (conv := conv_b23_0) (B := Bk_b23_0 fu) (fu := fu) back_b23_0 (fun raw => by kernel_rfl) 0 (fun c w => by kernel_rfl) (round_b23_0 fu)
theorem lpok_b23 (fu : Nat) : LpOk E (pc_b23 fu) 0 msk_b23 (lp_b23 fu) (loops 0 body_b23) := lp_nil (loop_all 1 (by kernel_rfl) fun i hi => match i, hi with
 | 0, _ => by
  have h : (loops 0 body_b23).getD 0 (0, .skip) = (0, lc_b23_0) := by kernel_rfl
  rw [h]; exact lpok_b23_0 fu
 | i + 1, hi => absurd hi (by omega)) (by kernel_rfl)
def S_b23 (fu : Nat) (xs : List (D RT den)) : Option (Out RT den) := match xs with | [.int .i64 a0_0, .int .i64 a1_0] => some ⟨Int, F_impl_MixNumber fu a0_0 a1_0, enc_i64, fun _ => true⟩ | _ => none
theorem hpc_b23 (fu : Nat) : HpcOk E Tryz.prog (pcf_b23 fu) := by
 intro f xs o h
 unfold pcf_b23 at h
 split at h
 ·exact good_b22 fu xs o h
 ·cases h
theorem goodv_b23 (fu : Nat) (n_0 salt_1 y : Int) (hy : F_impl_MixNumber fu n_0 salt_1 = some y) : Vm.Good E Tryz.prog 127 [(ii n_0), (ii salt_1)] (enc_i64 y) :=
 fun_good E_ok (pc_good (pc := pc_b23 fu) (hpc_b23 fu) hpx0) (fn := Tryz.f127) (by kernel_rfl) (by kernel_rfl) (by kernel_rfl) (lpok_b23 fu) (fun d hd => out_i64_enc d _ hd) ((ev_b23 fu n_0 salt_1).trans hy)
theorem good_b23 (fu : Nat) : GoodS E Tryz.prog 127 (S_b23 fu) := by
 intro xs o h y hy
 unfold S_b23 at h
 split at h
 ·rename_i a0_0 a1_0
  cases h
  exact goodv_b23 fu a0_0 a1_0 y hy
 ·cases h
def F_impl_offset (fu : Nat) (name_0 : Int) : Option (Int) :=
 ((F_impl_MixNumber fu name_0 3).bind fun y195 => (some (Int.tmod y195 31)))
def pcf_b24 (fu f : Nat) (xs : List (D RT den)) : Option (Out RT den) := match f with | 127 => S_b23 fu xs | _ => none
def pc_b24 (fu : Nat) : Pc RT den := ⟨pcf_b24 fu, fun _ => false, fun _ => false, pcd0, pcd0, pcd0, pcx0⟩
def msk_b24 (b : Nat) : List Nat := []
def lp_b24 (fu : Nat) : Lp RT den (Int) := ⟨fun b s k => none, inl0⟩
theorem ev_b24 (fu : Nat) (name_0 : Int) : evFun E (pc_b24 fu) msk_b24 (lp_b24 fu) out_i64 116 [(ii name_0)] = F_impl_offset fu name_0 := by kernel_rfl
noncomputable def body_b24 : Code := Tryz.f116.body.getD .skip
theorem lpok_b24 (fu : Nat) : LpOk E (pc_b24 fu) 0 msk_b24 (lp_b24 fu) (loops 0 body_b24) := lp_nil (loop_nil (by kernel_rfl)) (by kernel_rfl)
def S_b24 (fu : Nat) (xs : List (D RT den)) : Option (Out RT den) := match xs with | [.int .i64 a0_0] => some ⟨Int, F_impl_offset fu a0_0, enc_i64, fun _ => true⟩ | _ => none
theorem hpc_b24 (fu : Nat) : HpcOk E Tryz.prog (pcf_b24 fu) := by
 intro f xs o h
 unfold pcf_b24 at h
 split at h
 ·exact good_b23 fu xs o h
 ·cases h
theorem goodv_b24 (fu : Nat) (name_0 y : Int) (hy : F_impl_offset fu name_0 = some y) : Vm.Good E Tryz.prog 116 [(ii name_0)] (enc_i64 y) :=
 fun_good E_ok (pc_good (pc := pc_b24 fu) (hpc_b24 fu) hpx0) (fn := Tryz.f116) (by kernel_rfl) (by kernel_rfl) (by kernel_rfl) (lpok_b24 fu) (fun d hd => out_i64_enc d _ hd) ((ev_b24 fu name_0).trans hy)
theorem good_b24 (fu : Nat) : GoodS E Tryz.prog 116 (S_b24 fu) := by
 intro xs o h y hy
 unfold S_b24 at h
 split at h
 ·rename_i a0_0
  cases h
  exact goodv_b24 fu a0_0 y hy
 ·cases h
def F_impl_skip (fu : Nat) (name_0 : Int) : Option (Int) :=
 ((F_impl_MixNumber fu name_0 5).bind fun y199 => (some (IntKind.wrap .i64 (1 + (Int.tmod y199 30)))))
def pcf_b25 (fu f : Nat) (xs : List (D RT den)) : Option (Out RT den) := match f with | 127 => S_b23 fu xs | _ => none
def pc_b25 (fu : Nat) : Pc RT den := ⟨pcf_b25 fu, fun _ => false, fun _ => false, pcd0, pcd0, pcd0, pcx0⟩
def msk_b25 (b : Nat) : List Nat := []
def lp_b25 (fu : Nat) : Lp RT den (Int) := ⟨fun b s k => none, inl0⟩
theorem ev_b25 (fu : Nat) (name_0 : Int) : evFun E (pc_b25 fu) msk_b25 (lp_b25 fu) out_i64 117 [(ii name_0)] = F_impl_skip fu name_0 := by kernel_rfl
noncomputable def body_b25 : Code := Tryz.f117.body.getD .skip
theorem lpok_b25 (fu : Nat) : LpOk E (pc_b25 fu) 0 msk_b25 (lp_b25 fu) (loops 0 body_b25) := lp_nil (loop_nil (by kernel_rfl)) (by kernel_rfl)
def S_b25 (fu : Nat) (xs : List (D RT den)) : Option (Out RT den) := match xs with | [.int .i64 a0_0] => some ⟨Int, F_impl_skip fu a0_0, enc_i64, fun _ => true⟩ | _ => none
theorem hpc_b25 (fu : Nat) : HpcOk E Tryz.prog (pcf_b25 fu) := by
 intro f xs o h
 unfold pcf_b25 at h
 split at h
 ·exact good_b23 fu xs o h
 ·cases h
theorem goodv_b25 (fu : Nat) (name_0 y : Int) (hy : F_impl_skip fu name_0 = some y) : Vm.Good E Tryz.prog 117 [(ii name_0)] (enc_i64 y) :=
 fun_good E_ok (pc_good (pc := pc_b25 fu) (hpc_b25 fu) hpx0) (fn := Tryz.f117) (by kernel_rfl) (by kernel_rfl) (by kernel_rfl) (lpok_b25 fu) (fun d hd => out_i64_enc d _ hd) ((ev_b25 fu name_0).trans hy)
theorem good_b25 (fu : Nat) : GoodS E Tryz.prog 117 (S_b25 fu) := by
 intro xs o h y hy
 unfold S_b25 at h
 split at h
 ·rename_i a0_0
  cases h
  exact goodv_b25 fu a0_0 y hy
 ·cases h
def F_impl_permutation_B0 {ρ : Type} (fu : Nat) (name0_0 : Int) (k0 : Nat → Nat → (Nat → Int) → Option ρ) (out3_1 : Nat) (t6_2 : Int) (on0_3 : Nat) (of0_4 : (Nat → Int)) (go : Nat → Int → Nat → (Nat → Int) → Option ρ) : Option ρ :=
 (bif (decide (t6_2 < 31)) then ((F_impl_offset fu name0_0).bind fun y190 => ((F_impl_skip fu name0_0).bind fun y191 => (bif (decide ((out3_1 + 1) ≤ 9223372036854775807) && decide ((out3_1 + 1) * 8 ≤ 140737488355328)) then
  (go (out3_1 + 1) (IntKind.wrap .i64 (t6_2 + 1)) (out3_1 + 1) (fun i => if i < out3_1 then (of0_4 i) else ((fun i => ([(Int.tmod (IntKind.wrap .i64 (y190 + (IntKind.wrap .i64 (t6_2 * y191)))) 31)] : List (Int)).getD i (dflt .i64)) (i - out3_1)))) else
  none))) else (k0 out3_1 on0_3 of0_4))
def F_impl_permutation (fu : Nat) (name_0 : Int) : Option ((Sl Int)) :=
 (L (fun w0 go0 => F_impl_permutation_B0 fu name_0 (fun z192 z193 z194 => (some (⟨none, z192, z194⟩ : (Sl Int)))) w0.1 w0.2.1 w0.2.2.1 w0.2.2.2 (fun q0 q1 q2 q3 => go0 (q0, q1, q2,
  q3))) fu ((0, 0, 0, (fun _ => dflt .i64)) : Nat × Int × Nat × (Nat → Int)))
def pcf_b26 (fu f : Nat) (xs : List (D RT den)) : Option (Out RT den) := match f with | 116 => S_b24 fu xs | 117 => S_b25 fu xs | _ => none
def pc_b26 (fu : Nat) : Pc RT den := ⟨pcf_b26 fu, fun _ => false, fun _ => false, pcd0, pcd0, pcd0, pcx0⟩
def msk_b26 (b : Nat) : List Nat := match b with | 0 => (1 :: 2 :: 4 :: 5 :: (rg 7 15 [])) | 100000 => (0 :: 1 :: (rg 4 18 [])) | 300000 => [3] | _ => []
def ps_b26_0 : List (Pat RT) := (.flat (.int .i64) :: .flat .q :: .flat .q :: .flat (.os 0) :: .flat .q :: .flat .q :: .flat (.int .i64) :: (fq 15 []))
def os_b26_0 : List (OP RT) := [.row false .i64]
def conv_b26_0 (r : Raw den ps_b26_0 os_b26_0) : (Int) × (Nat × Int × Nat × (Nat → Int)) := (r.1.1, (r.1.2.2.2.1, (e5 r.1).2.1, r.2.1.1, r.2.1.2))
def back_b26_0 (c : Int) (w : Nat × Int × Nat × (Nat → Int)) : St RT den := ⟨((ii c) :: .q :: .q :: (.os 0 w.1) :: .q :: .q :: (ii w.2.1) :: (qs 15 [])), [(.row false .i64 w.2.2.1 w.2.2.2)]⟩
def Bk_b26_0 {ρ : Type} (fu : Nat) (c : Int) (k : Ex → St RT den → Option ρ) (w : Nat × Int × Nat × (Nat → Int)) (go : (Nat × Int × Nat × (Nat → Int)) → Option ρ) : Option ρ := F_impl_permutation_B0 fu c (fun a0 a1 a2 => k (.exit 0) ⟨(.q :: .q :: .q :: (.os 0 a0) :: (qs 18 [])), [(.row false .i64 a1 a2)]⟩) w.1 w.2.1 w.2.2.1 w.2.2.2 (fun q0 q1 q2 q3 => go (q0, q1, q2, q3))
def lp_b26 (fu : Nat) : Lp RT den ((Sl Int)) := ⟨fun b s k => match b with | 0 => handle ps_b26_0 os_b26_0 conv_b26_0 (Bk_b26_0 fu) fu s k | _ => none, inl0⟩
theorem ev_b26 (fu : Nat) (name_0 : Int) : evFun E (pc_b26 fu) msk_b26 (lp_b26 fu) out_sl_i64 99 [(ii name_0)] = F_impl_permutation fu name_0 := by kernel_rfl
noncomputable def body_b26 : Code := Tryz.f99.body.getD .skip
noncomputable def lc_b26_0 : Code := ((loops 0 body_b26).getD 0 (0, .skip)).2
theorem round_b26_0 (fu : Nat) : RoundOk E (pc_b26 fu) msk_b26 (lp_b26 fu) 0 lc_b26_0 back_b26_0 0 100000 1 (Bk_b26_0 fu) := fun it k c w => by kernel_rfl
theorem lpok_b26_0 (fu : Nat) : LpAt E (pc_b26 fu) msk_b26 (lp_b26 fu) 0 0 100000 0 lc_b26_0 :=
 handle_ok (ps := ps_b26_0) (os := os_b26_0) (conv := conv_b26_0) (B := Bk_b26_0 fu) (fu := fu) back_b26_0 (fun raw => by kernel_rfl) 1 (fun c w => by kernel_rfl) (round_b26_0 fu)
theorem lpok_b26 (fu : Nat) : LpOk E (pc_b26 fu) 0 msk_b26 (lp_b26 fu) (loops 0 body_b26) := lp_nil (loop_all 1 (by kernel_rfl) fun i hi => match i, hi with
 | 0, _ => by
  have h : (loops 0 body_b26).getD 0 (0, .skip) = (0, lc_b26_0) := by kernel_rfl
  rw [h]; exact lpok_b26_0 fu
 | i + 1, hi => absurd hi (by omega)) (by kernel_rfl)
def S_b26 (fu : Nat) (xs : List (D RT den)) : Option (Out RT den) := match xs with | [.int .i64 a0_0] => some ⟨(Sl Int), F_impl_permutation fu a0_0, enc_sl_i64, fun _ => true⟩ | _ => none
theorem hpc_b26 (fu : Nat) : HpcOk E Tryz.prog (pcf_b26 fu) := by
 intro f xs o h
 unfold pcf_b26 at h
 split at h
 ·exact good_b24 fu xs o h
 ·exact good_b25 fu xs o h
 ·cases h
theorem goodv_b26 (fu : Nat) (name_0 : Int) (y : (Sl Int)) (hy : F_impl_permutation fu name_0 = some y) : Vm.Good E Tryz.prog 99 [(ii name_0)] (enc_sl_i64 y) :=
 fun_good E_ok (pc_good (pc := pc_b26 fu) (hpc_b26 fu) hpx0) (fn := Tryz.f99) (by kernel_rfl) (by kernel_rfl) (by kernel_rfl) (lpok_b26 fu) (fun d hd => out_sl_i64_enc d _ hd) ((ev_b26 fu name_0).trans hy)
theorem good_b26 (fu : Nat) : GoodS E Tryz.prog 99 (S_b26 fu) := by
 intro xs o h y hy
 unfold S_b26 at h
 split at h
 ·rename_i a0_0
  cases h
  exact goodv_b26 fu a0_0 y hy
 ·cases h
def F_impl_fill_c1 (fu : Nat) (s_0 : S_impl_Share) : Option (Bool) :=
 (some (decide (s_0.Weight > 0)))
def pc_b27 (fu : Nat) : Pc RT den := ⟨pcf0, fun _ => false, fun _ => false, pcd0, pcd0, pcd0, pcx0⟩
def msk_b27 (b : Nat) : List Nat := []
def lp_b27 (fu : Nat) : Lp RT den (Bool) := ⟨fun b s k => none, inl0⟩
theorem ev_b27 (fu : Nat) (s_0 : S_impl_Share) : evFun E (pc_b27 fu) msk_b27 (lp_b27 fu) out_bo 98 [(.agg [(ii s_0.Name), (ii s_0.Weight)])] = F_impl_fill_c1 fu s_0 := by kernel_rfl
noncomputable def body_b27 : Code := Tryz.f98.body.getD .skip
theorem lpok_b27 (fu : Nat) : LpOk E (pc_b27 fu) 0 msk_b27 (lp_b27 fu) (loops 0 body_b27) := lp_nil (loop_nil (by kernel_rfl)) (by kernel_rfl)
def S_b27 (fu : Nat) (xs : List (D RT den)) : Option (Out RT den) := match xs with | [.agg [.int .i64 a0_1, .int .i64 a0_2]] => some ⟨Bool, F_impl_fill_c1 fu (⟨a0_1, a0_2⟩ : S_impl_Share), enc_bo, fun _ => true⟩ | _ => none
theorem goodv_b27 (fu : Nat) (s_0 : S_impl_Share) (y : Bool) (hy : F_impl_fill_c1 fu s_0 = some y) : Vm.Good E Tryz.prog 98 [(.agg [(ii s_0.Name), (ii s_0.Weight)])] (enc_bo y) :=
 fun_good E_ok (pc_good (pc := pc_b27 fu) hpc0 hpx0) (fn := Tryz.f98) (by kernel_rfl) (by kernel_rfl) (by kernel_rfl) (lpok_b27 fu) (fun d hd => out_bo_enc d _ hd) ((ev_b27 fu s_0).trans hy)
theorem good_b27 (fu : Nat) : GoodS E Tryz.prog 98 (S_b27 fu) := by
 intro xs o h y hy
 unfold S_b27 at h
 split at h
 ·rename_i a0_1 a0_2
  cases h
  exact goodv_b27 fu (⟨a0_1, a0_2⟩ : S_impl_Share) y hy
 ·cases h
def F_slices_IndexFunc_impl_Share_impl_Share_w_impl_fill_c1_B0 {ρ : Type} (fu : Nat) (s0_0 : (Sl S_impl_Share)) (t7_1 : Int) (k0 : Int → Option ρ) (k1 : Option ρ) (t8_2 : Int) (go : Int → Option ρ) : Option ρ :=
 (bif (decide (t8_2 < t7_1)) then ((bif (decide (0 ≤ t8_2) && decide ((Int.toNat t8_2) < s0_0.n)) then some () else none : Option Unit).bind fun _ => ((F_impl_fill_c1 fu (s0_0.f (Int.toNat t8_2))).bind fun y223 =>
  (bif y223 then (k0 t8_2) else (go (IntKind.wrap .i64 (t8_2 + 1)))))) else k1)
def F_slices_IndexFunc_impl_Share_impl_Share_w_impl_fill_c1 (fu : Nat) (s_0 : (Sl S_impl_Share)) : Option (Int) :=
 (L (fun w0 go0 => F_slices_IndexFunc_impl_Share_impl_Share_w_impl_fill_c1_B0 fu s_0 ((s_0.n : Nat) : Int) (fun z224 => (some z224)) (some (-1)) w0 go0) fu (0 : Int))
def pcf_b28 (fu f : Nat) (xs : List (D RT den)) : Option (Out RT den) := match f with | 98 => S_b27 fu xs | _ => none
def pc_b28 (fu : Nat) : Pc RT den := ⟨pcf_b28 fu, fun _ => false, fun _ => false, pcd0, pcd0, pcd0, pcx0⟩
def msk_b28 (b : Nat) : List Nat := match b with | 0 => (rg 2 5 (rg 9 10 [])) | 100000 => (0 :: 1 :: 2 :: 3 :: (rg 5 14 [])) | _ => []
def ps_b28_0 : List (Pat RT) := (.flat (.rs .impl_Share) :: .fn 98 [] :: (fq 5 (.flat (.int .i64) :: .flat (.int .i64) :: (fq 10 []))))
def os_b28_0 : List (OP RT) := []
def conv_b28_0 (r : Raw den ps_b28_0 os_b28_0) : ((Sl S_impl_Share) × Int) × (Int) := ((r.1.1, (e5 r.1).2.2.1), (e5 r.1).2.2.2.1)
def back_b28_0 (c : (Sl S_impl_Share) × Int) (w : Int) : St RT den := ⟨((.rs c.1.z .impl_Share c.1.n c.1.f) :: (.fn 98 []) :: (qs 5 ((ii c.2) :: (ii w) :: (qs 10 [])))), []⟩
def Bk_b28_0 {ρ : Type} (fu : Nat) (c : (Sl S_impl_Share) × Int) (k : Ex → St RT den → Option ρ) (w : Int) (go : (Int) → Option ρ) : Option ρ := F_slices_IndexFunc_impl_Share_impl_Share_w_impl_fill_c1_B0 fu c.1 c.2 (fun a0 => k .ret ⟨(qs 4 ((ii a0) :: (qs 14 []))), []⟩) (k (.exit 0) ⟨(qs 19 []), []⟩) w go
def lp_b28 (fu : Nat) : Lp RT den (Int) := ⟨fun b s k => match b with | 0 => handle ps_b28_0 os_b28_0 conv_b28_0 (Bk_b28_0 fu) fu s k | _ => none, inl0⟩
theorem ev_b28 (fu : Nat) (s_0 : (Sl S_impl_Share)) : evFun E (pc_b28 fu) msk_b28 (lp_b28 fu) out_i64 115 [(.rs s_0.z .impl_Share s_0.n s_0.f), (.fn 98 [])] = F_slices_IndexFunc_impl_Share_impl_Share_w_impl_fill_c1 fu s_0 := by kernel_rfl
noncomputable def body_b28 : Code := Tryz.f115.body.getD .skip
noncomputable def lc_b28_0 : Code := ((loops 0 body_b28).getD 0 (0, .skip)).2
theorem round_b28_0 (fu : Nat) : RoundOk E (pc_b28 fu) msk_b28 (lp_b28 fu) 0 lc_b28_0 back_b28_0 0 100000 0 (Bk_b28_0 fu) := fun it k c w => by kernel_rfl
theorem lpok_b28_0 (fu : Nat) : LpAt E (pc_b28 fu) msk_b28 (lp_b28 fu) 0 0 100000 0 lc_b28_0 :=
 handle_ok (ps := ps_b28_0) (os := os_b28_0) (conv := conv_b28_0) (B := Bk_b28_0 fu) (fu := fu) back_b28_0 (fun raw => by kernel_rfl) 0 (fun c w => by kernel_rfl) (round_b28_0 fu)
theorem lpok_b28 (fu : Nat) : LpOk E (pc_b28 fu) 0 msk_b28 (lp_b28 fu) (loops 0 body_b28) := lp_nil (loop_all 1 (by kernel_rfl) fun i hi => match i, hi with
 | 0, _ => by
  have h : (loops 0 body_b28).getD 0 (0, .skip) = (0, lc_b28_0) := by kernel_rfl
  rw [h]; exact lpok_b28_0 fu
 | i + 1, hi => absurd hi (by omega)) (by kernel_rfl)
def S_b28 (fu : Nat) (xs : List (D RT den)) : Option (Out RT den) := match xs with | [.rs za0_0 .impl_Share na0_0 fa0_0, .fn 98 []] => some ⟨Int, F_slices_IndexFunc_impl_Share_impl_Share_w_impl_fill_c1 fu (⟨za0_0, na0_0, fa0_0⟩ : (Sl S_impl_Share)), enc_i64, fun _ => true⟩ | _ => none
theorem hpc_b28 (fu : Nat) : HpcOk E Tryz.prog (pcf_b28 fu) := by
 intro f xs o h
 unfold pcf_b28 at h
 split at h
 ·exact good_b27 fu xs o h
 ·cases h
theorem goodv_b28 (fu : Nat) (s_0 : (Sl S_impl_Share)) (y : Int) (hy : F_slices_IndexFunc_impl_Share_impl_Share_w_impl_fill_c1 fu s_0 = some y) : Vm.Good E Tryz.prog 115 [(.rs s_0.z .impl_Share s_0.n s_0.f), (.fn 98 [])] (enc_i64 y) :=
 fun_good E_ok (pc_good (pc := pc_b28 fu) (hpc_b28 fu) hpx0) (fn := Tryz.f115) (by kernel_rfl) (by kernel_rfl) (by kernel_rfl) (lpok_b28 fu) (fun d hd => out_i64_enc d _ hd) ((ev_b28 fu s_0).trans hy)
theorem good_b28 (fu : Nat) : GoodS E Tryz.prog 115 (S_b28 fu) := by
 intro xs o h y hy
 unfold S_b28 at h
 split at h
 ·rename_i za0_0 na0_0 fa0_0
  cases h
  exact goodv_b28 fu (⟨za0_0, na0_0, fa0_0⟩ : (Sl S_impl_Share)) y hy
 ·cases h
def F_slices_ContainsFunc_impl_Share_impl_Share_w_impl_fill_c1 (fu : Nat) (s_0 : (Sl S_impl_Share)) : Option (Bool) :=
 ((F_slices_IndexFunc_impl_Share_impl_Share_w_impl_fill_c1 fu s_0).bind fun y222 => (some (decide (y222 ≥ 0))))
def pcf_b29 (fu f : Nat) (xs : List (D RT den)) : Option (Out RT den) := match f with | 115 => S_b28 fu xs | _ => none
def pc_b29 (fu : Nat) : Pc RT den := ⟨pcf_b29 fu, fun _ => false, fun _ => false, pcd0, pcd0, pcd0, pcx0⟩
def msk_b29 (b : Nat) : List Nat := []
def lp_b29 (fu : Nat) : Lp RT den (Bool) := ⟨fun b s k => none, inl0⟩
theorem ev_b29 (fu : Nat) (s_0 : (Sl S_impl_Share)) : evFun E (pc_b29 fu) msk_b29 (lp_b29 fu) out_bo 97 [(.rs s_0.z .impl_Share s_0.n s_0.f), (.fn 98 [])] = F_slices_ContainsFunc_impl_Share_impl_Share_w_impl_fill_c1 fu s_0 := by kernel_rfl
noncomputable def body_b29 : Code := Tryz.f97.body.getD .skip
theorem lpok_b29 (fu : Nat) : LpOk E (pc_b29 fu) 0 msk_b29 (lp_b29 fu) (loops 0 body_b29) := lp_nil (loop_nil (by kernel_rfl)) (by kernel_rfl)
def S_b29 (fu : Nat) (xs : List (D RT den)) : Option (Out RT den) := match xs with | [.rs za0_0 .impl_Share na0_0 fa0_0, .fn 98 []] => some ⟨Bool, F_slices_ContainsFunc_impl_Share_impl_Share_w_impl_fill_c1 fu (⟨za0_0, na0_0, fa0_0⟩ : (Sl S_impl_Share)), enc_bo, fun _ => true⟩ | _ => none
theorem hpc_b29 (fu : Nat) : HpcOk E Tryz.prog (pcf_b29 fu) := by
 intro f xs o h
 unfold pcf_b29 at h
 split at h
 ·exact good_b28 fu xs o h
 ·cases h
theorem goodv_b29 (fu : Nat) (s_0 : (Sl S_impl_Share)) (y : Bool) (hy : F_slices_ContainsFunc_impl_Share_impl_Share_w_impl_fill_c1 fu s_0 = some y) : Vm.Good E Tryz.prog 97 [(.rs s_0.z .impl_Share s_0.n s_0.f), (.fn 98 [])] (enc_bo y) :=
 fun_good E_ok (pc_good (pc := pc_b29 fu) (hpc_b29 fu) hpx0) (fn := Tryz.f97) (by kernel_rfl) (by kernel_rfl) (by kernel_rfl) (lpok_b29 fu) (fun d hd => out_bo_enc d _ hd) ((ev_b29 fu s_0).trans hy)
theorem good_b29 (fu : Nat) : GoodS E Tryz.prog 97 (S_b29 fu) := by
 intro xs o h y hy
 unfold S_b29 at h
 split at h
 ·rename_i za0_0 na0_0 fa0_0
  cases h
  exact goodv_b29 fu (⟨za0_0, na0_0, fa0_0⟩ : (Sl S_impl_Share)) y hy
 ·cases h
end Go.Proofs.YtcmfekgdlaffkaaGreatDoor.Px
