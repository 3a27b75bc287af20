/- The functions' evaluated forms, each a proved summary. Conditions: none. -/
import Derived.Test.YtcmfekgdlaffkaaGreatDoorPxF5
namespace Go.Proofs.YtcmfekgdlaffkaaGreatDoor.Px
open Go Go.RowKit Go.Proofs Vm
set_option linter.unusedVariables false
set_option linter.unusedSimpArgs false
set_option maxRecDepth 100000
def F_impl_MuxFault_B1 {ρ : Type} (fu : Nat) (m1_0 m1_1 : Int) (m1_2 : Bool) (m1_3 : Int) (m1_4 : (Sl S_impl_Backend)) (m1_5 : (Sl S_impl_Vip)) (m1_6 : (Sl (Sl Int))) (m1_7 : (Sl S_impl_Held)) (c4_8 : Int) (c4_9 : (Sl S_impl_Backend)) (c4_10 : (Sl S_impl_Vip)) (c4_11 : (Sl (Sl Int))) (c4_12 t38_13 : (Sl S_impl_Held)) (t39_14 : Int) (k0 : Int → Int → Int → Int → Int → Int → Int → Option ρ) (k1 : Int → Int → Int → Int → Int → Int → Int → Option ρ) (k2 : Int → Int → Int → Int → Int → Int → Int → Option ρ) (k3 : Int → Int → Int → Int → Int → Int → Int → Option ρ) (k4 : Option ρ) (t40_15 : Int) (go : Int → Option ρ) : Option ρ :=
 (bif (decide (t40_15 < t39_14)) then ((bif (decide (0 ≤ t40_15) && decide ((Int.toNat t40_15) < t38_13.n)) then some () else none : Option Unit).bind fun _ => ((((F_impl_isFlow fu (t38_13.f (Int.toNat t40_15)).Flow).bind fun y234 =>
  (bif (!y234) then (some true) else ((F_impl_in fu (t38_13.f (Int.toNat t40_15)).Seen 0 m1_1).bind fun y235 => (some (!y235))))) : Option Bool).bind fun m236 => (bif m236 then
  (k0 (t38_13.f (Int.toNat t40_15)).Flow.From (t38_13.f (Int.toNat t40_15)).Flow.To (t38_13.f (Int.toNat t40_15)).Flow.Proto (t38_13.f (Int.toNat t40_15)).Flow.FromP (t38_13.f (Int.toNat t40_15)).Flow.ToP (t38_13.f (Int.toNat t40_15)).Name (t38_13.f (Int.toNat t40_15)).Seen) else
  ((F_impl_Config_serves fu (⟨c4_8, c4_9, c4_10⟩ : S_impl_Config) (t38_13.f (Int.toNat t40_15)).Flow (t38_13.f (Int.toNat t40_15)).Name).bind fun y237 => (bif (!y237) then (k1 (t38_13.f (Int.toNat t40_15)).Flow.From (t38_13.f (Int.toNat t40_15)).Flow.To (t38_13.f (Int.toNat t40_15)).Flow.Proto (t38_13.f (Int.toNat t40_15)).Flow.FromP (t38_13.f (Int.toNat t40_15)).Flow.ToP (t38_13.f (Int.toNat t40_15)).Name (t38_13.f (Int.toNat t40_15)).Seen) else
  (bif (decide ((IntKind.wrap .i64 (m1_1 - (t38_13.f (Int.toNat t40_15)).Seen)) > 20)) then (k2 (t38_13.f (Int.toNat t40_15)).Flow.From (t38_13.f (Int.toNat t40_15)).Flow.To (t38_13.f (Int.toNat t40_15)).Flow.Proto (t38_13.f (Int.toNat t40_15)).Flow.FromP (t38_13.f (Int.toNat t40_15)).Flow.ToP (t38_13.f (Int.toNat t40_15)).Name (t38_13.f (Int.toNat t40_15)).Seen) else
  ((bif (decide ((0 : Int) ≤ t40_15) && decide ((Int.toNat t40_15) ≤ m1_7.n)) then some () else none : Option Unit).bind fun _ =>
  ((F_slices_ContainsFunc_impl_Held_impl_Held_w_impl_MuxFault_c1 fu (⟨m1_7.z, ((Int.toNat t40_15) - 0), (fun i => m1_7.f (0 + i))⟩ : (Sl S_impl_Held)) ((t38_13.f (Int.toNat t40_15)).Flow.From) ((t38_13.f (Int.toNat t40_15)).Flow.To) ((t38_13.f (Int.toNat t40_15)).Flow.Proto) ((t38_13.f (Int.toNat t40_15)).Flow.FromP) ((t38_13.f (Int.toNat t40_15)).Flow.ToP) ((t38_13.f (Int.toNat t40_15)).Name) ((t38_13.f (Int.toNat t40_15)).Seen)).bind fun y238 =>
  (bif y238 then (k3 (t38_13.f (Int.toNat t40_15)).Flow.From (t38_13.f (Int.toNat t40_15)).Flow.To (t38_13.f (Int.toNat t40_15)).Flow.Proto (t38_13.f (Int.toNat t40_15)).Flow.FromP (t38_13.f (Int.toNat t40_15)).Flow.ToP (t38_13.f (Int.toNat t40_15)).Name (t38_13.f (Int.toNat t40_15)).Seen) else
  (go (IntKind.wrap .i64 (t40_15 + 1)))))))))))) else k4)
def F_impl_MuxFault (fu : Nat) (m_0 : S_impl_Mux) : Option (Int) :=
 ((((F_impl_isAddress fu m_0.Address).bind fun y228 => (bif (!y228) then (some true) else ((F_impl_in fu m_0.Now 0 1000000000).bind fun y229 => (some (!y229))))) : Option Bool).bind fun m230 =>
  (bif m230 then (some 3) else ((F_impl_WatchFault fu m_0.Watch).bind fun y231 => (bif (y231 != 0) then (some y231) else ((F_impl_Config_tables fu m_0.Watch.Config).bind fun y232 =>
  ((F_slices_EqualFunc_int64_int64_int64_int64_w_slices_Equal_int64_int64 fu m_0.Tables y232).bind fun y233 => (bif (!y233) then (some 1) else (bif (decide (((m_0.Cache.n : Nat) : Int) > 8)) then
  (some 2) else (L (fun w1 go1 => F_impl_MuxFault_B1 fu m_0.Address m_0.Now m_0.Watch.Ready m_0.Watch.Config.Version m_0.Watch.Config.Backends m_0.Watch.Config.Vips m_0.Tables m_0.Cache m_0.Watch.Config.Version m_0.Watch.Config.Backends m_0.Watch.Config.Vips m_0.Tables m_0.Cache m_0.Cache ((m_0.Cache.n : Nat) : Int) (fun z239 z240 z241 z242 z243 z244 z245 =>
  (some 3)) (fun z246 z247 z248 z249 z250 z251 z252 => (some 4)) (fun z253 z254 z255 z256 z257 z258 z259 => (some 9)) (fun z260 z261 z262 z263 z264 z265 z266 => (some 7)) (some 0) w1 go1) fu (0 : Int))))))))))
def pcf_c22 (fu f : Nat) (xs : List (D RT den)) : Option (Out RT den) := match f with | 37 => S_b33 fu xs | 38 => S_b32 fu xs | 39 => S_c7 fu xs | 40 => S_c9 fu xs | 41 => S_b31 fu xs | 43 => S_c11 fu xs | 44 => S_c18 fu xs | 45 => S_c21 fu xs | _ => none
def pc_c22 (fu : Nat) : Pc RT den := ⟨pcf_c22 fu, fun _ => false, fun _ => false, pcd0, pcd0, pcd0, pcx0⟩
def msk_c22 (b : Nat) : List Nat := match b with | 1 => (0 :: 2 :: 3 :: (rg 5 33 (rg 41 40 []))) | 100001 => (0 :: 1 :: (rg 3 78 [])) | 200001 => [16] | 200014 => [45] | 500007 => [0] | _ => []
def ps_c22_1 : List (Pat RT) := (.flat .q :: .rptr [(.int .i64), (.int .i64), .bool, (.int .i64), (.rs .impl_Backend), (.rs .impl_Vip), (.rs .sl_i64), (.rs .impl_Held)] :: .flat .q :: .flat .q :: .rptr [(.int .i64), (.rs .impl_Backend), (.rs .impl_Vip), (.rs .sl_i64), (.rs .impl_Held)] :: (fq 33 (.flat (.rs .impl_Held) :: .flat (.int .i64) :: .flat (.int .i64) :: (fq 40 []))))
def os_c22_1 : List (OP RT) := [.gone]
def conv_c22_1 (r : Raw den ps_c22_1 os_c22_1) : (Int × Int × Bool × Int × (Sl S_impl_Backend) × (Sl S_impl_Vip) × (Sl (Sl Int)) × (Sl S_impl_Held) × Int × (Sl S_impl_Backend) × (Sl S_impl_Vip) × (Sl (Sl Int)) × (Sl S_impl_Held) × (Sl S_impl_Held) × Int) × (Int) := ((r.1.2.1.1, r.1.2.1.2.1, r.1.2.1.2.2.1, r.1.2.1.2.2.2.1, r.1.2.1.2.2.2.2.1, (e5 r.1.2.1).1, (e5 r.1.2.1).2.1, (e5 r.1.2.1).2.2.1, r.1.2.2.2.2.1.1, r.1.2.2.2.2.1.2.1, r.1.2.2.2.2.1.2.2.1, r.1.2.2.2.2.1.2.2.2.1, r.1.2.2.2.2.1.2.2.2.2.1, (e5 (e10 (e20 r.1))).2.2.2.1, (e5 (e10 (e20 r.1))).2.2.2.2.1), (e40 r.1).1)
def back_c22_1 (c : Int × Int × Bool × Int × (Sl S_impl_Backend) × (Sl S_impl_Vip) × (Sl (Sl Int)) × (Sl S_impl_Held) × Int × (Sl S_impl_Backend) × (Sl S_impl_Vip) × (Sl (Sl Int)) × (Sl S_impl_Held) × (Sl S_impl_Held) × Int) (w : Int) : St RT den := ⟨(.q :: (.rptr [(ii c.1), (ii c.2.1), (.bool c.2.2.1), (ii c.2.2.2.1), (.rs c.2.2.2.2.1.z .impl_Backend c.2.2.2.2.1.n c.2.2.2.2.1.f), (.rs (e5 c).1.z .impl_Vip (e5 c).1.n (e5 c).1.f), (.rs (e5 c).2.1.z .sl_i64 (e5 c).2.1.n (e5 c).2.1.f), (.rs (e5 c).2.2.1.z .impl_Held (e5 c).2.2.1.n (e5 c).2.2.1.f)]) :: .q :: .q :: (.rptr [(ii (e5 c).2.2.2.1), (.rs (e5 c).2.2.2.2.1.z .impl_Backend (e5 c).2.2.2.2.1.n (e5 c).2.2.2.2.1.f), (.rs (e10 c).1.z .impl_Vip (e10 c).1.n (e10 c).1.f), (.rs (e10 c).2.1.z .sl_i64 (e10 c).2.1.n (e10 c).2.1.f), (.rs (e10 c).2.2.1.z .impl_Held (e10 c).2.2.1.n (e10 c).2.2.1.f)]) :: (qs 33 ((.rs (e10 c).2.2.2.1.z .impl_Held (e10 c).2.2.2.1.n (e10 c).2.2.2.1.f) :: (ii (e10 c).2.2.2.2) :: (ii w) :: (qs 40 [])))), [.gone]⟩
def Bk_c22_1 {ρ : Type} (fu : Nat) (c : Int × Int × Bool × Int × (Sl S_impl_Backend) × (Sl S_impl_Vip) × (Sl (Sl Int)) × (Sl S_impl_Held) × Int × (Sl S_impl_Backend) × (Sl S_impl_Vip) × (Sl (Sl Int)) × (Sl S_impl_Held) × (Sl S_impl_Held) × Int) (k : Ex → St RT den → Option ρ) (w : Int) (go : (Int) → Option ρ) : Option ρ := F_impl_MuxFault_B1 fu c.1 c.2.1 c.2.2.1 c.2.2.2.1 c.2.2.2.2.1 (e5 c).1 (e5 c).2.1 (e5 c).2.2.1 (e5 c).2.2.2.1 (e5 c).2.2.2.2.1 (e10 c).1 (e10 c).2.1 (e10 c).2.2.1 (e10 c).2.2.2.1 (e10 c).2.2.2.2 (fun a0 a1 a2 a3 a4 a5 a6 => k .ret ⟨(.q :: .q :: (ii 3) :: (qs 78 [])), [.gone, (.box false [(ii a0), (ii a1), (ii a2), (ii a3), (ii a4), (ii a5), (ii a6)])]⟩) (fun a0 a1 a2 a3 a4 a5 a6 => k .ret ⟨(.q :: .q :: (ii 4) :: (qs 78 [])), [.gone, (.box false [(ii a0), (ii a1), (ii a2), (ii a3), (ii a4), (ii a5), (ii a6)])]⟩) (fun a0 a1 a2 a3 a4 a5 a6 => k .ret ⟨(.q :: .q :: (ii 9) :: (qs 78 [])), [.gone, (.box false [(ii a0), (ii a1), (ii a2), (ii a3), (ii a4), (ii a5), (ii a6)])]⟩) (fun a0 a1 a2 a3 a4 a5 a6 => k .ret ⟨(.q :: .q :: (ii 7) :: (qs 78 [])), [.gone, (.box false [(ii a0), (ii a1), (ii a2), (ii a3), (ii a4), (ii a5), (ii a6)])]⟩) (k (.exit 1) ⟨(qs 81 []), [.gone]⟩) w go
def lp_c22 (fu : Nat) : Lp RT den (Int) := ⟨fun b s k => match b with | 1 => handle ps_c22_1 os_c22_1 conv_c22_1 (Bk_c22_1 fu) fu s k | _ => none, inl0⟩
theorem ev_c22 (fu : Nat) (m_0 : S_impl_Mux) : evFun E (pc_c22 fu) msk_c22 (lp_c22 fu) out_i64 19 [(.agg [(ii m_0.Address), (ii m_0.Now), (.bool m_0.Watch.Ready), (ii m_0.Watch.Config.Version), (.rs m_0.Watch.Config.Backends.z .impl_Backend m_0.Watch.Config.Backends.n m_0.Watch.Config.Backends.f), (.rs m_0.Watch.Config.Vips.z .impl_Vip m_0.Watch.Config.Vips.n m_0.Watch.Config.Vips.f), (.rs m_0.Tables.z .sl_i64 m_0.Tables.n m_0.Tables.f), (.rs m_0.Cache.z .impl_Held m_0.Cache.n m_0.Cache.f)])] = F_impl_MuxFault fu m_0 := by kernel_rfl
noncomputable def body_c22 : Code := Tryz.f19.body.getD .skip
noncomputable def lc_c22_1 : Code := ((loops 0 body_c22).getD 0 (0, .skip)).2
theorem round_c22_1 (fu : Nat) : RoundOk E (pc_c22 fu) msk_c22 (lp_c22 fu) 1 lc_c22_1 back_c22_1 1 100001 1 (Bk_c22_1 fu) := fun it k c w => by kernel_rfl
theorem lpok_c22_1 (fu : Nat) : LpAt E (pc_c22 fu) msk_c22 (lp_c22 fu) 1 1 100001 1 lc_c22_1 :=
 handle_ok (ps := ps_c22_1) (os := os_c22_1) (conv := conv_c22_1) (B := Bk_c22_1 fu) (fu := fu) back_c22_1 (fun raw => by kernel_rfl) 1 (fun c w => by kernel_rfl) (round_c22_1 fu)
theorem lpok_c22 (fu : Nat) : LpOk E (pc_c22 fu) 0 msk_c22 (lp_c22 fu) (loops 0 body_c22) := lp_nil (loop_all 1 (by kernel_rfl) fun i hi => match i, hi with
 | 0, _ => by
  have h : (loops 0 body_c22).getD 0 (0, .skip) = (1, lc_c22_1) := by kernel_rfl
  rw [h]; exact lpok_c22_1 fu
 | i + 1, hi => absurd hi (by omega)) (by kernel_rfl)
def S_c22 (fu : Nat) (xs : List (D RT den)) : Option (Out RT den) := match xs with | [.agg [.int .i64 a0_1, .int .i64 a0_2, .bool a0_4, .int .i64 a0_6, .rs za0_7 .impl_Backend na0_7 fa0_7, .rs za0_8 .impl_Vip na0_8 fa0_8, .rs za0_9 .sl_i64 na0_9 fa0_9, .rs za0_10 .impl_Held na0_10 fa0_10]] => some ⟨Int, F_impl_MuxFault fu (⟨a0_1, a0_2, (⟨a0_4, (⟨a0_6, (⟨za0_7, na0_7, fa0_7⟩ : (Sl S_impl_Backend)), (⟨za0_8, na0_8, fa0_8⟩ : (Sl S_impl_Vip))⟩ : S_impl_Config)⟩ : S_impl_Watch), (⟨za0_9, na0_9, fa0_9⟩ : (Sl (Sl Int))), (⟨za0_10, na0_10, fa0_10⟩ : (Sl S_impl_Held))⟩ : S_impl_Mux), enc_i64, fun _ => true⟩ | _ => none
theorem hpc_c22 (fu : Nat) : HpcOk E Tryz.prog (pcf_c22 fu) := by
 intro f xs o h
 unfold pcf_c22 at h
 split at h
 ·exact good_b33 fu xs o h
 ·exact good_b32 fu xs o h
 ·exact good_c7 fu xs o h
 ·exact good_c9 fu xs o h
 ·exact good_b31 fu xs o h
 ·exact good_c11 fu xs o h
 ·exact good_c18 fu xs o h
 ·exact good_c21 fu xs o h
 ·cases h
theorem goodv_c22 (fu : Nat) (m_0 : S_impl_Mux) (y : Int) (hy : F_impl_MuxFault fu m_0 = some y) : Vm.Good E Tryz.prog 19 [(.agg [(ii m_0.Address), (ii m_0.Now), (.bool m_0.Watch.Ready), (ii m_0.Watch.Config.Version), (.rs m_0.Watch.Config.Backends.z .impl_Backend m_0.Watch.Config.Backends.n m_0.Watch.Config.Backends.f), (.rs m_0.Watch.Config.Vips.z .impl_Vip m_0.Watch.Config.Vips.n m_0.Watch.Config.Vips.f), (.rs m_0.Tables.z .sl_i64 m_0.Tables.n m_0.Tables.f), (.rs m_0.Cache.z .impl_Held m_0.Cache.n m_0.Cache.f)])] (enc_i64 y) :=
 fun_good E_ok (pc_good (pc := pc_c22 fu) (hpc_c22 fu) hpx0) (fn := Tryz.f19) (by kernel_rfl) (by kernel_rfl) (by kernel_rfl) (lpok_c22 fu) (fun d hd => out_i64_enc d _ hd) ((ev_c22 fu m_0).trans hy)
theorem good_c22 (fu : Nat) : GoodS E Tryz.prog 19 (S_c22 fu) := by
 intro xs o h y hy
 unfold S_c22 at h
 split at h
 ·rename_i a0_1 a0_2 a0_4 a0_6 za0_7 na0_7 fa0_7 za0_8 na0_8 fa0_8 za0_9 na0_9 fa0_9 za0_10 na0_10 fa0_10
  cases h
  exact goodv_c22 fu (⟨a0_1, a0_2, (⟨a0_4, (⟨a0_6, (⟨za0_7, na0_7, fa0_7⟩ : (Sl S_impl_Backend)), (⟨za0_8, na0_8, fa0_8⟩ : (Sl S_impl_Vip))⟩ : S_impl_Config)⟩ : S_impl_Watch), (⟨za0_9, na0_9, fa0_9⟩ : (Sl (Sl Int))), (⟨za0_10, na0_10, fa0_10⟩ : (Sl S_impl_Held))⟩ : S_impl_Mux) y hy
 ·cases h
def F_impl_decimal (fu : Nat) (n_0 : Int) : Option (ByteArray) :=
 (hand_dec48 n_0)
def S_c23 (fu : Nat) (xs : List (D RT den)) : Option (Out RT den) := match xs with | [.int .i64 a0_0] => some ⟨ByteArray, F_impl_decimal fu a0_0, enc_str, fun _ => true⟩ | _ => none
theorem goodv_c23 (fu : Nat) (n_0 : Int) (y : ByteArray) (hy : F_impl_decimal fu n_0 = some y) : Vm.Good E Tryz.prog 48 [(ii n_0)] (enc_str y) := good_hand_dec48 n_0 y hy
theorem good_c23 (fu : Nat) : GoodS E Tryz.prog 48 (S_c23 fu) := by
 intro xs o h y hy
 unfold S_c23 at h
 split at h
 ·rename_i a0_0
  cases h
  exact goodv_c23 fu a0_0 y hy
 ·cases h
def F_impl_decimals_B0 {ρ : Type} (fu : Nat) (between0_0 : ByteArray) (t8_2 : (Sl Int)) (t9_3 : Int) (k0 : ByteArray → Option ρ) (out5_1 : ByteArray) (t10_4 : Int) (go : ByteArray → Int → Option ρ) : Option ρ :=
 (bif (decide (t10_4 < t9_3)) then ((bif (decide (0 ≤ t10_4) && decide ((Int.toNat t10_4) < t8_2.n)) then some () else none : Option Unit).bind fun _ => (bif (decide (t10_4 > 0)) then
  ((bif (decide (ByteArray.size out5_1 + ByteArray.size between0_0 ≤ 9223372036854775807)) then some () else none : Option Unit).bind fun _ => ((F_impl_decimal fu (t8_2.f (Int.toNat t10_4))).bind fun y355 =>
  ((bif (decide (ByteArray.size (out5_1 ++ between0_0) + ByteArray.size y355 ≤ 9223372036854775807)) then some () else none : Option Unit).bind fun _ => (go ((out5_1 ++ between0_0) ++ y355) (IntKind.wrap .i64 (t10_4 + 1)))))) else
  ((F_impl_decimal fu (t8_2.f (Int.toNat t10_4))).bind fun y356 => ((bif (decide (ByteArray.size out5_1 + ByteArray.size y356 ≤ 9223372036854775807)) then some () else none : Option Unit).bind fun _ =>
  (go (out5_1 ++ y356) (IntKind.wrap .i64 (t10_4 + 1))))))) else (k0 out5_1))
def F_impl_decimals (fu : Nat) (between_0 : ByteArray) (list_1 : (Sl Int)) : Option (ByteArray) :=
 (L (fun w0 go0 => F_impl_decimals_B0 fu between_0 list_1 ((list_1.n : Nat) : Int) (fun z357 => (some z357)) w0.1 w0.2 (fun q0 q1 => go0 (q0, q1))) fu (((⟨#[]⟩ : ByteArray), 0) : ByteArray × Int))
def pcf_c24 (fu f : Nat) (xs : List (D RT den)) : Option (Out RT den) := match f with | 48 => S_c23 fu xs | _ => none
def pc_c24 (fu : Nat) : Pc RT den := ⟨pcf_c24 fu, fun _ => false, fun _ => false, pcd0, pcd0, pcd0, pcx0⟩
def msk_c24 (b : Nat) : List Nat := match b with | 0 => (1 :: 2 :: 3 :: 4 :: 6 :: 7 :: (rg 11 15 [])) | 100000 => (0 :: 1 :: 2 :: 3 :: (rg 6 20 [])) | _ => []
def ps_c24_0 : List (Pat RT) := (.flat .str :: (fq 4 (.flat .str :: .flat .q :: .flat .q :: .flat (.rs .i64) :: .flat (.int .i64) :: .flat (.int .i64) :: (fq 15 []))))
def os_c24_0 : List (OP RT) := []
def conv_c24_0 (r : Raw den ps_c24_0 os_c24_0) : (ByteArray × (Sl Int) × Int) × (ByteArray × Int) := ((r.1.1, (e5 r.1).2.2.2.1, (e5 r.1).2.2.2.2.1), ((e5 r.1).1, (e10 r.1).1))
def back_c24_0 (c : ByteArray × (Sl Int) × Int) (w : ByteArray × Int) : St RT den := ⟨((.str c.1) :: (qs 4 ((.str w.1) :: .q :: .q :: (.rs c.2.1.z .i64 c.2.1.n c.2.1.f) :: (ii c.2.2) :: (ii w.2) :: (qs 15 [])))), []⟩
def Bk_c24_0 {ρ : Type} (fu : Nat) (c : ByteArray × (Sl Int) × Int) (k : Ex → St RT den → Option ρ) (w : ByteArray × Int) (go : (ByteArray × Int) → Option ρ) : Option ρ := F_impl_decimals_B0 fu c.1 c.2.1 c.2.2 (fun a0 => k (.exit 0) ⟨(qs 5 ((.str a0) :: (qs 20 []))), []⟩) w.1 w.2 (fun q0 q1 => go (q0, q1))
def lp_c24 (fu : Nat) : Lp RT den (ByteArray) := ⟨fun b s k => match b with | 0 => handle ps_c24_0 os_c24_0 conv_c24_0 (Bk_c24_0 fu) fu s k | _ => none, inl0⟩
theorem ev_c24 (fu : Nat) (between_0 : ByteArray) (list_1 : (Sl Int)) : evFun E (pc_c24 fu) msk_c24 (lp_c24 fu) out_str 49 [(.str between_0), (.rs list_1.z .i64 list_1.n list_1.f)] = F_impl_decimals fu between_0 list_1 := by kernel_rfl
noncomputable def body_c24 : Code := Tryz.f49.body.getD .skip
noncomputable def lc_c24_0 : Code := ((loops 0 body_c24).getD 0 (0, .skip)).2
theorem round_c24_0 (fu : Nat) : RoundOk E (pc_c24 fu) msk_c24 (lp_c24 fu) 0 lc_c24_0 back_c24_0 0 100000 0 (Bk_c24_0 fu) := fun it k c w => by kernel_rfl
theorem lpok_c24_0 (fu : Nat) : LpAt E (pc_c24 fu) msk_c24 (lp_c24 fu) 0 0 100000 0 lc_c24_0 :=
 handle_ok (ps := ps_c24_0) (os := os_c24_0) (conv := conv_c24_0) (B := Bk_c24_0 fu) (fu := fu) back_c24_0 (fun raw => by kernel_rfl) 0 (fun c w => by kernel_rfl) (round_c24_0 fu)
theorem lpok_c24 (fu : Nat) : LpOk E (pc_c24 fu) 0 msk_c24 (lp_c24 fu) (loops 0 body_c24) := lp_nil (loop_all 1 (by kernel_rfl) fun i hi => match i, hi with
 | 0, _ => by
  have h : (loops 0 body_c24).getD 0 (0, .skip) = (0, lc_c24_0) := by kernel_rfl
  rw [h]; exact lpok_c24_0 fu
 | i + 1, hi => absurd hi (by omega)) (by kernel_rfl)
def S_c24 (fu : Nat) (xs : List (D RT den)) : Option (Out RT den) := match xs with | [.str a0_0, .rs za1_0 .i64 na1_0 fa1_0] => some ⟨ByteArray, F_impl_decimals fu a0_0 (⟨za1_0, na1_0, fa1_0⟩ : (Sl Int)), enc_str, fun _ => true⟩ | _ => none
theorem hpc_c24 (fu : Nat) : HpcOk E Tryz.prog (pcf_c24 fu) := by
 intro f xs o h
 unfold pcf_c24 at h
 split at h
 ·exact good_c23 fu xs o h
 ·cases h
theorem goodv_c24 (fu : Nat) (between_0 : ByteArray) (list_1 : (Sl Int)) (y : ByteArray) (hy : F_impl_decimals fu between_0 list_1 = some y) : Vm.Good E Tryz.prog 49 [(.str between_0), (.rs list_1.z .i64 list_1.n list_1.f)] (enc_str y) :=
 fun_good E_ok (pc_good (pc := pc_c24 fu) (hpc_c24 fu) hpx0) (fn := Tryz.f49) (by kernel_rfl) (by kernel_rfl) (by kernel_rfl) (lpok_c24 fu) (fun d hd => out_str_enc d _ hd) ((ev_c24 fu between_0 list_1).trans hy)
theorem good_c24 (fu : Nat) : GoodS E Tryz.prog 49 (S_c24 fu) := by
 intro xs o h y hy
 unfold S_c24 at h
 split at h
 ·rename_i a0_0 za1_0 na1_0 fa1_0
  cases h
  exact goodv_c24 fu a0_0 (⟨za1_0, na1_0, fa1_0⟩ : (Sl Int)) y hy
 ·cases h
def F_impl_addressText (fu : Nat) (a_0 : Int) : Option (ByteArray) :=
 ((F_impl_decimals fu (⟨#[46]⟩ : ByteArray) (⟨(some false), 4, (fun i => ([(shrInt .i64 a_0 24), (bitsAnd .i64 (shrInt .i64 a_0 16) 255), (bitsAnd .i64 (shrInt .i64 a_0 8) 255),
  (bitsAnd .i64 a_0 255)] : List (Int)).getD i (dflt .i64))⟩ : (Sl Int))).bind fun y354 => (some y354))
def pcf_c25 (fu f : Nat) (xs : List (D RT den)) : Option (Out RT den) := match f with | 49 => S_c24 fu xs | _ => none
def pc_c25 (fu : Nat) : Pc RT den := ⟨pcf_c25 fu, fun _ => false, fun _ => false, pcd0, pcd0, pcd0, pcx0⟩
def msk_c25 (b : Nat) : List Nat := []
def lp_c25 (fu : Nat) : Lp RT den (ByteArray) := ⟨fun b s k => none, inl0⟩
theorem ev_c25 (fu : Nat) (a_0 : Int) : evFun E (pc_c25 fu) msk_c25 (lp_c25 fu) out_str 47 [(ii a_0)] = F_impl_addressText fu a_0 := by kernel_rfl
noncomputable def body_c25 : Code := Tryz.f47.body.getD .skip
theorem lpok_c25 (fu : Nat) : LpOk E (pc_c25 fu) 0 msk_c25 (lp_c25 fu) (loops 0 body_c25) := lp_nil (loop_nil (by kernel_rfl)) (by kernel_rfl)
def S_c25 (fu : Nat) (xs : List (D RT den)) : Option (Out RT den) := match xs with | [.int .i64 a0_0] => some ⟨ByteArray, F_impl_addressText fu a0_0, enc_str, fun _ => true⟩ | _ => none
theorem hpc_c25 (fu : Nat) : HpcOk E Tryz.prog (pcf_c25 fu) := by
 intro f xs o h
 unfold pcf_c25 at h
 split at h
 ·exact good_c24 fu xs o h
 ·cases h
theorem goodv_c25 (fu : Nat) (a_0 : Int) (y : ByteArray) (hy : F_impl_addressText fu a_0 = some y) : Vm.Good E Tryz.prog 47 [(ii a_0)] (enc_str y) :=
 fun_good E_ok (pc_good (pc := pc_c25 fu) (hpc_c25 fu) hpx0) (fn := Tryz.f47) (by kernel_rfl) (by kernel_rfl) (by kernel_rfl) (lpok_c25 fu) (fun d hd => out_str_enc d _ hd) ((ev_c25 fu a_0).trans hy)
theorem good_c25 (fu : Nat) : GoodS E Tryz.prog 47 (S_c25 fu) := by
 intro xs o h y hy
 unfold S_c25 at h
 split at h
 ·rename_i a0_0
  cases h
  exact goodv_c25 fu a0_0 y hy
 ·cases h
def F_impl_muxText_B0 {ρ : Type} (fu : Nat) (t31_1 : (Sl S_impl_Held)) (t32_2 o0_4 o0_5 : Int) (o0_6 : Bool) (o0_7 : Int) (o0_8 : (Sl S_impl_Backend)) (o0_9 : (Sl S_impl_Vip)) (o0_10 : (Sl (Sl Int))) (o0_11 : (Sl S_impl_Held)) (k0 : ByteArray → Option ρ) (out3_0 : ByteArray) (t33_3 : Int) (go : ByteArray → Int → Option ρ) : Option ρ :=
 (bif (decide (t33_3 < t32_2)) then ((bif (decide (0 ≤ t33_3) && decide ((Int.toNat t33_3) < t31_1.n)) then some () else none : Option Unit).bind fun _ => ((F_impl_addressText fu (t31_1.f (Int.toNat t33_3)).Flow.From).bind fun y350 =>
  ((bif (decide (ByteArray.size (⟨#[104, 101, 108, 100, 32]⟩ : ByteArray) + ByteArray.size y350 ≤ 9223372036854775807)) then some () else none : Option Unit).bind fun _ => ((bif (decide (ByteArray.size ((⟨#[104,
  101, 108, 100, 32]⟩ : ByteArray) ++ y350) + ByteArray.size (⟨#[32]⟩ : ByteArray) ≤ 9223372036854775807)) then some () else none : Option Unit).bind fun _ => ((F_impl_decimals fu (⟨#[32]⟩ : ByteArray) (⟨(some false),
  3, (fun i => ([(t31_1.f (Int.toNat t33_3)).Flow.FromP, (t31_1.f (Int.toNat t33_3)).Name, (t31_1.f (Int.toNat t33_3)).Seen] : List (Int)).getD i (dflt .i64))⟩ : (Sl Int))).bind fun y351 =>
  ((bif (decide (ByteArray.size (((⟨#[104, 101, 108, 100, 32]⟩ : ByteArray) ++ y350) ++ (⟨#[32]⟩ : ByteArray)) + ByteArray.size y351 ≤ 9223372036854775807)) then some () else none : Option Unit).bind fun _ =>
  ((bif (decide (ByteArray.size ((((⟨#[104, 101, 108, 100, 32]⟩ : ByteArray) ++ y350) ++ (⟨#[32]⟩ : ByteArray)) ++ y351) + ByteArray.size (⟨#[10]⟩ : ByteArray) ≤ 9223372036854775807)) then
  some () else none : Option Unit).bind fun _ => ((bif (decide (ByteArray.size out3_0 + ByteArray.size (((((⟨#[104, 101, 108, 100, 32]⟩ : ByteArray) ++ y350) ++ (⟨#[32]⟩ : ByteArray)) ++ y351) ++ (⟨#[10]⟩ : ByteArray)) ≤ 9223372036854775807)) then
  some () else none : Option Unit).bind fun _ => (go (out3_0 ++ (((((⟨#[104, 101, 108, 100, 32]⟩ : ByteArray) ++ y350) ++ (⟨#[32]⟩ : ByteArray)) ++ y351) ++ (⟨#[10]⟩ : ByteArray))) (IntKind.wrap .i64 (t33_3 + 1))))))))))) else
  (k0 out3_0))
def F_impl_muxText (fu : Nat) (m_0 : S_impl_Mux) : Option (ByteArray) :=
 ((F_impl_addressText fu m_0.Address).bind fun y347 => ((bif (decide (ByteArray.size (⟨#[109, 117, 120, 32]⟩ : ByteArray) + ByteArray.size y347 ≤ 9223372036854775807)) then some () else
  none : Option Unit).bind fun _ => ((bif (decide (ByteArray.size ((⟨#[109, 117, 120, 32]⟩ : ByteArray) ++ y347) + ByteArray.size (⟨#[32]⟩ : ByteArray) ≤ 9223372036854775807)) then
  some () else none : Option Unit).bind fun _ => ((F_impl_decimal fu m_0.Now).bind fun y348 => ((bif (decide (ByteArray.size (((⟨#[109, 117, 120, 32]⟩ : ByteArray) ++ y347) ++ (⟨#[32]⟩ : ByteArray)) + ByteArray.size y348 ≤ 9223372036854775807)) then
  some () else none : Option Unit).bind fun _ => ((bif (decide (ByteArray.size ((((⟨#[109, 117, 120, 32]⟩ : ByteArray) ++ y347) ++ (⟨#[32]⟩ : ByteArray)) ++ y348) + ByteArray.size (⟨#[10]⟩ : ByteArray) ≤ 9223372036854775807)) then
  some () else none : Option Unit).bind fun _ => (bif m_0.Watch.Ready then ((F_impl_decimal fu m_0.Watch.Config.Version).bind fun y349 => ((bif (decide (ByteArray.size (⟨#[118,
  101, 114, 115, 105, 111, 110, 32]⟩ : ByteArray) + ByteArray.size y349 ≤ 9223372036854775807)) then some () else none : Option Unit).bind fun _ => ((bif (decide (ByteArray.size ((⟨#[118,
  101, 114, 115, 105, 111, 110, 32]⟩ : ByteArray) ++ y349) + ByteArray.size (⟨#[10]⟩ : ByteArray) ≤ 9223372036854775807)) then some () else none : Option Unit).bind fun _ => ((bif (decide (ByteArray.size (((((⟨#[109,
  117, 120, 32]⟩ : ByteArray) ++ y347) ++ (⟨#[32]⟩ : ByteArray)) ++ y348) ++ (⟨#[10]⟩ : ByteArray)) + ByteArray.size (((⟨#[118, 101, 114, 115, 105, 111, 110, 32]⟩ : ByteArray) ++ y349) ++ (⟨#[10]⟩ : ByteArray)) ≤ 9223372036854775807)) then
  some () else none : Option Unit).bind fun _ => (L (fun w0 go0 => F_impl_muxText_B0 fu m_0.Cache ((m_0.Cache.n : Nat) : Int) m_0.Address m_0.Now m_0.Watch.Ready m_0.Watch.Config.Version m_0.Watch.Config.Backends m_0.Watch.Config.Vips m_0.Tables m_0.Cache (fun z352 =>
  (some z352)) w0.1 w0.2 (fun q0 q1 => go0 (q0, q1))) fu ((((((((⟨#[109, 117, 120, 32]⟩ : ByteArray) ++ y347) ++ (⟨#[32]⟩ : ByteArray)) ++ y348) ++ (⟨#[10]⟩ : ByteArray)) ++ (((⟨#[118,
  101, 114, 115, 105, 111, 110, 32]⟩ : ByteArray) ++ y349) ++ (⟨#[10]⟩ : ByteArray))), 0) : ByteArray × Int)))))) else ((bif (decide (ByteArray.size (((((⟨#[109, 117, 120, 32]⟩ : ByteArray) ++ y347) ++ (⟨#[32]⟩ : ByteArray)) ++ y348) ++ (⟨#[10]⟩ : ByteArray)) + ByteArray.size (⟨#[101,
  109, 112, 116, 121, 10]⟩ : ByteArray) ≤ 9223372036854775807)) then some () else none : Option Unit).bind fun _ => (L (fun w0 go0 => F_impl_muxText_B0 fu m_0.Cache ((m_0.Cache.n : Nat) : Int) m_0.Address m_0.Now m_0.Watch.Ready m_0.Watch.Config.Version m_0.Watch.Config.Backends m_0.Watch.Config.Vips m_0.Tables m_0.Cache (fun z353 =>
  (some z353)) w0.1 w0.2 (fun q0 q1 => go0 (q0, q1))) fu ((((((((⟨#[109, 117, 120, 32]⟩ : ByteArray) ++ y347) ++ (⟨#[32]⟩ : ByteArray)) ++ y348) ++ (⟨#[10]⟩ : ByteArray)) ++ (⟨#[101,
  109, 112, 116, 121, 10]⟩ : ByteArray)), 0) : ByteArray × Int))))))))))
def pcf_c26 (fu f : Nat) (xs : List (D RT den)) : Option (Out RT den) := match f with | 47 => S_c25 fu xs | 48 => S_c23 fu xs | 49 => S_c24 fu xs | _ => none
def pc_c26 (fu : Nat) : Pc RT den := ⟨pcf_c26 fu, fun _ => false, fun _ => false, pcd0, pcd0, pcd0, pcx0⟩
def msk_c26 (b : Nat) : List Nat := match b with | 0 => (0 :: 1 :: 2 :: (rg 4 27 (rg 34 24 []))) | 100000 => (0 :: 1 :: (rg 4 54 [])) | _ => []
def ps_c26_0 : List (Pat RT) := (.flat .q :: .flat .q :: .flat .q :: .flat .str :: (fq 27 (.flat (.rs .impl_Held) :: .flat (.int .i64) :: .flat (.int .i64) :: (fq 24 []))))
def os_c26_0 : List (OP RT) := [.box false [(.int .i64), (.int .i64), .bool, (.int .i64), (.rs .impl_Backend), (.rs .impl_Vip), (.rs .sl_i64), (.rs .impl_Held)]]
def conv_c26_0 (r : Raw den ps_c26_0 os_c26_0) : ((Sl S_impl_Held) × Int × Int × Int × Bool × Int × (Sl S_impl_Backend) × (Sl S_impl_Vip) × (Sl (Sl Int)) × (Sl S_impl_Held)) × (ByteArray × Int) := (((e10 (e20 r.1)).2.1, (e10 (e20 r.1)).2.2.1, r.2.1.1, r.2.1.2.1, r.2.1.2.2.1, r.2.1.2.2.2.1, r.2.1.2.2.2.2.1, (e5 r.2.1).1, (e5 r.2.1).2.1, (e5 r.2.1).2.2.1), (r.1.2.2.2.1, (e10 (e20 r.1)).2.2.2.1))
def back_c26_0 (c : (Sl S_impl_Held) × Int × Int × Int × Bool × Int × (Sl S_impl_Backend) × (Sl S_impl_Vip) × (Sl (Sl Int)) × (Sl S_impl_Held)) (w : ByteArray × Int) : St RT den := ⟨(.q :: .q :: .q :: (.str w.1) :: (qs 27 ((.rs c.1.z .impl_Held c.1.n c.1.f) :: (ii c.2.1) :: (ii w.2) :: (qs 24 [])))), [(.box false [(ii c.2.2.1), (ii c.2.2.2.1), (.bool c.2.2.2.2.1), (ii (e5 c).1), (.rs (e5 c).2.1.z .impl_Backend (e5 c).2.1.n (e5 c).2.1.f), (.rs (e5 c).2.2.1.z .impl_Vip (e5 c).2.2.1.n (e5 c).2.2.1.f), (.rs (e5 c).2.2.2.1.z .sl_i64 (e5 c).2.2.2.1.n (e5 c).2.2.2.1.f), (.rs (e5 c).2.2.2.2.z .impl_Held (e5 c).2.2.2.2.n (e5 c).2.2.2.2.f)])]⟩
def Bk_c26_0 {ρ : Type} (fu : Nat) (c : (Sl S_impl_Held) × Int × Int × Int × Bool × Int × (Sl S_impl_Backend) × (Sl S_impl_Vip) × (Sl (Sl Int)) × (Sl S_impl_Held)) (k : Ex → St RT den → Option ρ) (w : ByteArray × Int) (go : (ByteArray × Int) → Option ρ) : Option ρ := F_impl_muxText_B0 fu c.1 c.2.1 c.2.2.1 c.2.2.2.1 c.2.2.2.2.1 (e5 c).1 (e5 c).2.1 (e5 c).2.2.1 (e5 c).2.2.2.1 (e5 c).2.2.2.2 (fun a0 => k (.exit 0) ⟨(.q :: .q :: .q :: (.str a0) :: (qs 54 [])), [(.box false [(ii c.2.2.1), (ii c.2.2.2.1), (.bool c.2.2.2.2.1), (ii (e5 c).1), (.rs (e5 c).2.1.z .impl_Backend (e5 c).2.1.n (e5 c).2.1.f), (.rs (e5 c).2.2.1.z .impl_Vip (e5 c).2.2.1.n (e5 c).2.2.1.f), (.rs (e5 c).2.2.2.1.z .sl_i64 (e5 c).2.2.2.1.n (e5 c).2.2.2.1.f), (.rs (e5 c).2.2.2.2.z .impl_Held (e5 c).2.2.2.2.n (e5 c).2.2.2.2.f)])]⟩) w.1 w.2 (fun q0 q1 => go (q0, q1))
def lp_c26 (fu : Nat) : Lp RT den (ByteArray) := ⟨fun b s k => match b with | 0 => handle ps_c26_0 os_c26_0 conv_c26_0 (Bk_c26_0 fu) fu s k | _ => none, inl0⟩
theorem ev_c26 (fu : Nat) (m_0 : S_impl_Mux) : evFun E (pc_c26 fu) msk_c26 (lp_c26 fu) out_str 20 [(.agg [(ii m_0.Address), (ii m_0.Now), (.bool m_0.Watch.Ready), (ii m_0.Watch.Config.Version), (.rs m_0.Watch.Config.Backends.z .impl_Backend m_0.Watch.Config.Backends.n m_0.Watch.Config.Backends.f), (.rs m_0.Watch.Config.Vips.z .impl_Vip m_0.Watch.Config.Vips.n m_0.Watch.Config.Vips.f), (.rs m_0.Tables.z .sl_i64 m_0.Tables.n m_0.Tables.f), (.rs m_0.Cache.z .impl_Held m_0.Cache.n m_0.Cache.f)])] = F_impl_muxText fu m_0 := by kernel_rfl
noncomputable def body_c26 : Code := Tryz.f20.body.getD .skip
noncomputable def lc_c26_0 : Code := ((loops 0 body_c26).getD 0 (0, .skip)).2
theorem round_c26_0 (fu : Nat) : RoundOk E (pc_c26 fu) msk_c26 (lp_c26 fu) 0 lc_c26_0 back_c26_0 0 100000 1 (Bk_c26_0 fu) := fun it k c w => by kernel_rfl
theorem lpok_c26_0 (fu : Nat) : LpAt E (pc_c26 fu) msk_c26 (lp_c26 fu) 0 0 100000 0 lc_c26_0 :=
 handle_ok (ps := ps_c26_0) (os := os_c26_0) (conv := conv_c26_0) (B := Bk_c26_0 fu) (fu := fu) back_c26_0 (fun raw => by kernel_rfl) 1 (fun c w => by kernel_rfl) (round_c26_0 fu)
theorem lpok_c26 (fu : Nat) : LpOk E (pc_c26 fu) 0 msk_c26 (lp_c26 fu) (loops 0 body_c26) := lp_nil (loop_all 1 (by kernel_rfl) fun i hi => match i, hi with
 | 0, _ => by
  have h : (loops 0 body_c26).getD 0 (0, .skip) = (0, lc_c26_0) := by kernel_rfl
  rw [h]; exact lpok_c26_0 fu
 | i + 1, hi => absurd hi (by omega)) (by kernel_rfl)
def S_c26 (fu : Nat) (xs : List (D RT den)) : Option (Out RT den) := match xs with | [.agg [.int .i64 a0_1, .int .i64 a0_2, .bool a0_4, .int .i64 a0_6, .rs za0_7 .impl_Backend na0_7 fa0_7, .rs za0_8 .impl_Vip na0_8 fa0_8, .rs za0_9 .sl_i64 na0_9 fa0_9, .rs za0_10 .impl_Held na0_10 fa0_10]] => some ⟨ByteArray, F_impl_muxText fu (⟨a0_1, a0_2, (⟨a0_4, (⟨a0_6, (⟨za0_7, na0_7, fa0_7⟩ : (Sl S_impl_Backend)), (⟨za0_8, na0_8, fa0_8⟩ : (Sl S_impl_Vip))⟩ : S_impl_Config)⟩ : S_impl_Watch), (⟨za0_9, na0_9, fa0_9⟩ : (Sl (Sl Int))), (⟨za0_10, na0_10, fa0_10⟩ : (Sl S_impl_Held))⟩ : S_impl_Mux), enc_str, fun _ => true⟩ | _ => none
theorem hpc_c26 (fu : Nat) : HpcOk E Tryz.prog (pcf_c26 fu) := by
 intro f xs o h
 unfold pcf_c26 at h
 split at h
 ·exact good_c25 fu xs o h
 ·exact good_c23 fu xs o h
 ·exact good_c24 fu xs o h
 ·cases h
theorem goodv_c26 (fu : Nat) (m_0 : S_impl_Mux) (y : ByteArray) (hy : F_impl_muxText fu m_0 = some y) : Vm.Good E Tryz.prog 20 [(.agg [(ii m_0.Address), (ii m_0.Now), (.bool m_0.Watch.Ready), (ii m_0.Watch.Config.Version), (.rs m_0.Watch.Config.Backends.z .impl_Backend m_0.Watch.Config.Backends.n m_0.Watch.Config.Backends.f), (.rs m_0.Watch.Config.Vips.z .impl_Vip m_0.Watch.Config.Vips.n m_0.Watch.Config.Vips.f), (.rs m_0.Tables.z .sl_i64 m_0.Tables.n m_0.Tables.f), (.rs m_0.Cache.z .impl_Held m_0.Cache.n m_0.Cache.f)])] (enc_str y) :=
 fun_good E_ok (pc_good (pc := pc_c26 fu) (hpc_c26 fu) hpx0) (fn := Tryz.f20) (by kernel_rfl) (by kernel_rfl) (by kernel_rfl) (lpok_c26 fu) (fun d hd => out_str_enc d _ hd) ((ev_c26 fu m_0).trans hy)
theorem good_c26 (fu : Nat) : GoodS E Tryz.prog 20 (S_c26 fu) := by
 intro xs o h y hy
 unfold S_c26 at h
 split at h
 ·rename_i a0_1 a0_2 a0_4 a0_6 za0_7 na0_7 fa0_7 za0_8 na0_8 fa0_8 za0_9 na0_9 fa0_9 za0_10 na0_10 fa0_10
  cases h
  exact goodv_c26 fu (⟨a0_1, a0_2, (⟨a0_4, (⟨a0_6, (⟨za0_7, na0_7, fa0_7⟩ : (Sl S_impl_Backend)), (⟨za0_8, na0_8, fa0_8⟩ : (Sl S_impl_Vip))⟩ : S_impl_Config)⟩ : S_impl_Watch), (⟨za0_9, na0_9, fa0_9⟩ : (Sl (Sl Int))), (⟨za0_10, na0_10, fa0_10⟩ : (Sl S_impl_Held))⟩ : S_impl_Mux) y hy
 ·cases h
def F_impl_MuxText (fu : Nat) (m_0 : S_impl_Mux) : Option (S_impl_TextResult) :=
 ((F_impl_MuxFault fu m_0).bind fun y172 => (bif (y172 != 0) then (some (⟨y172, (⟨#[]⟩ : ByteArray)⟩ : S_impl_TextResult)) else ((F_impl_muxText fu m_0).bind fun y173 => (some (⟨0,
  y173⟩ : S_impl_TextResult)))))
def pcf_c27 (fu f : Nat) (xs : List (D RT den)) : Option (Out RT den) := match f with | 19 => S_c22 fu xs | 20 => S_c26 fu xs | _ => none
def pc_c27 (fu : Nat) : Pc RT den := ⟨pcf_c27 fu, fun _ => false, fun _ => false, pcd0, pcd0, pcd0, pcx0⟩
def msk_c27 (b : Nat) : List Nat := []
def lp_c27 (fu : Nat) : Lp RT den (S_impl_TextResult) := ⟨fun b s k => none, inl0⟩
theorem ev_c27 (fu : Nat) (m_0 : S_impl_Mux) : evFun E (pc_c27 fu) msk_c27 (lp_c27 fu) out_impl_TextResult 7 [(.agg [(ii m_0.Address), (ii m_0.Now), (.bool m_0.Watch.Ready), (ii m_0.Watch.Config.Version), (.rs m_0.Watch.Config.Backends.z .impl_Backend m_0.Watch.Config.Backends.n m_0.Watch.Config.Backends.f), (.rs m_0.Watch.Config.Vips.z .impl_Vip m_0.Watch.Config.Vips.n m_0.Watch.Config.Vips.f), (.rs m_0.Tables.z .sl_i64 m_0.Tables.n m_0.Tables.f), (.rs m_0.Cache.z .impl_Held m_0.Cache.n m_0.Cache.f)])] = F_impl_MuxText fu m_0 := by kernel_rfl
noncomputable def body_c27 : Code := Tryz.f7.body.getD .skip
theorem lpok_c27 (fu : Nat) : LpOk E (pc_c27 fu) 0 msk_c27 (lp_c27 fu) (loops 0 body_c27) := lp_nil (loop_nil (by kernel_rfl)) (by kernel_rfl)
def S_c27 (fu : Nat) (xs : List (D RT den)) : Option (Out RT den) := match xs with | [.agg [.int .i64 a0_1, .int .i64 a0_2, .bool a0_4, .int .i64 a0_6, .rs za0_7 .impl_Backend na0_7 fa0_7, .rs za0_8 .impl_Vip na0_8 fa0_8, .rs za0_9 .sl_i64 na0_9 fa0_9, .rs za0_10 .impl_Held na0_10 fa0_10]] => some ⟨S_impl_TextResult, F_impl_MuxText fu (⟨a0_1, a0_2, (⟨a0_4, (⟨a0_6, (⟨za0_7, na0_7, fa0_7⟩ : (Sl S_impl_Backend)), (⟨za0_8, na0_8, fa0_8⟩ : (Sl S_impl_Vip))⟩ : S_impl_Config)⟩ : S_impl_Watch), (⟨za0_9, na0_9, fa0_9⟩ : (Sl (Sl Int))), (⟨za0_10, na0_10, fa0_10⟩ : (Sl S_impl_Held))⟩ : S_impl_Mux), enc_impl_TextResult, fun _ => true⟩ | _ => none
theorem hpc_c27 (fu : Nat) : HpcOk E Tryz.prog (pcf_c27 fu) := by
 intro f xs o h
 unfold pcf_c27 at h
 split at h
 ·exact good_c22 fu xs o h
 ·exact good_c26 fu xs o h
 ·cases h
theorem goodv_c27 (fu : Nat) (m_0 : S_impl_Mux) (y : S_impl_TextResult) (hy : F_impl_MuxText fu m_0 = some y) : Vm.Good E Tryz.prog 7 [(.agg [(ii m_0.Address), (ii m_0.Now), (.bool m_0.Watch.Ready), (ii m_0.Watch.Config.Version), (.rs m_0.Watch.Config.Backends.z .impl_Backend m_0.Watch.Config.Backends.n m_0.Watch.Config.Backends.f), (.rs m_0.Watch.Config.Vips.z .impl_Vip m_0.Watch.Config.Vips.n m_0.Watch.Config.Vips.f), (.rs m_0.Tables.z .sl_i64 m_0.Tables.n m_0.Tables.f), (.rs m_0.Cache.z .impl_Held m_0.Cache.n m_0.Cache.f)])] (enc_impl_TextResult y) :=
 fun_good E_ok (pc_good (pc := pc_c27 fu) (hpc_c27 fu) hpx0) (fn := Tryz.f7) (by kernel_rfl) (by kernel_rfl) (by kernel_rfl) (lpok_c27 fu) (fun d hd => out_impl_TextResult_enc d _ hd) ((ev_c27 fu m_0).trans hy)
theorem good_c27 (fu : Nat) : GoodS E Tryz.prog 7 (S_c27 fu) := by
 intro xs o h y hy
 unfold S_c27 at h
 split at h
 ·rename_i a0_1 a0_2 a0_4 a0_6 za0_7 na0_7 fa0_7 za0_8 na0_8 fa0_8 za0_9 na0_9 fa0_9 za0_10 na0_10 fa0_10
  cases h
  exact goodv_c27 fu (⟨a0_1, a0_2, (⟨a0_4, (⟨a0_6, (⟨za0_7, na0_7, fa0_7⟩ : (Sl S_impl_Backend)), (⟨za0_8, na0_8, fa0_8⟩ : (Sl S_impl_Vip))⟩ : S_impl_Config)⟩ : S_impl_Watch), (⟨za0_9, na0_9, fa0_9⟩ : (Sl (Sl Int))), (⟨za0_10, na0_10, fa0_10⟩ : (Sl S_impl_Held))⟩ : S_impl_Mux) y hy
 ·cases h
def F_laws_eqTextResult (fu : Nat) (a_0 b_1 : S_impl_TextResult) : Option (Bool) :=
 (bif (a_0.Code != b_1.Code) then (some false) else (bif (!(ByteArray.toList a_0.Text == ByteArray.toList b_1.Text)) then (some false) else (some true)))
def pc_c28 (fu : Nat) : Pc RT den := ⟨pcf0, fun _ => false, fun _ => false, pcd0, pcd0, pcd0, pcx0⟩
def msk_c28 (b : Nat) : List Nat := []
def lp_c28 (fu : Nat) : Lp RT den (Bool) := ⟨fun b s k => none, inl0⟩
theorem ev_c28 (fu : Nat) (a_0 b_1 : S_impl_TextResult) : evFun E (pc_c28 fu) msk_c28 (lp_c28 fu) out_bo 8 [(.agg [(ii a_0.Code), (.str a_0.Text)]), (.agg [(ii b_1.Code), (.str b_1.Text)])] = F_laws_eqTextResult fu a_0 b_1 := by kernel_rfl
noncomputable def body_c28 : Code := Tryz.f8.body.getD .skip
theorem lpok_c28 (fu : Nat) : LpOk E (pc_c28 fu) 0 msk_c28 (lp_c28 fu) (loops 0 body_c28) := lp_nil (loop_nil (by kernel_rfl)) (by kernel_rfl)
def S_c28 (fu : Nat) (xs : List (D RT den)) : Option (Out RT den) := match xs with | [.agg [.int .i64 a0_1, .str a0_2], .agg [.int .i64 a1_1, .str a1_2]] => some ⟨Bool, F_laws_eqTextResult fu (⟨a0_1, a0_2⟩ : S_impl_TextResult) (⟨a1_1, a1_2⟩ : S_impl_TextResult), enc_bo, fun _ => true⟩ | _ => none
theorem goodv_c28 (fu : Nat) (a_0 b_1 : S_impl_TextResult) (y : Bool) (hy : F_laws_eqTextResult fu a_0 b_1 = some y) : Vm.Good E Tryz.prog 8 [(.agg [(ii a_0.Code), (.str a_0.Text)]), (.agg [(ii b_1.Code), (.str b_1.Text)])] (enc_bo y) :=
 fun_good E_ok (pc_good (pc := pc_c28 fu) hpc0 hpx0) (fn := Tryz.f8) (by kernel_rfl) (by kernel_rfl) (by kernel_rfl) (lpok_c28 fu) (fun d hd => out_bo_enc d _ hd) ((ev_c28 fu a_0 b_1).trans hy)
theorem good_c28 (fu : Nat) : GoodS E Tryz.prog 8 (S_c28 fu) := by
 intro xs o h y hy
 unfold S_c28 at h
 split at h
 ·rename_i a0_1 a0_2 a1_1 a1_2
  cases h
  exact goodv_c28 fu (⟨a0_1, a0_2⟩ : S_impl_TextResult) (⟨a1_1, a1_2⟩ : S_impl_TextResult) y hy
 ·cases h
def F_laws_eqBackend (fu : Nat) (a_0 b_1 : S_impl_Backend) : Option (Bool) :=
 (bif (a_0.Name != b_1.Name) then (some false) else (bif (a_0.Address != b_1.Address) then (some false) else (bif (a_0.Weight != b_1.Weight) then (some false) else (bif (a_0.Stage != b_1.Stage) then
  (some false) else (bif (!(a_0.Up == b_1.Up)) then (some false) else (some true))))))
def pc_c29 (fu : Nat) : Pc RT den := ⟨pcf0, fun _ => false, fun _ => false, pcd0, pcd0, pcd0, pcx0⟩
def msk_c29 (b : Nat) : List Nat := []
def lp_c29 (fu : Nat) : Lp RT den (Bool) := ⟨fun b s k => none, inl0⟩
theorem ev_c29 (fu : Nat) (a_0 b_1 : S_impl_Backend) : evFun E (pc_c29 fu) msk_c29 (lp_c29 fu) out_bo 105 [(.agg [(ii a_0.Name), (ii a_0.Address), (ii a_0.Weight), (ii a_0.Stage), (.bool a_0.Up)]), (.agg [(ii b_1.Name), (ii b_1.Address), (ii b_1.Weight), (ii b_1.Stage), (.bool b_1.Up)])] = F_laws_eqBackend fu a_0 b_1 := by kernel_rfl
noncomputable def body_c29 : Code := Tryz.f105.body.getD .skip
theorem lpok_c29 (fu : Nat) : LpOk E (pc_c29 fu) 0 msk_c29 (lp_c29 fu) (loops 0 body_c29) := lp_nil (loop_nil (by kernel_rfl)) (by kernel_rfl)
def S_c29 (fu : Nat) (xs : List (D RT den)) : Option (Out RT den) := match xs with | [.agg [.int .i64 a0_1, .int .i64 a0_2, .int .i64 a0_3, .int .i64 a0_4, .bool a0_5], .agg [.int .i64 a1_1, .int .i64 a1_2, .int .i64 a1_3, .int .i64 a1_4, .bool a1_5]] => some ⟨Bool, F_laws_eqBackend fu (⟨a0_1, a0_2, a0_3, a0_4, a0_5⟩ : S_impl_Backend) (⟨a1_1, a1_2, a1_3, a1_4, a1_5⟩ : S_impl_Backend), enc_bo, fun _ => true⟩ | _ => none
theorem goodv_c29 (fu : Nat) (a_0 b_1 : S_impl_Backend) (y : Bool) (hy : F_laws_eqBackend fu a_0 b_1 = some y) : Vm.Good E Tryz.prog 105 [(.agg [(ii a_0.Name), (ii a_0.Address), (ii a_0.Weight), (ii a_0.Stage), (.bool a_0.Up)]), (.agg [(ii b_1.Name), (ii b_1.Address), (ii b_1.Weight), (ii b_1.Stage), (.bool b_1.Up)])] (enc_bo y) :=
 fun_good E_ok (pc_good (pc := pc_c29 fu) hpc0 hpx0) (fn := Tryz.f105) (by kernel_rfl) (by kernel_rfl) (by kernel_rfl) (lpok_c29 fu) (fun d hd => out_bo_enc d _ hd) ((ev_c29 fu a_0 b_1).trans hy)
theorem good_c29 (fu : Nat) : GoodS E Tryz.prog 105 (S_c29 fu) := by
 intro xs o h y hy
 unfold S_c29 at h
 split at h
 ·rename_i a0_1 a0_2 a0_3 a0_4 a0_5 a1_1 a1_2 a1_3 a1_4 a1_5
  cases h
  exact goodv_c29 fu (⟨a0_1, a0_2, a0_3, a0_4, a0_5⟩ : S_impl_Backend) (⟨a1_1, a1_2, a1_3, a1_4, a1_5⟩ : S_impl_Backend) y hy
 ·cases h
def F_laws_eqBackendS_B0 {ρ : Type} (fu : Nat) (a0_0 b1_1 : (Sl S_impl_Backend)) (k0 : Option ρ) (k1 : Option ρ) (i5_2 : Int) (go : Int → Option ρ) : Option ρ :=
 (bif (decide (i5_2 < ((a0_0.n : Nat) : Int))) then ((bif (decide (0 ≤ i5_2) && decide ((Int.toNat i5_2) < a0_0.n)) then some () else none : Option Unit).bind fun _ => ((bif (decide (0 ≤ i5_2) &&
  decide ((Int.toNat i5_2) < b1_1.n)) then some () else none : Option Unit).bind fun _ => ((F_laws_eqBackend fu (a0_0.f (Int.toNat i5_2)) (b1_1.f (Int.toNat i5_2))).bind fun y364 =>
  (bif (!y364) then k0 else (go (IntKind.wrap .i64 (i5_2 + 1))))))) else k1)
def F_laws_eqBackendS (fu : Nat) (a_0 b_1 : (Sl S_impl_Backend)) : Option (Bool) :=
 (bif (((a_0.n : Nat) : Int) != ((b_1.n : Nat) : Int)) then (some false) else (L (fun w0 go0 => F_laws_eqBackendS_B0 fu a_0 b_1 (some false) (some true) w0 go0) fu (0 : Int)))
def pcf_c30 (fu f : Nat) (xs : List (D RT den)) : Option (Out RT den) := match f with | 105 => S_c29 fu xs | _ => none
def pc_c30 (fu : Nat) : Pc RT den := ⟨pcf_c30 fu, fun _ => false, fun _ => false, pcd0, pcd0, pcd0, pcx0⟩
def msk_c30 (b : Nat) : List Nat := match b with | 0 => (2 :: 3 :: 4 :: (rg 6 21 [])) | 100000 => (0 :: 1 :: 2 :: 3 :: (rg 5 22 [])) | _ => []
def ps_c30_0 : List (Pat RT) := (.flat (.rs .impl_Backend) :: .flat (.rs .impl_Backend) :: .flat .q :: .flat .q :: .flat .q :: .flat (.int .i64) :: (fq 21 []))
def os_c30_0 : List (OP RT) := []
def conv_c30_0 (r : Raw den ps_c30_0 os_c30_0) : ((Sl S_impl_Backend) × (Sl S_impl_Backend)) × (Int) := ((r.1.1, r.1.2.1), (e5 r.1).1)
def back_c30_0 (c : (Sl S_impl_Backend) × (Sl S_impl_Backend)) (w : Int) : St RT den := ⟨((.rs c.1.z .impl_Backend c.1.n c.1.f) :: (.rs c.2.z .impl_Backend c.2.n c.2.f) :: .q :: .q :: .q :: (ii w) :: (qs 21 [])), []⟩
def Bk_c30_0 {ρ : Type} (fu : Nat) (c : (Sl S_impl_Backend) × (Sl S_impl_Backend)) (k : Ex → St RT den → Option ρ) (w : Int) (go : (Int) → Option ρ) : Option ρ := F_laws_eqBackendS_B0 fu c.1 c.2 (k .ret ⟨(qs 4 ((.bool false) :: (qs 22 []))), []⟩) (k (.exit 0) ⟨(qs 27 []), []⟩) w go
def lp_c30 (fu : Nat) : Lp RT den (Bool) := ⟨fun b s k => match b with | 0 => handle ps_c30_0 os_c30_0 conv_c30_0 (Bk_c30_0 fu) fu s k | _ => none, inl0⟩
theorem ev_c30 (fu : Nat) (a_0 b_1 : (Sl S_impl_Backend)) : evFun E (pc_c30 fu) msk_c30 (lp_c30 fu) out_bo 76 [(.rs a_0.z .impl_Backend a_0.n a_0.f), (.rs b_1.z .impl_Backend b_1.n b_1.f)] = F_laws_eqBackendS fu a_0 b_1 := by kernel_rfl
noncomputable def body_c30 : Code := Tryz.f76.body.getD .skip
noncomputable def lc_c30_0 : Code := ((loops 0 body_c30).getD 0 (0, .skip)).2
theorem round_c30_0 (fu : Nat) : RoundOk E (pc_c30 fu) msk_c30 (lp_c30 fu) 0 lc_c30_0 back_c30_0 0 100000 0 (Bk_c30_0 fu) := fun it k c w => by kernel_rfl
theorem lpok_c30_0 (fu : Nat) : LpAt E (pc_c30 fu) msk_c30 (lp_c30 fu) 0 0 100000 0 lc_c30_0 :=
 handle_ok (ps := ps_c30_0) (os := os_c30_0) (conv := conv_c30_0) (B := Bk_c30_0 fu) (fu := fu) back_c30_0 (fun raw => by kernel_rfl) 0 (fun c w => by kernel_rfl) (round_c30_0 fu)
theorem lpok_c30 (fu : Nat) : LpOk E (pc_c30 fu) 0 msk_c30 (lp_c30 fu) (loops 0 body_c30) := lp_nil (loop_all 1 (by kernel_rfl) fun i hi => match i, hi with
 | 0, _ => by
  have h : (loops 0 body_c30).getD 0 (0, .skip) = (0, lc_c30_0) := by kernel_rfl
  rw [h]; exact lpok_c30_0 fu
 | i + 1, hi => absurd hi (by omega)) (by kernel_rfl)
def S_c30 (fu : Nat) (xs : List (D RT den)) : Option (Out RT den) := match xs with | [.rs za0_0 .impl_Backend na0_0 fa0_0, .rs za1_0 .impl_Backend na1_0 fa1_0] => some ⟨Bool, F_laws_eqBackendS fu (⟨za0_0, na0_0, fa0_0⟩ : (Sl S_impl_Backend)) (⟨za1_0, na1_0, fa1_0⟩ : (Sl S_impl_Backend)), enc_bo, fun _ => true⟩ | _ => none
theorem hpc_c30 (fu : Nat) : HpcOk E Tryz.prog (pcf_c30 fu) := by
 intro f xs o h
 unfold pcf_c30 at h
 split at h
 ·exact good_c29 fu xs o h
 ·cases h
theorem goodv_c30 (fu : Nat) (a_0 b_1 : (Sl S_impl_Backend)) (y : Bool) (hy : F_laws_eqBackendS fu a_0 b_1 = some y) : Vm.Good E Tryz.prog 76 [(.rs a_0.z .impl_Backend a_0.n a_0.f), (.rs b_1.z .impl_Backend b_1.n b_1.f)] (enc_bo y) :=
 fun_good E_ok (pc_good (pc := pc_c30 fu) (hpc_c30 fu) hpx0) (fn := Tryz.f76) (by kernel_rfl) (by kernel_rfl) (by kernel_rfl) (lpok_c30 fu) (fun d hd => out_bo_enc d _ hd) ((ev_c30 fu a_0 b_1).trans hy)
theorem good_c30 (fu : Nat) : GoodS E Tryz.prog 76 (S_c30 fu) := by
 intro xs o h y hy
 unfold S_c30 at h
 split at h
 ·rename_i za0_0 na0_0 fa0_0 za1_0 na1_0 fa1_0
  cases h
  exact goodv_c30 fu (⟨za0_0, na0_0, fa0_0⟩ : (Sl S_impl_Backend)) (⟨za1_0, na1_0, fa1_0⟩ : (Sl S_impl_Backend)) y hy
 ·cases h
def F_laws_eqInt64S_B0 {ρ : Type} (fu : Nat) (a0_0 b1_1 : (Sl Int)) (k0 : Option ρ) (k1 : Option ρ) (i5_2 : Int) (go : Int → Option ρ) : Option ρ :=
 (bif (decide (i5_2 < ((a0_0.n : Nat) : Int))) then ((bif (decide (0 ≤ i5_2) && decide ((Int.toNat i5_2) < a0_0.n)) then some () else none : Option Unit).bind fun _ => ((bif (decide (0 ≤ i5_2) &&
  decide ((Int.toNat i5_2) < b1_1.n)) then some () else none : Option Unit).bind fun _ => (bif ((a0_0.f (Int.toNat i5_2)) != (b1_1.f (Int.toNat i5_2))) then k0 else (go (IntKind.wrap .i64 (i5_2 + 1)))))) else
  k1)
def F_laws_eqInt64S (fu : Nat) (a_0 b_1 : (Sl Int)) : Option (Bool) :=
 (bif (((a_0.n : Nat) : Int) != ((b_1.n : Nat) : Int)) then (some false) else (L (fun w0 go0 => F_laws_eqInt64S_B0 fu a_0 b_1 (some false) (some true) w0 go0) fu (0 : Int)))
def pc_c31 (fu : Nat) : Pc RT den := ⟨pcf0, fun _ => false, fun _ => false, pcd0, pcd0, pcd0, pcx0⟩
def msk_c31 (b : Nat) : List Nat := match b with | 0 => (2 :: 3 :: 4 :: (rg 6 20 [])) | 100000 => (0 :: 1 :: 2 :: 3 :: (rg 5 21 [])) | _ => []
def ps_c31_0 : List (Pat RT) := (.flat (.rs .i64) :: .flat (.rs .i64) :: .flat .q :: .flat .q :: .flat .q :: .flat (.int .i64) :: (fq 20 []))
def os_c31_0 : List (OP RT) := []
def conv_c31_0 (r : Raw den ps_c31_0 os_c31_0) : ((Sl Int) × (Sl Int)) × (Int) := ((r.1.1, r.1.2.1), (e5 r.1).1)
def back_c31_0 (c : (Sl Int) × (Sl Int)) (w : Int) : St RT den := ⟨((.rs c.1.z .i64 c.1.n c.1.f) :: (.rs c.2.z .i64 c.2.n c.2.f) :: .q :: .q :: .q :: (ii w) :: (qs 20 [])), []⟩
def Bk_c31_0 {ρ : Type} (fu : Nat) (c : (Sl Int) × (Sl Int)) (k : Ex → St RT den → Option ρ) (w : Int) (go : (Int) → Option ρ) : Option ρ := F_laws_eqInt64S_B0 fu c.1 c.2 (k .ret ⟨(qs 4 ((.bool false) :: (qs 21 []))), []⟩) (k (.exit 0) ⟨(qs 26 []), []⟩) w go
def lp_c31 (fu : Nat) : Lp RT den (Bool) := ⟨fun b s k => match b with | 0 => handle ps_c31_0 os_c31_0 conv_c31_0 (Bk_c31_0 fu) fu s k | _ => none, inl0⟩
theorem ev_c31 (fu : Nat) (a_0 b_1 : (Sl Int)) : evFun E (pc_c31 fu) msk_c31 (lp_c31 fu) out_bo 51 [(.rs a_0.z .i64 a_0.n a_0.f), (.rs b_1.z .i64 b_1.n b_1.f)] = F_laws_eqInt64S fu a_0 b_1 := by kernel_rfl
noncomputable def body_c31 : Code := Tryz.f51.body.getD .skip
noncomputable def lc_c31_0 : Code := ((loops 0 body_c31).getD 0 (0, .skip)).2
theorem round_c31_0 (fu : Nat) : RoundOk E (pc_c31 fu) msk_c31 (lp_c31 fu) 0 lc_c31_0 back_c31_0 0 100000 0 (Bk_c31_0 fu) := fun it k c w => by kernel_rfl
theorem lpok_c31_0 (fu : Nat) : LpAt E (pc_c31 fu) msk_c31 (lp_c31 fu) 0 0 100000 0 lc_c31_0 :=
 handle_ok (ps := ps_c31_0) (os := os_c31_0) (conv := conv_c31_0) (B := Bk_c31_0 fu) (fu := fu) back_c31_0 (fun raw => by kernel_rfl) 0 (fun c w => by kernel_rfl) (round_c31_0 fu)
theorem lpok_c31 (fu : Nat) : LpOk E (pc_c31 fu) 0 msk_c31 (lp_c31 fu) (loops 0 body_c31) := lp_nil (loop_all 1 (by kernel_rfl) fun i hi => match i, hi with
 | 0, _ => by
  have h : (loops 0 body_c31).getD 0 (0, .skip) = (0, lc_c31_0) := by kernel_rfl
  rw [h]; exact lpok_c31_0 fu
 | i + 1, hi => absurd hi (by omega)) (by kernel_rfl)
def S_c31 (fu : Nat) (xs : List (D RT den)) : Option (Out RT den) := match xs with | [.rs za0_0 .i64 na0_0 fa0_0, .rs za1_0 .i64 na1_0 fa1_0] => some ⟨Bool, F_laws_eqInt64S fu (⟨za0_0, na0_0, fa0_0⟩ : (Sl Int)) (⟨za1_0, na1_0, fa1_0⟩ : (Sl Int)), enc_bo, fun _ => true⟩ | _ => none
theorem goodv_c31 (fu : Nat) (a_0 b_1 : (Sl Int)) (y : Bool) (hy : F_laws_eqInt64S fu a_0 b_1 = some y) : Vm.Good E Tryz.prog 51 [(.rs a_0.z .i64 a_0.n a_0.f), (.rs b_1.z .i64 b_1.n b_1.f)] (enc_bo y) :=
 fun_good E_ok (pc_good (pc := pc_c31 fu) hpc0 hpx0) (fn := Tryz.f51) (by kernel_rfl) (by kernel_rfl) (by kernel_rfl) (lpok_c31 fu) (fun d hd => out_bo_enc d _ hd) ((ev_c31 fu a_0 b_1).trans hy)
theorem good_c31 (fu : Nat) : GoodS E Tryz.prog 51 (S_c31 fu) := by
 intro xs o h y hy
 unfold S_c31 at h
 split at h
 ·rename_i za0_0 na0_0 fa0_0 za1_0 na1_0 fa1_0
  cases h
  exact goodv_c31 fu (⟨za0_0, na0_0, fa0_0⟩ : (Sl Int)) (⟨za1_0, na1_0, fa1_0⟩ : (Sl Int)) y hy
 ·cases h
def F_laws_eqVip (fu : Nat) (a_0 b_1 : S_impl_Vip) : Option (Bool) :=
 (bif (a_0.Address != b_1.Address) then (some false) else (bif (a_0.Port != b_1.Port) then (some false) else (bif (a_0.Proto != b_1.Proto) then (some false) else ((F_laws_eqInt64S fu a_0.Names b_1.Names).bind fun y366 =>
  (bif (!y366) then (some false) else (some true))))))
def pcf_c32 (fu f : Nat) (xs : List (D RT den)) : Option (Out RT den) := match f with | 51 => S_c31 fu xs | _ => none
def pc_c32 (fu : Nat) : Pc RT den := ⟨pcf_c32 fu, fun _ => false, fun _ => false, pcd0, pcd0, pcd0, pcx0⟩
def msk_c32 (b : Nat) : List Nat := []
def lp_c32 (fu : Nat) : Lp RT den (Bool) := ⟨fun b s k => none, inl0⟩
theorem ev_c32 (fu : Nat) (a_0 b_1 : S_impl_Vip) : evFun E (pc_c32 fu) msk_c32 (lp_c32 fu) out_bo 106 [(.agg [(ii a_0.Address), (ii a_0.Port), (ii a_0.Proto), (.rs a_0.Names.z .i64 a_0.Names.n a_0.Names.f)]), (.agg [(ii b_1.Address), (ii b_1.Port), (ii b_1.Proto), (.rs b_1.Names.z .i64 b_1.Names.n b_1.Names.f)])] = F_laws_eqVip fu a_0 b_1 := by kernel_rfl
noncomputable def body_c32 : Code := Tryz.f106.body.getD .skip
theorem lpok_c32 (fu : Nat) : LpOk E (pc_c32 fu) 0 msk_c32 (lp_c32 fu) (loops 0 body_c32) := lp_nil (loop_nil (by kernel_rfl)) (by kernel_rfl)
def S_c32 (fu : Nat) (xs : List (D RT den)) : Option (Out RT den) := match xs with | [.agg [.int .i64 a0_1, .int .i64 a0_2, .int .i64 a0_3, .rs za0_4 .i64 na0_4 fa0_4], .agg [.int .i64 a1_1, .int .i64 a1_2, .int .i64 a1_3, .rs za1_4 .i64 na1_4 fa1_4]] => some ⟨Bool, F_laws_eqVip fu (⟨a0_1, a0_2, a0_3, (⟨za0_4, na0_4, fa0_4⟩ : (Sl Int))⟩ : S_impl_Vip) (⟨a1_1, a1_2, a1_3, (⟨za1_4, na1_4, fa1_4⟩ : (Sl Int))⟩ : S_impl_Vip), enc_bo, fun _ => true⟩ | _ => none
theorem hpc_c32 (fu : Nat) : HpcOk E Tryz.prog (pcf_c32 fu) := by
 intro f xs o h
 unfold pcf_c32 at h
 split at h
 ·exact good_c31 fu xs o h
 ·cases h
theorem goodv_c32 (fu : Nat) (a_0 b_1 : S_impl_Vip) (y : Bool) (hy : F_laws_eqVip fu a_0 b_1 = some y) : Vm.Good E Tryz.prog 106 [(.agg [(ii a_0.Address), (ii a_0.Port), (ii a_0.Proto), (.rs a_0.Names.z .i64 a_0.Names.n a_0.Names.f)]), (.agg [(ii b_1.Address), (ii b_1.Port), (ii b_1.Proto), (.rs b_1.Names.z .i64 b_1.Names.n b_1.Names.f)])] (enc_bo y) :=
 fun_good E_ok (pc_good (pc := pc_c32 fu) (hpc_c32 fu) hpx0) (fn := Tryz.f106) (by kernel_rfl) (by kernel_rfl) (by kernel_rfl) (lpok_c32 fu) (fun d hd => out_bo_enc d _ hd) ((ev_c32 fu a_0 b_1).trans hy)
theorem good_c32 (fu : Nat) : GoodS E Tryz.prog 106 (S_c32 fu) := by
 intro xs o h y hy
 unfold S_c32 at h
 split at h
 ·rename_i a0_1 a0_2 a0_3 za0_4 na0_4 fa0_4 a1_1 a1_2 a1_3 za1_4 na1_4 fa1_4
  cases h
  exact goodv_c32 fu (⟨a0_1, a0_2, a0_3, (⟨za0_4, na0_4, fa0_4⟩ : (Sl Int))⟩ : S_impl_Vip) (⟨a1_1, a1_2, a1_3, (⟨za1_4, na1_4, fa1_4⟩ : (Sl Int))⟩ : S_impl_Vip) y hy
 ·cases h
def F_laws_eqVipS_B0 {ρ : Type} (fu : Nat) (a0_0 b1_1 : (Sl S_impl_Vip)) (k0 : Option ρ) (k1 : Option ρ) (i5_2 : Int) (go : Int → Option ρ) : Option ρ :=
 (bif (decide (i5_2 < ((a0_0.n : Nat) : Int))) then ((bif (decide (0 ≤ i5_2) && decide ((Int.toNat i5_2) < a0_0.n)) then some () else none : Option Unit).bind fun _ => ((bif (decide (0 ≤ i5_2) &&
  decide ((Int.toNat i5_2) < b1_1.n)) then some () else none : Option Unit).bind fun _ => ((F_laws_eqVip fu (a0_0.f (Int.toNat i5_2)) (b1_1.f (Int.toNat i5_2))).bind fun y365 =>
  (bif (!y365) then k0 else (go (IntKind.wrap .i64 (i5_2 + 1))))))) else k1)
def F_laws_eqVipS (fu : Nat) (a_0 b_1 : (Sl S_impl_Vip)) : Option (Bool) :=
 (bif (((a_0.n : Nat) : Int) != ((b_1.n : Nat) : Int)) then (some false) else (L (fun w0 go0 => F_laws_eqVipS_B0 fu a_0 b_1 (some false) (some true) w0 go0) fu (0 : Int)))
def pcf_c33 (fu f : Nat) (xs : List (D RT den)) : Option (Out RT den) := match f with | 106 => S_c32 fu xs | _ => none
def pc_c33 (fu : Nat) : Pc RT den := ⟨pcf_c33 fu, fun _ => false, fun _ => false, pcd0, pcd0, pcd0, pcx0⟩
def msk_c33 (b : Nat) : List Nat := match b with | 0 => (2 :: 3 :: 4 :: (rg 6 21 [])) | 100000 => (0 :: 1 :: 2 :: 3 :: (rg 5 22 [])) | _ => []
def ps_c33_0 : List (Pat RT) := (.flat (.rs .impl_Vip) :: .flat (.rs .impl_Vip) :: .flat .q :: .flat .q :: .flat .q :: .flat (.int .i64) :: (fq 21 []))
def os_c33_0 : List (OP RT) := []
def conv_c33_0 (r : Raw den ps_c33_0 os_c33_0) : ((Sl S_impl_Vip) × (Sl S_impl_Vip)) × (Int) := ((r.1.1, r.1.2.1), (e5 r.1).1)
def back_c33_0 (c : (Sl S_impl_Vip) × (Sl S_impl_Vip)) (w : Int) : St RT den := ⟨((.rs c.1.z .impl_Vip c.1.n c.1.f) :: (.rs c.2.z .impl_Vip c.2.n c.2.f) :: .q :: .q :: .q :: (ii w) :: (qs 21 [])), []⟩
def Bk_c33_0 {ρ : Type} (fu : Nat) (c : (Sl S_impl_Vip) × (Sl S_impl_Vip)) (k : Ex → St RT den → Option ρ) (w : Int) (go : (Int) → Option ρ) : Option ρ := F_laws_eqVipS_B0 fu c.1 c.2 (k .ret ⟨(qs 4 ((.bool false) :: (qs 22 []))), []⟩) (k (.exit 0) ⟨(qs 27 []), []⟩) w go
def lp_c33 (fu : Nat) : Lp RT den (Bool) := ⟨fun b s k => match b with | 0 => handle ps_c33_0 os_c33_0 conv_c33_0 (Bk_c33_0 fu) fu s k | _ => none, inl0⟩
theorem ev_c33 (fu : Nat) (a_0 b_1 : (Sl S_impl_Vip)) : evFun E (pc_c33 fu) msk_c33 (lp_c33 fu) out_bo 77 [(.rs a_0.z .impl_Vip a_0.n a_0.f), (.rs b_1.z .impl_Vip b_1.n b_1.f)] = F_laws_eqVipS fu a_0 b_1 := by kernel_rfl
noncomputable def body_c33 : Code := Tryz.f77.body.getD .skip
noncomputable def lc_c33_0 : Code := ((loops 0 body_c33).getD 0 (0, .skip)).2
theorem round_c33_0 (fu : Nat) : RoundOk E (pc_c33 fu) msk_c33 (lp_c33 fu) 0 lc_c33_0 back_c33_0 0 100000 0 (Bk_c33_0 fu) := fun it k c w => by kernel_rfl
theorem lpok_c33_0 (fu : Nat) : LpAt E (pc_c33 fu) msk_c33 (lp_c33 fu) 0 0 100000 0 lc_c33_0 :=
 handle_ok (ps := ps_c33_0) (os := os_c33_0) (conv := conv_c33_0) (B := Bk_c33_0 fu) (fu := fu) back_c33_0 (fun raw => by kernel_rfl) 0 (fun c w => by kernel_rfl) (round_c33_0 fu)
theorem lpok_c33 (fu : Nat) : LpOk E (pc_c33 fu) 0 msk_c33 (lp_c33 fu) (loops 0 body_c33) := lp_nil (loop_all 1 (by kernel_rfl) fun i hi => match i, hi with
 | 0, _ => by
  have h : (loops 0 body_c33).getD 0 (0, .skip) = (0, lc_c33_0) := by kernel_rfl
  rw [h]; exact lpok_c33_0 fu
 | i + 1, hi => absurd hi (by omega)) (by kernel_rfl)
def S_c33 (fu : Nat) (xs : List (D RT den)) : Option (Out RT den) := match xs with | [.rs za0_0 .impl_Vip na0_0 fa0_0, .rs za1_0 .impl_Vip na1_0 fa1_0] => some ⟨Bool, F_laws_eqVipS fu (⟨za0_0, na0_0, fa0_0⟩ : (Sl S_impl_Vip)) (⟨za1_0, na1_0, fa1_0⟩ : (Sl S_impl_Vip)), enc_bo, fun _ => true⟩ | _ => none
theorem hpc_c33 (fu : Nat) : HpcOk E Tryz.prog (pcf_c33 fu) := by
 intro f xs o h
 unfold pcf_c33 at h
 split at h
 ·exact good_c32 fu xs o h
 ·cases h
theorem goodv_c33 (fu : Nat) (a_0 b_1 : (Sl S_impl_Vip)) (y : Bool) (hy : F_laws_eqVipS fu a_0 b_1 = some y) : Vm.Good E Tryz.prog 77 [(.rs a_0.z .impl_Vip a_0.n a_0.f), (.rs b_1.z .impl_Vip b_1.n b_1.f)] (enc_bo y) :=
 fun_good E_ok (pc_good (pc := pc_c33 fu) (hpc_c33 fu) hpx0) (fn := Tryz.f77) (by kernel_rfl) (by kernel_rfl) (by kernel_rfl) (lpok_c33 fu) (fun d hd => out_bo_enc d _ hd) ((ev_c33 fu a_0 b_1).trans hy)
theorem good_c33 (fu : Nat) : GoodS E Tryz.prog 77 (S_c33 fu) := by
 intro xs o h y hy
 unfold S_c33 at h
 split at h
 ·rename_i za0_0 na0_0 fa0_0 za1_0 na1_0 fa1_0
  cases h
  exact goodv_c33 fu (⟨za0_0, na0_0, fa0_0⟩ : (Sl S_impl_Vip)) (⟨za1_0, na1_0, fa1_0⟩ : (Sl S_impl_Vip)) y hy
 ·cases h
def F_laws_eqConfig (fu : Nat) (a_0 b_1 : S_impl_Config) : Option (Bool) :=
 (bif (a_0.Version != b_1.Version) then (some false) else ((F_laws_eqBackendS fu a_0.Backends b_1.Backends).bind fun y362 => (bif (!y362) then (some false) else ((F_laws_eqVipS fu a_0.Vips b_1.Vips).bind fun y363 =>
  (bif (!y363) then (some false) else (some true))))))
def pcf_c34 (fu f : Nat) (xs : List (D RT den)) : Option (Out RT den) := match f with | 76 => S_c30 fu xs | 77 => S_c33 fu xs | _ => none
def pc_c34 (fu : Nat) : Pc RT den := ⟨pcf_c34 fu, fun _ => false, fun _ => false, pcd0, pcd0, pcd0, pcx0⟩
def msk_c34 (b : Nat) : List Nat := []
def lp_c34 (fu : Nat) : Lp RT den (Bool) := ⟨fun b s k => none, inl0⟩
theorem ev_c34 (fu : Nat) (a_0 b_1 : S_impl_Config) : evFun E (pc_c34 fu) msk_c34 (lp_c34 fu) out_bo 50 [(.agg [(ii a_0.Version), (.rs a_0.Backends.z .impl_Backend a_0.Backends.n a_0.Backends.f), (.rs a_0.Vips.z .impl_Vip a_0.Vips.n a_0.Vips.f)]), (.agg [(ii b_1.Version), (.rs b_1.Backends.z .impl_Backend b_1.Backends.n b_1.Backends.f), (.rs b_1.Vips.z .impl_Vip b_1.Vips.n b_1.Vips.f)])] = F_laws_eqConfig fu a_0 b_1 := by kernel_rfl
noncomputable def body_c34 : Code := Tryz.f50.body.getD .skip
theorem lpok_c34 (fu : Nat) : LpOk E (pc_c34 fu) 0 msk_c34 (lp_c34 fu) (loops 0 body_c34) := lp_nil (loop_nil (by kernel_rfl)) (by kernel_rfl)
def S_c34 (fu : Nat) (xs : List (D RT den)) : Option (Out RT den) := match xs with | [.agg [.int .i64 a0_1, .rs za0_2 .impl_Backend na0_2 fa0_2, .rs za0_3 .impl_Vip na0_3 fa0_3], .agg [.int .i64 a1_1, .rs za1_2 .impl_Backend na1_2 fa1_2, .rs za1_3 .impl_Vip na1_3 fa1_3]] => some ⟨Bool, F_laws_eqConfig fu (⟨a0_1, (⟨za0_2, na0_2, fa0_2⟩ : (Sl S_impl_Backend)), (⟨za0_3, na0_3, fa0_3⟩ : (Sl S_impl_Vip))⟩ : S_impl_Config) (⟨a1_1, (⟨za1_2, na1_2, fa1_2⟩ : (Sl S_impl_Backend)), (⟨za1_3, na1_3, fa1_3⟩ : (Sl S_impl_Vip))⟩ : S_impl_Config), enc_bo, fun _ => true⟩ | _ => none
theorem hpc_c34 (fu : Nat) : HpcOk E Tryz.prog (pcf_c34 fu) := by
 intro f xs o h
 unfold pcf_c34 at h
 split at h
 ·exact good_c30 fu xs o h
 ·exact good_c33 fu xs o h
 ·cases h
theorem goodv_c34 (fu : Nat) (a_0 b_1 : S_impl_Config) (y : Bool) (hy : F_laws_eqConfig fu a_0 b_1 = some y) : Vm.Good E Tryz.prog 50 [(.agg [(ii a_0.Version), (.rs a_0.Backends.z .impl_Backend a_0.Backends.n a_0.Backends.f), (.rs a_0.Vips.z .impl_Vip a_0.Vips.n a_0.Vips.f)]), (.agg [(ii b_1.Version), (.rs b_1.Backends.z .impl_Backend b_1.Backends.n b_1.Backends.f), (.rs b_1.Vips.z .impl_Vip b_1.Vips.n b_1.Vips.f)])] (enc_bo y) :=
 fun_good E_ok (pc_good (pc := pc_c34 fu) (hpc_c34 fu) hpx0) (fn := Tryz.f50) (by kernel_rfl) (by kernel_rfl) (by kernel_rfl) (lpok_c34 fu) (fun d hd => out_bo_enc d _ hd) ((ev_c34 fu a_0 b_1).trans hy)
theorem good_c34 (fu : Nat) : GoodS E Tryz.prog 50 (S_c34 fu) := by
 intro xs o h y hy
 unfold S_c34 at h
 split at h
 ·rename_i a0_1 za0_2 na0_2 fa0_2 za0_3 na0_3 fa0_3 a1_1 za1_2 na1_2 fa1_2 za1_3 na1_3 fa1_3
  cases h
  exact goodv_c34 fu (⟨a0_1, (⟨za0_2, na0_2, fa0_2⟩ : (Sl S_impl_Backend)), (⟨za0_3, na0_3, fa0_3⟩ : (Sl S_impl_Vip))⟩ : S_impl_Config) (⟨a1_1, (⟨za1_2, na1_2, fa1_2⟩ : (Sl S_impl_Backend)), (⟨za1_3, na1_3, fa1_3⟩ : (Sl S_impl_Vip))⟩ : S_impl_Config) y hy
 ·cases h
def F_laws_eqWatch (fu : Nat) (a_0 b_1 : S_impl_Watch) : Option (Bool) :=
 (bif (!(a_0.Ready == b_1.Ready)) then (some false) else ((F_laws_eqConfig fu a_0.Config b_1.Config).bind fun y361 => (bif (!y361) then (some false) else (some true))))
def pcf_c35 (fu f : Nat) (xs : List (D RT den)) : Option (Out RT den) := match f with | 50 => S_c34 fu xs | _ => none
def pc_c35 (fu : Nat) : Pc RT den := ⟨pcf_c35 fu, fun _ => false, fun _ => false, pcd0, pcd0, pcd0, pcx0⟩
def msk_c35 (b : Nat) : List Nat := []
def lp_c35 (fu : Nat) : Lp RT den (Bool) := ⟨fun b s k => none, inl0⟩
theorem ev_c35 (fu : Nat) (a_0 b_1 : S_impl_Watch) : evFun E (pc_c35 fu) msk_c35 (lp_c35 fu) out_bo 21 [(.agg [(.bool a_0.Ready), (ii a_0.Config.Version), (.rs a_0.Config.Backends.z .impl_Backend a_0.Config.Backends.n a_0.Config.Backends.f), (.rs a_0.Config.Vips.z .impl_Vip a_0.Config.Vips.n a_0.Config.Vips.f)]), (.agg [(.bool b_1.Ready), (ii b_1.Config.Version), (.rs b_1.Config.Backends.z .impl_Backend b_1.Config.Backends.n b_1.Config.Backends.f), (.rs b_1.Config.Vips.z .impl_Vip b_1.Config.Vips.n b_1.Config.Vips.f)])] = F_laws_eqWatch fu a_0 b_1 := by kernel_rfl
noncomputable def body_c35 : Code := Tryz.f21.body.getD .skip
theorem lpok_c35 (fu : Nat) : LpOk E (pc_c35 fu) 0 msk_c35 (lp_c35 fu) (loops 0 body_c35) := lp_nil (loop_nil (by kernel_rfl)) (by kernel_rfl)
def S_c35 (fu : Nat) (xs : List (D RT den)) : Option (Out RT den) := match xs with | [.agg [.bool a0_1, .int .i64 a0_3, .rs za0_4 .impl_Backend na0_4 fa0_4, .rs za0_5 .impl_Vip na0_5 fa0_5], .agg [.bool a1_1, .int .i64 a1_3, .rs za1_4 .impl_Backend na1_4 fa1_4, .rs za1_5 .impl_Vip na1_5 fa1_5]] => some ⟨Bool, F_laws_eqWatch fu (⟨a0_1, (⟨a0_3, (⟨za0_4, na0_4, fa0_4⟩ : (Sl S_impl_Backend)), (⟨za0_5, na0_5, fa0_5⟩ : (Sl S_impl_Vip))⟩ : S_impl_Config)⟩ : S_impl_Watch) (⟨a1_1, (⟨a1_3, (⟨za1_4, na1_4, fa1_4⟩ : (Sl S_impl_Backend)), (⟨za1_5, na1_5, fa1_5⟩ : (Sl S_impl_Vip))⟩ : S_impl_Config)⟩ : S_impl_Watch), enc_bo, fun _ => true⟩ | _ => none
theorem hpc_c35 (fu : Nat) : HpcOk E Tryz.prog (pcf_c35 fu) := by
 intro f xs o h
 unfold pcf_c35 at h
 split at h
 ·exact good_c34 fu xs o h
 ·cases h
theorem goodv_c35 (fu : Nat) (a_0 b_1 : S_impl_Watch) (y : Bool) (hy : F_laws_eqWatch fu a_0 b_1 = some y) : Vm.Good E Tryz.prog 21 [(.agg [(.bool a_0.Ready), (ii a_0.Config.Version), (.rs a_0.Config.Backends.z .impl_Backend a_0.Config.Backends.n a_0.Config.Backends.f), (.rs a_0.Config.Vips.z .impl_Vip a_0.Config.Vips.n a_0.Config.Vips.f)]), (.agg [(.bool b_1.Ready), (ii b_1.Config.Version), (.rs b_1.Config.Backends.z .impl_Backend b_1.Config.Backends.n b_1.Config.Backends.f), (.rs b_1.Config.Vips.z .impl_Vip b_1.Config.Vips.n b_1.Config.Vips.f)])] (enc_bo y) :=
 fun_good E_ok (pc_good (pc := pc_c35 fu) (hpc_c35 fu) hpx0) (fn := Tryz.f21) (by kernel_rfl) (by kernel_rfl) (by kernel_rfl) (lpok_c35 fu) (fun d hd => out_bo_enc d _ hd) ((ev_c35 fu a_0 b_1).trans hy)
theorem good_c35 (fu : Nat) : GoodS E Tryz.prog 21 (S_c35 fu) := by
 intro xs o h y hy
 unfold S_c35 at h
 split at h
 ·rename_i a0_1 a0_3 za0_4 na0_4 fa0_4 za0_5 na0_5 fa0_5 a1_1 a1_3 za1_4 na1_4 fa1_4 za1_5 na1_5 fa1_5
  cases h
  exact goodv_c35 fu (⟨a0_1, (⟨a0_3, (⟨za0_4, na0_4, fa0_4⟩ : (Sl S_impl_Backend)), (⟨za0_5, na0_5, fa0_5⟩ : (Sl S_impl_Vip))⟩ : S_impl_Config)⟩ : S_impl_Watch) (⟨a1_1, (⟨a1_3, (⟨za1_4, na1_4, fa1_4⟩ : (Sl S_impl_Backend)), (⟨za1_5, na1_5, fa1_5⟩ : (Sl S_impl_Vip))⟩ : S_impl_Config)⟩ : S_impl_Watch) y hy
 ·cases h
def F_laws_eqInt64SS_B0 {ρ : Type} (fu : Nat) (a0_0 : (Sl (Sl Int))) (b1_1 : (Sl (Sl Int))) (k0 : Option ρ) (k1 : Option ρ) (i5_2 : Int) (go : Int → Option ρ) : Option ρ :=
 (bif (decide (i5_2 < ((a0_0.n : Nat) : Int))) then ((bif (decide (0 ≤ i5_2) && decide ((Int.toNat i5_2) < a0_0.n)) then some () else none : Option Unit).bind fun _ => ((bif (decide (0 ≤ i5_2) &&
  decide ((Int.toNat i5_2) < b1_1.n)) then some () else none : Option Unit).bind fun _ => ((F_laws_eqInt64S fu (a0_0.f (Int.toNat i5_2)) (b1_1.f (Int.toNat i5_2))).bind fun y367 =>
  (bif (!y367) then k0 else (go (IntKind.wrap .i64 (i5_2 + 1))))))) else k1)
def F_laws_eqInt64SS (fu : Nat) (a_0 : (Sl (Sl Int))) (b_1 : (Sl (Sl Int))) : Option (Bool) :=
 (bif (((a_0.n : Nat) : Int) != ((b_1.n : Nat) : Int)) then (some false) else (L (fun w0 go0 => F_laws_eqInt64SS_B0 fu a_0 b_1 (some false) (some true) w0 go0) fu (0 : Int)))
def pcf_c36 (fu f : Nat) (xs : List (D RT den)) : Option (Out RT den) := match f with | 51 => S_c31 fu xs | _ => none
def pc_c36 (fu : Nat) : Pc RT den := ⟨pcf_c36 fu, fun _ => false, fun _ => false, pcd0, pcd0, pcd0, pcx0⟩
def msk_c36 (b : Nat) : List Nat := match b with | 0 => (2 :: 3 :: 4 :: (rg 6 21 [])) | 100000 => (0 :: 1 :: 2 :: 3 :: (rg 5 22 [])) | _ => []
def ps_c36_0 : List (Pat RT) := (.flat (.rs .sl_i64) :: .flat (.rs .sl_i64) :: .flat .q :: .flat .q :: .flat .q :: .flat (.int .i64) :: (fq 21 []))
def os_c36_0 : List (OP RT) := []
def conv_c36_0 (r : Raw den ps_c36_0 os_c36_0) : ((Sl (Sl Int)) × (Sl (Sl Int))) × (Int) := ((r.1.1, r.1.2.1), (e5 r.1).1)
def back_c36_0 (c : (Sl (Sl Int)) × (Sl (Sl Int))) (w : Int) : St RT den := ⟨((.rs c.1.z .sl_i64 c.1.n c.1.f) :: (.rs c.2.z .sl_i64 c.2.n c.2.f) :: .q :: .q :: .q :: (ii w) :: (qs 21 [])), []⟩
def Bk_c36_0 {ρ : Type} (fu : Nat) (c : (Sl (Sl Int)) × (Sl (Sl Int))) (k : Ex → St RT den → Option ρ) (w : Int) (go : (Int) → Option ρ) : Option ρ := F_laws_eqInt64SS_B0 fu c.1 c.2 (k .ret ⟨(qs 4 ((.bool false) :: (qs 22 []))), []⟩) (k (.exit 0) ⟨(qs 27 []), []⟩) w go
def lp_c36 (fu : Nat) : Lp RT den (Bool) := ⟨fun b s k => match b with | 0 => handle ps_c36_0 os_c36_0 conv_c36_0 (Bk_c36_0 fu) fu s k | _ => none, inl0⟩
theorem ev_c36 (fu : Nat) (a_0 : (Sl (Sl Int))) (b_1 : (Sl (Sl Int))) : evFun E (pc_c36 fu) msk_c36 (lp_c36 fu) out_bo 22 [(.rs a_0.z .sl_i64 a_0.n a_0.f), (.rs b_1.z .sl_i64 b_1.n b_1.f)] = F_laws_eqInt64SS fu a_0 b_1 := by kernel_rfl
noncomputable def body_c36 : Code := Tryz.f22.body.getD .skip
noncomputable def lc_c36_0 : Code := ((loops 0 body_c36).getD 0 (0, .skip)).2
theorem round_c36_0 (fu : Nat) : RoundOk E (pc_c36 fu) msk_c36 (lp_c36 fu) 0 lc_c36_0 back_c36_0 0 100000 0 (Bk_c36_0 fu) := fun it k c w => by kernel_rfl
theorem lpok_c36_0 (fu : Nat) : LpAt E (pc_c36 fu) msk_c36 (lp_c36 fu) 0 0 100000 0 lc_c36_0 :=
 handle_ok (ps := ps_c36_0) (os := os_c36_0) (conv := conv_c36_0) (B := Bk_c36_0 fu) (fu := fu) back_c36_0 (fun raw => by kernel_rfl) 0 (fun c w => by kernel_rfl) (round_c36_0 fu)
theorem lpok_c36 (fu : Nat) : LpOk E (pc_c36 fu) 0 msk_c36 (lp_c36 fu) (loops 0 body_c36) := lp_nil (loop_all 1 (by kernel_rfl) fun i hi => match i, hi with
 | 0, _ => by
  have h : (loops 0 body_c36).getD 0 (0, .skip) = (0, lc_c36_0) := by kernel_rfl
  rw [h]; exact lpok_c36_0 fu
 | i + 1, hi => absurd hi (by omega)) (by kernel_rfl)
def S_c36 (fu : Nat) (xs : List (D RT den)) : Option (Out RT den) := match xs with | [.rs za0_0 .sl_i64 na0_0 fa0_0, .rs za1_0 .sl_i64 na1_0 fa1_0] => some ⟨Bool, F_laws_eqInt64SS fu (⟨za0_0, na0_0, fa0_0⟩ : (Sl (Sl Int))) (⟨za1_0, na1_0, fa1_0⟩ : (Sl (Sl Int))), enc_bo, fun _ => true⟩ | _ => none
theorem hpc_c36 (fu : Nat) : HpcOk E Tryz.prog (pcf_c36 fu) := by
 intro f xs o h
 unfold pcf_c36 at h
 split at h
 ·exact good_c31 fu xs o h
 ·cases h
theorem goodv_c36 (fu : Nat) (a_0 : (Sl (Sl Int))) (b_1 : (Sl (Sl Int))) (y : Bool) (hy : F_laws_eqInt64SS fu a_0 b_1 = some y) : Vm.Good E Tryz.prog 22 [(.rs a_0.z .sl_i64 a_0.n a_0.f), (.rs b_1.z .sl_i64 b_1.n b_1.f)] (enc_bo y) :=
 fun_good E_ok (pc_good (pc := pc_c36 fu) (hpc_c36 fu) hpx0) (fn := Tryz.f22) (by kernel_rfl) (by kernel_rfl) (by kernel_rfl) (lpok_c36 fu) (fun d hd => out_bo_enc d _ hd) ((ev_c36 fu a_0 b_1).trans hy)
theorem good_c36 (fu : Nat) : GoodS E Tryz.prog 22 (S_c36 fu) := by
 intro xs o h y hy
 unfold S_c36 at h
 split at h
 ·rename_i za0_0 na0_0 fa0_0 za1_0 na1_0 fa1_0
  cases h
  exact goodv_c36 fu (⟨za0_0, na0_0, fa0_0⟩ : (Sl (Sl Int))) (⟨za1_0, na1_0, fa1_0⟩ : (Sl (Sl Int))) y hy
 ·cases h
def F_laws_eqFlow (fu : Nat) (a_0 b_1 : S_impl_Flow) : Option (Bool) :=
 (bif (a_0.From != b_1.From) then (some false) else (bif (a_0.To != b_1.To) then (some false) else (bif (a_0.Proto != b_1.Proto) then (some false) else (bif (a_0.FromP != b_1.FromP) then
  (some false) else (bif (a_0.ToP != b_1.ToP) then (some false) else (some true))))))
def pc_c37 (fu : Nat) : Pc RT den := ⟨pcf0, fun _ => false, fun _ => false, pcd0, pcd0, pcd0, pcx0⟩
def msk_c37 (b : Nat) : List Nat := []
def lp_c37 (fu : Nat) : Lp RT den (Bool) := ⟨fun b s k => none, inl0⟩
theorem ev_c37 (fu : Nat) (a_0 b_1 : S_impl_Flow) : evFun E (pc_c37 fu) msk_c37 (lp_c37 fu) out_bo 78 [(.agg [(ii a_0.From), (ii a_0.To), (ii a_0.Proto), (ii a_0.FromP), (ii a_0.ToP)]), (.agg [(ii b_1.From), (ii b_1.To), (ii b_1.Proto), (ii b_1.FromP), (ii b_1.ToP)])] = F_laws_eqFlow fu a_0 b_1 := by kernel_rfl
noncomputable def body_c37 : Code := Tryz.f78.body.getD .skip
theorem lpok_c37 (fu : Nat) : LpOk E (pc_c37 fu) 0 msk_c37 (lp_c37 fu) (loops 0 body_c37) := lp_nil (loop_nil (by kernel_rfl)) (by kernel_rfl)
def S_c37 (fu : Nat) (xs : List (D RT den)) : Option (Out RT den) := match xs with | [.agg [.int .i64 a0_1, .int .i64 a0_2, .int .i64 a0_3, .int .i64 a0_4, .int .i64 a0_5], .agg [.int .i64 a1_1, .int .i64 a1_2, .int .i64 a1_3, .int .i64 a1_4, .int .i64 a1_5]] => some ⟨Bool, F_laws_eqFlow fu (⟨a0_1, a0_2, a0_3, a0_4, a0_5⟩ : S_impl_Flow) (⟨a1_1, a1_2, a1_3, a1_4, a1_5⟩ : S_impl_Flow), enc_bo, fun _ => true⟩ | _ => none
theorem goodv_c37 (fu : Nat) (a_0 b_1 : S_impl_Flow) (y : Bool) (hy : F_laws_eqFlow fu a_0 b_1 = some y) : Vm.Good E Tryz.prog 78 [(.agg [(ii a_0.From), (ii a_0.To), (ii a_0.Proto), (ii a_0.FromP), (ii a_0.ToP)]), (.agg [(ii b_1.From), (ii b_1.To), (ii b_1.Proto), (ii b_1.FromP), (ii b_1.ToP)])] (enc_bo y) :=
 fun_good E_ok (pc_good (pc := pc_c37 fu) hpc0 hpx0) (fn := Tryz.f78) (by kernel_rfl) (by kernel_rfl) (by kernel_rfl) (lpok_c37 fu) (fun d hd => out_bo_enc d _ hd) ((ev_c37 fu a_0 b_1).trans hy)
theorem good_c37 (fu : Nat) : GoodS E Tryz.prog 78 (S_c37 fu) := by
 intro xs o h y hy
 unfold S_c37 at h
 split at h
 ·rename_i a0_1 a0_2 a0_3 a0_4 a0_5 a1_1 a1_2 a1_3 a1_4 a1_5
  cases h
  exact goodv_c37 fu (⟨a0_1, a0_2, a0_3, a0_4, a0_5⟩ : S_impl_Flow) (⟨a1_1, a1_2, a1_3, a1_4, a1_5⟩ : S_impl_Flow) y hy
 ·cases h
def F_laws_eqHeld (fu : Nat) (a_0 b_1 : S_impl_Held) : Option (Bool) :=
 ((F_laws_eqFlow fu a_0.Flow b_1.Flow).bind fun y369 => (bif (!y369) then (some false) else (bif (a_0.Name != b_1.Name) then (some false) else (bif (a_0.Seen != b_1.Seen) then
  (some false) else (some true)))))
def pcf_c38 (fu f : Nat) (xs : List (D RT den)) : Option (Out RT den) := match f with | 78 => S_c37 fu xs | _ => none
def pc_c38 (fu : Nat) : Pc RT den := ⟨pcf_c38 fu, fun _ => false, fun _ => false, pcd0, pcd0, pcd0, pcx0⟩
def msk_c38 (b : Nat) : List Nat := []
def lp_c38 (fu : Nat) : Lp RT den (Bool) := ⟨fun b s k => none, inl0⟩
theorem ev_c38 (fu : Nat) (a_0 b_1 : S_impl_Held) : evFun E (pc_c38 fu) msk_c38 (lp_c38 fu) out_bo 52 [(.agg [(ii a_0.Flow.From), (ii a_0.Flow.To), (ii a_0.Flow.Proto), (ii a_0.Flow.FromP), (ii a_0.Flow.ToP), (ii a_0.Name), (ii a_0.Seen)]), (.agg [(ii b_1.Flow.From), (ii b_1.Flow.To), (ii b_1.Flow.Proto), (ii b_1.Flow.FromP), (ii b_1.Flow.ToP), (ii b_1.Name), (ii b_1.Seen)])] = F_laws_eqHeld fu a_0 b_1 := by kernel_rfl
noncomputable def body_c38 : Code := Tryz.f52.body.getD .skip
theorem lpok_c38 (fu : Nat) : LpOk E (pc_c38 fu) 0 msk_c38 (lp_c38 fu) (loops 0 body_c38) := lp_nil (loop_nil (by kernel_rfl)) (by kernel_rfl)
def S_c38 (fu : Nat) (xs : List (D RT den)) : Option (Out RT den) := match xs with | [.agg [.int .i64 a0_2, .int .i64 a0_3, .int .i64 a0_4, .int .i64 a0_5, .int .i64 a0_6, .int .i64 a0_7, .int .i64 a0_8], .agg [.int .i64 a1_2, .int .i64 a1_3, .int .i64 a1_4, .int .i64 a1_5, .int .i64 a1_6, .int .i64 a1_7, .int .i64 a1_8]] => some ⟨Bool, F_laws_eqHeld fu (⟨(⟨a0_2, a0_3, a0_4, a0_5, a0_6⟩ : S_impl_Flow), a0_7, a0_8⟩ : S_impl_Held) (⟨(⟨a1_2, a1_3, a1_4, a1_5, a1_6⟩ : S_impl_Flow), a1_7, a1_8⟩ : S_impl_Held), enc_bo, fun _ => true⟩ | _ => none
theorem hpc_c38 (fu : Nat) : HpcOk E Tryz.prog (pcf_c38 fu) := by
 intro f xs o h
 unfold pcf_c38 at h
 split at h
 ·exact good_c37 fu xs o h
 ·cases h
theorem goodv_c38 (fu : Nat) (a_0 b_1 : S_impl_Held) (y : Bool) (hy : F_laws_eqHeld fu a_0 b_1 = some y) : Vm.Good E Tryz.prog 52 [(.agg [(ii a_0.Flow.From), (ii a_0.Flow.To), (ii a_0.Flow.Proto), (ii a_0.Flow.FromP), (ii a_0.Flow.ToP), (ii a_0.Name), (ii a_0.Seen)]), (.agg [(ii b_1.Flow.From), (ii b_1.Flow.To), (ii b_1.Flow.Proto), (ii b_1.Flow.FromP), (ii b_1.Flow.ToP), (ii b_1.Name), (ii b_1.Seen)])] (enc_bo y) :=
 fun_good E_ok (pc_good (pc := pc_c38 fu) (hpc_c38 fu) hpx0) (fn := Tryz.f52) (by kernel_rfl) (by kernel_rfl) (by kernel_rfl) (lpok_c38 fu) (fun d hd => out_bo_enc d _ hd) ((ev_c38 fu a_0 b_1).trans hy)
theorem good_c38 (fu : Nat) : GoodS E Tryz.prog 52 (S_c38 fu) := by
 intro xs o h y hy
 unfold S_c38 at h
 split at h
 ·rename_i a0_2 a0_3 a0_4 a0_5 a0_6 a0_7 a0_8 a1_2 a1_3 a1_4 a1_5 a1_6 a1_7 a1_8
  cases h
  exact goodv_c38 fu (⟨(⟨a0_2, a0_3, a0_4, a0_5, a0_6⟩ : S_impl_Flow), a0_7, a0_8⟩ : S_impl_Held) (⟨(⟨a1_2, a1_3, a1_4, a1_5, a1_6⟩ : S_impl_Flow), a1_7, a1_8⟩ : S_impl_Held) y hy
 ·cases h
end Go.Proofs.YtcmfekgdlaffkaaGreatDoor.Px
