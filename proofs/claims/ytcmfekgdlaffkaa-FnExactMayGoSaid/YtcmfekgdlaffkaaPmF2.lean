/- The functions' evaluated forms, each a proved summary. Conditions: none. -/
import Derived.Test.YtcmfekgdlaffkaaPmF1
namespace Go.Proofs.Ytcmfekgdlaffkaa.Pm
open Go Go.RowKit Go.Proofs Vm
set_option linter.unusedVariables false
set_option linter.unusedSimpArgs false
set_option maxRecDepth 100000
abbrev Yc0 : Type := (Sl S_impl_Vip) × Int × Int × Int × Int
abbrev Yc1 : Type := (Sl Int) × Int × (Sl S_impl_Backend) × (Sl S_impl_Vip) × Int
def F_slices_Clone_byte_byte_H_raw (fu : Nat) (s_0 : (Sl Int)) : Option ((Sl Int)) :=
 ((s_0.z).bind fun b166 => (bif b166 then (some (⟨(some true), 0, (fun _ => dflt .u8)⟩ : (Sl Int))) else (bif (decide (s_0.n ≤ 9223372036854775807) && decide (s_0.n * 1 ≤ 140737488355328)) then
  (some (⟨none, s_0.n, s_0.f⟩ : (Sl Int))) else none)))
def pc_b0r (fu : Nat) : Pc RT den := ⟨pcf0, fun _ => false, fun _ => false, pcd0, pcd0, pcd0, pcx0⟩
def msk_b0r (b : Nat) : List Nat := []
def lp_b0r (fu : Nat) : Lp RT den ((Sl Int)) := ⟨fun b s k => none, inl0⟩
theorem ev_b0r (fu : Nat) (s_0 : (Sl Int)) : evFunX E false (pc_b0r fu) msk_b0r (lp_b0r fu) out_sl_u8_H 111 [(.rs s_0.z .u8 s_0.n s_0.f)] [] = F_slices_Clone_byte_byte_H_raw fu s_0 := by kernel_rfl
noncomputable def body_b0r : Code := Try.f111.body.getD .skip
theorem lpok_b0r (fu : Nat) : LpOk E (pc_b0r fu) 0 msk_b0r (lp_b0r fu) (loops 0 body_b0r) := lp_nil (loop_nil (by kernel_rfl)) (by kernel_rfl)
def S_b0r (fu : Nat) (xs : List (D RT den)) (ins : List (Ob RT den)) : Option (OutX RT den) := match xs, ins with | [.rs za0_0 .u8 na0_0 fa0_0], [] => some ⟨(Sl Int), F_slices_Clone_byte_byte_H_raw fu (⟨za0_0, na0_0, fa0_0⟩ : (Sl Int)), enc_sl_u8_H⟩ | _, _ => none
theorem goodv_b0r (fu : Nat) (s_0 y : (Sl Int)) (hy : F_slices_Clone_byte_byte_H_raw fu s_0 = some y) : GoodX E Try.prog 111 [(.rs s_0.z .u8 s_0.n s_0.f)] [] (enc_sl_u8_H y).1 (enc_sl_u8_H y).2 :=
 funX_good (ke := false) E_ok (pc_good (pc := pc_b0r fu) hpc0 hpx0) (fn := Try.f111) (by kernel_rfl) (by kernel_rfl) (by kernel_rfl) (lpok_b0r fu) (by kernel_rfl) (Nat.zero_le _) (fun d os hd => out_sl_u8_H_enc d os _ hd) ((ev_b0r fu s_0).trans hy)
def F_slices_Clone_byte_byte_H (fu : Nat) (s_0 : (Sl Int)) : Option ((Sl Int)) := bif decide (s_0.n ≤ 9223372036854775807) && decide (s_0.n * 1 ≤ 140737488355328) then some ⟨none, s_0.n, s_0.f⟩ else none
def S_b0 (fu : Nat) (xs : List (D RT den)) (ins : List (Ob RT den)) : Option (OutX RT den) := match xs, ins with | [.rs za0_0 .u8 na0_0 fa0_0], [] => some ⟨(Sl Int), F_slices_Clone_byte_byte_H fu (⟨za0_0, na0_0, fa0_0⟩ : (Sl Int)), enc_sl_u8_H⟩ | _, _ => none
theorem good_b0 (fu : Nat) : GoodSX E Try.prog 111 (S_b0 fu) := by
 intro xs ins o h y hy
 unfold S_b0 at h
 split at h
 ·rename_i za0_0 na0_0 fa0_0
  cases h
  have hy : F_slices_Clone_byte_byte_H fu ⟨za0_0, na0_0, fa0_0⟩ = some y := hy
  unfold F_slices_Clone_byte_byte_H at hy
  dsimp only at hy
  cases hc : (decide (na0_0 ≤ 9223372036854775807) && decide (na0_0 * 1 ≤ 140737488355328)) with
  | false => rw [hc] at hy; cases hy
  | true =>
   rw [hc] at hy
   have hy := Option.some.inj hy; subst hy
   refine GoodX.clone (d0 := fun _ => dflt .u8) (goodv_b0r fu ⟨some true, na0_0, fa0_0⟩ ⟨some true, 0, fun _ => dflt .u8⟩ rfl) (goodv_b0r fu ⟨some false, na0_0, fa0_0⟩ ⟨none, na0_0, fa0_0⟩ ?_) _
   unfold F_slices_Clone_byte_byte_H_raw
   simp only [Option.bind_some, cond_false, hc, cond_true]
 ·cases h
def F_impl_ParsePacket_H (fu : Nat) (data_0 : (Sl Int)) : Option (S_impl_PacketResult) :=
 ((((F_impl_size_byte fu data_0).bind fun y153 => ((F_impl_in fu y153 24 224).bind fun y154 => (bif (!y154) then (some true) else ((bif (decide (0 ≤ (0 : Int)) && decide ((Int.toNat 0) < data_0.n)) then
  some () else none : Option Unit).bind fun _ => (bif ((data_0.f (Int.toNat 0)) != 69) then (some true) else ((bif (decide ((2 : Int) ≤ 4) && decide ((Int.toNat 4) ≤ data_0.n)) then
  some () else none : Option Unit).bind fun _ => ((F_impl_number fu (⟨data_0.z, ((Int.toNat 4) - 2), (fun i => data_0.f (2 + i))⟩ : (Sl Int))).bind fun y155 => ((F_impl_size_byte fu data_0).bind fun y156 =>
  (some (y155 != y156)))))))))) : Option Bool).bind fun m157 => (bif m157 then (some (⟨5, (⟨0, 0, 0, 0, 0, (⟨(some true), 0, (fun _ => dflt .u8)⟩ : (Sl Int))⟩ : S_impl_Packet)⟩ : S_impl_PacketResult)) else
  ((bif (decide ((0 : Int) ≤ 20) && decide ((Int.toNat 20) ≤ data_0.n)) then some () else none : Option Unit).bind fun _ => ((F_impl_WholeSum fu (⟨data_0.z, ((Int.toNat 20) - 0),
  (fun i => data_0.f (0 + i))⟩ : (Sl Int))).bind fun y158 => (bif (!y158) then (some (⟨6, (⟨0, 0, 0, 0, 0, (⟨(some true), 0, (fun _ => dflt .u8)⟩ : (Sl Int))⟩ : S_impl_Packet)⟩ : S_impl_PacketResult)) else
  ((((bif (decide (0 ≤ (6 : Int)) && decide ((Int.toNat 6) < data_0.n)) then some () else none : Option Unit).bind fun _ => (bif ((data_0.f (Int.toNat 6)) != 0) then (some true) else
  ((bif (decide (0 ≤ (7 : Int)) && decide ((Int.toNat 7) < data_0.n)) then some () else none : Option Unit).bind fun _ => (bif ((data_0.f (Int.toNat 7)) != 0) then (some true) else
  ((bif (decide (0 ≤ (9 : Int)) && decide ((Int.toNat 9) < data_0.n)) then some () else none : Option Unit).bind fun _ => ((F_impl_isProto fu (IntKind.wrap .i64 (data_0.f (Int.toNat 9)))).bind fun y159 =>
  (some (!y159)))))))) : Option Bool).bind fun m160 => (bif m160 then (some (⟨1, (⟨0, 0, 0, 0, 0, (⟨(some true), 0, (fun _ => dflt .u8)⟩ : (Sl Int))⟩ : S_impl_Packet)⟩ : S_impl_PacketResult)) else
  ((bif (decide ((12 : Int) ≤ 16) && decide ((Int.toNat 16) ≤ data_0.n)) then some () else none : Option Unit).bind fun _ => ((F_impl_number fu (⟨data_0.z, ((Int.toNat 16) - 12),
  (fun i => data_0.f (12 + i))⟩ : (Sl Int))).bind fun y161 => ((bif (decide ((16 : Int) ≤ 20) && decide ((Int.toNat 20) ≤ data_0.n)) then some () else none : Option Unit).bind fun _ =>
  ((F_impl_number fu (⟨data_0.z, ((Int.toNat 20) - 16), (fun i => data_0.f (16 + i))⟩ : (Sl Int))).bind fun y162 => ((bif (decide (0 ≤ (9 : Int)) && decide ((Int.toNat 9) < data_0.n)) then
  some () else none : Option Unit).bind fun _ => ((bif (decide ((20 : Int) ≤ 22) && decide ((Int.toNat 22) ≤ data_0.n)) then some () else none : Option Unit).bind fun _ =>
  ((F_impl_number fu (⟨data_0.z, ((Int.toNat 22) - 20), (fun i => data_0.f (20 + i))⟩ : (Sl Int))).bind fun y163 => ((bif (decide ((22 : Int) ≤ 24) && decide ((Int.toNat 24) ≤ data_0.n)) then
  some () else none : Option Unit).bind fun _ => ((F_impl_number fu (⟨data_0.z, ((Int.toNat 24) - 22), (fun i => data_0.f (22 + i))⟩ : (Sl Int))).bind fun y164 => ((bif (decide ((24 : Int) ≤ ((data_0.n : Nat) : Int)) &&
  decide (data_0.n ≤ data_0.n)) then some () else none : Option Unit).bind fun _ => ((F_slices_Clone_byte_byte_H fu (⟨data_0.z, (data_0.n - 24), (fun i => data_0.f (24 + i))⟩ : (Sl Int))).bind fun y167 =>
  (some (⟨0, (⟨y161, y162, (IntKind.wrap .i64 (data_0.f (Int.toNat 9))), y163, y164, (⟨none, y167.n, y167.f⟩ : (Sl Int))⟩ : S_impl_Packet)⟩ : S_impl_PacketResult))))))))))))))))))))
def pcf_b1 (fu f : Nat) (xs : List (D RT den)) : Option (Out RT den) := match f with | 44 => S_a36 fu xs | 77 => S_a35 fu xs | 80 => S_a39 fu xs | 109 => S_a34 fu xs | 110 => S_a38 fu xs | _ => none
def pcx_b1 (fu f : Nat) (xs : List (D RT den)) (ins : List (Ob RT den)) : Option (OutX RT den) := match f with | 111 => S_b0 fu xs ins | _ => none
def pcd_b1 : Nat → Bool := fun _ => false
def pc_b1 (fu : Nat) : Pc RT den := ⟨pcf_b1 fu, fun f => match f with | 111 => true | _ => false, fun _ => false, pcd_b1, pcd0, pcd0, pcx_b1 fu⟩
def msk_b1 (b : Nat) : List Nat := match b with | 200001 => [3] | 200005 => [29] | _ => []
def lp_b1 (fu : Nat) : Lp RT den (S_impl_PacketResult) := ⟨fun b s k => none, inl0⟩
theorem ev_b1 (fu : Nat) (data_0 : (Sl Int)) : evFunX E false (pc_b1 fu) msk_b1 (lp_b1 fu) out_impl_PacketResult_H 62 [(.rs data_0.z .u8 data_0.n data_0.f)] [] = F_impl_ParsePacket_H fu data_0 := by kernel_rfl
noncomputable def body_b1 : Code := Try.f62.body.getD .skip
theorem lpok_b1 (fu : Nat) : LpOk E (pc_b1 fu) 0 msk_b1 (lp_b1 fu) (loops 0 body_b1) := lp_nil (loop_nil (by kernel_rfl)) (by kernel_rfl)
def S_b1 (fu : Nat) (xs : List (D RT den)) (ins : List (Ob RT den)) : Option (OutX RT den) := match xs, ins with | [.rs za0_0 .u8 na0_0 fa0_0], [] => some ⟨S_impl_PacketResult, F_impl_ParsePacket_H fu (⟨za0_0, na0_0, fa0_0⟩ : (Sl Int)), enc_impl_PacketResult_H⟩ | _, _ => none
theorem hpc_b1 (fu : Nat) : HpcOk E Try.prog (pcf_b1 fu) := by
 intro f xs o h
 unfold pcf_b1 at h
 split at h
 ·exact good_a36 fu xs o h
 ·exact good_a35 fu xs o h
 ·exact good_a39 fu xs o h
 ·exact good_a34 fu xs o h
 ·exact good_a38 fu xs o h
 ·cases h
theorem hpx_b1 (fu : Nat) : HpxOk E Try.prog pcd_b1 pcd0 (pcx_b1 fu) := by
 intro f xs ins o h
 unfold pcx_b1 at h
 split at h
 ·exact good_b0 fu xs ins o h
 ·cases h
theorem goodv_b1 (fu : Nat) (data_0 : (Sl Int)) (y : S_impl_PacketResult) (hy : F_impl_ParsePacket_H fu data_0 = some y) : GoodX E Try.prog 62 [(.rs data_0.z .u8 data_0.n data_0.f)] [] (enc_impl_PacketResult_H y).1 (enc_impl_PacketResult_H y).2 :=
 funX_good (ke := false) E_ok (pc_good (pc := pc_b1 fu) (hpc_b1 fu) (hpx_b1 fu)) (fn := Try.f62) (by kernel_rfl) (by kernel_rfl) (by kernel_rfl) (lpok_b1 fu) (by kernel_rfl) (Nat.zero_le _) (fun d os hd => out_impl_PacketResult_H_enc d os _ hd) ((ev_b1 fu data_0).trans hy)
theorem good_b1 (fu : Nat) : GoodSX E Try.prog 62 (S_b1 fu) := by
 intro xs ins o h y hy
 unfold S_b1 at h
 split at h
 ·rename_i za0_0 na0_0 fa0_0
  cases h
  exact goodv_b1 fu (⟨za0_0, na0_0, fa0_0⟩ : (Sl Int)) y hy
 ·cases h
def F_impl_Config_vip_c1 (fu : Nat) (v_0 : S_impl_Vip) (x_1_1 x_2_2 x_3_3 : Int) : Option (Bool) :=
 (((bif (v_0.Address == x_1_1) then (bif (v_0.Port == x_2_2) then (some (v_0.Proto == x_3_3)) else (some false)) else (some false)) : Option Bool).bind fun m175 => (some m175))
def pc_b2 (fu : Nat) : Pc RT den := ⟨pcf0, fun _ => false, fun _ => false, pcd0, pcd0, pcd0, pcx0⟩
def msk_b2 (b : Nat) : List Nat := match b with | 200001 => [5] | _ => []
def lp_b2 (fu : Nat) : Lp RT den (Bool) := ⟨fun b s k => none, inl0⟩
theorem ev_b2 (fu : Nat) (v_0 : S_impl_Vip) (x_1_1 x_2_2 x_3_3 : Int) : evFun E (pc_b2 fu) msk_b2 (lp_b2 fu) out_bo 136 [(.agg [(ii v_0.Address), (ii v_0.Port), (ii v_0.Proto), (.rs v_0.Names.z .i64 v_0.Names.n v_0.Names.f)]), (.rptr [(ii x_1_1)]), (.rptr [(ii x_2_2)]), (.rptr [(ii x_3_3)])] = F_impl_Config_vip_c1 fu v_0 x_1_1 x_2_2 x_3_3 := by kernel_rfl
noncomputable def body_b2 : Code := Try.f136.body.getD .skip
theorem lpok_b2 (fu : Nat) : LpOk E (pc_b2 fu) 0 msk_b2 (lp_b2 fu) (loops 0 body_b2) := lp_nil (loop_nil (by kernel_rfl)) (by kernel_rfl)
def S_b2 (fu : Nat) (xs : List (D RT den)) : Option (Out RT den) := match xs with | [.agg [.int .i64 a0_1, .int .i64 a0_2, .int .i64 a0_3, .rs za0_4 .i64 na0_4 fa0_4], .rptr [.int .i64 a1_0], .rptr [.int .i64 a2_0], .rptr [.int .i64 a3_0]] => some ⟨Bool, F_impl_Config_vip_c1 fu (⟨a0_1, a0_2, a0_3, (⟨za0_4, na0_4, fa0_4⟩ : (Sl Int))⟩ : S_impl_Vip) a1_0 a2_0 a3_0, enc_bo, fun _ => true⟩ | _ => none
theorem goodv_b2 (fu : Nat) (v_0 : S_impl_Vip) (x_1_1 x_2_2 x_3_3 : Int) (y : Bool) (hy : F_impl_Config_vip_c1 fu v_0 x_1_1 x_2_2 x_3_3 = some y) : Vm.Good E Try.prog 136 [(.agg [(ii v_0.Address), (ii v_0.Port), (ii v_0.Proto), (.rs v_0.Names.z .i64 v_0.Names.n v_0.Names.f)]), (.rptr [(ii x_1_1)]), (.rptr [(ii x_2_2)]), (.rptr [(ii x_3_3)])] (enc_bo y) :=
 fun_good E_ok (pc_good (pc := pc_b2 fu) hpc0 hpx0) (fn := Try.f136) (by kernel_rfl) (by kernel_rfl) (by kernel_rfl) (lpok_b2 fu) (fun d hd => out_bo_enc d _ hd) ((ev_b2 fu v_0 x_1_1 x_2_2 x_3_3).trans hy)
theorem good_b2 (fu : Nat) : GoodS E Try.prog 136 (S_b2 fu) := by
 intro xs o h y hy
 unfold S_b2 at h
 split at h
 ·rename_i a0_1 a0_2 a0_3 za0_4 na0_4 fa0_4 a1_0 a2_0 a3_0
  cases h
  exact goodv_b2 fu (⟨a0_1, a0_2, a0_3, (⟨za0_4, na0_4, fa0_4⟩ : (Sl Int))⟩ : S_impl_Vip) a1_0 a2_0 a3_0 y hy
 ·cases h
def F_slices_IndexFunc_impl_Vip_impl_Vip_w_impl_Config_vip_c1_B0 {ρ : Type} (fu : Nat) (s0_0 : (Sl S_impl_Vip)) (f1_1 f1_2 f1_3 t7_4 : Int) (k0 : Int → Option ρ) (k1 : Option ρ) (t8_5 : Int) (go : Int → Option ρ) : Option ρ :=
 (bif (decide (t8_5 < t7_4)) then ((bif (decide (0 ≤ t8_5) && decide ((Int.toNat t8_5) < s0_0.n)) then some () else none : Option Unit).bind fun _ => ((F_impl_Config_vip_c1 fu (s0_0.f (Int.toNat t8_5)) f1_1 f1_2 f1_3).bind fun y173 =>
  (bif y173 then (k0 t8_5) else (go (IntKind.wrap .i64 (t8_5 + 1)))))) else k1)
def F_slices_IndexFunc_impl_Vip_impl_Vip_w_impl_Config_vip_c1 (fu : Nat) (s_0 : (Sl S_impl_Vip)) (f_1_1 f_1_2 f_1_3 : Int) : Option (Int) :=
 (L (fun w0 go0 => F_slices_IndexFunc_impl_Vip_impl_Vip_w_impl_Config_vip_c1_B0 fu s_0 f_1_1 f_1_2 f_1_3 ((s_0.n : Nat) : Int) (fun z174 => (some z174)) (some (-1)) w0 go0) fu (0 : Int))
def pcf_b3 (fu f : Nat) (xs : List (D RT den)) : Option (Out RT den) := match f with | 136 => S_b2 fu xs | _ => none
def pc_b3 (fu : Nat) : Pc RT den := ⟨pcf_b3 fu, fun _ => false, fun _ => false, pcd0, pcd0, pcd0, pcx0⟩
def msk_b3 (b : Nat) : List Nat := match b with | 0 => (rg 2 5 (rg 9 10 [])) | 100000 => (0 :: 1 :: 2 :: 3 :: (rg 5 14 [])) | _ => []
def ps_b3_0 : List (Pat RT) := (.flat (.rs .impl_Vip) :: .fn 136 [.rptr [(.int .i64)], .rptr [(.int .i64)], .rptr [(.int .i64)]] :: (fq 5 (.flat (.int .i64) :: .flat (.int .i64) :: (fq 10 []))))
def os_b3_0 : List (OP RT) := []
def conv_b3_0 (r : Raw den ps_b3_0 os_b3_0) : (Yc0) × (Int) := ((r.1.1, r.1.2.1.1.1, r.1.2.1.2.1.1, r.1.2.1.2.2.1.1, (e5 r.1).2.2.1), (e5 r.1).2.2.2.1)
def back_b3_0 (c : Yc0) (w : Int) : St RT den := ⟨((.rs c.1.z .impl_Vip c.1.n c.1.f) :: (.fn 136 [(.rptr [(ii c.2.1)]), (.rptr [(ii c.2.2.1)]), (.rptr [(ii c.2.2.2.1)])]) :: (qs 5 ((ii c.2.2.2.2) :: (ii w) :: (qs 10 [])))), []⟩
def Bk_b3_0 {ρ : Type} (fu : Nat) (c : Yc0) (k : Ex → St RT den → Option ρ) (w : Int) (go : (Int) → Option ρ) : Option ρ := F_slices_IndexFunc_impl_Vip_impl_Vip_w_impl_Config_vip_c1_B0 fu c.1 c.2.1 c.2.2.1 c.2.2.2.1 c.2.2.2.2 (fun a0 => k .ret ⟨(qs 4 ((ii a0) :: (qs 14 []))), []⟩) (k (.exit 0) ⟨(qs 19 []), []⟩) w go
def lp_b3 (fu : Nat) : Lp RT den (Int) := ⟨fun b s k => match b with | 0 => handle ps_b3_0 os_b3_0 conv_b3_0 (Bk_b3_0 fu) fu s k | _ => none, inl0⟩
theorem ev_b3 (fu : Nat) (s_0 : (Sl S_impl_Vip)) (f_1_1 f_1_2 f_1_3 : Int) : evFun E (pc_b3 fu) msk_b3 (lp_b3 fu) out_i64 135 [(.rs s_0.z .impl_Vip s_0.n s_0.f), (.fn 136 [(.rptr [(ii f_1_1)]), (.rptr [(ii f_1_2)]), (.rptr [(ii f_1_3)])])] = F_slices_IndexFunc_impl_Vip_impl_Vip_w_impl_Config_vip_c1 fu s_0 f_1_1 f_1_2 f_1_3 := by kernel_rfl
noncomputable def body_b3 : Code := Try.f135.body.getD .skip
noncomputable def lc_b3_0 : Code := ((loops 0 body_b3).getD 0 (0, .skip)).2
theorem round_b3_0 (fu : Nat) : RoundOk E (pc_b3 fu) msk_b3 (lp_b3 fu) 0 lc_b3_0 back_b3_0 0 100000 0 (Bk_b3_0 fu) := fun it k c w => by kernel_rfl
theorem lpok_b3_0 (fu : Nat) : LpAt E (pc_b3 fu) msk_b3 (lp_b3 fu) 0 0 100000 0 lc_b3_0 :=
 handle_ok (ps := ps_b3_0) (os := os_b3_0) (conv := conv_b3_0) (B := Bk_b3_0 fu) (fu := fu) back_b3_0 (fun raw => by kernel_rfl) 0 (fun c w => by kernel_rfl) (round_b3_0 fu)
theorem lpok_b3 (fu : Nat) : LpOk E (pc_b3 fu) 0 msk_b3 (lp_b3 fu) (loops 0 body_b3) := lp_nil (loop_all 1 (by kernel_rfl) fun i hi => match i, hi with
 | 0, _ => by
  have h : (loops 0 body_b3).getD 0 (0, .skip) = (0, lc_b3_0) := by kernel_rfl
  rw [h]; exact lpok_b3_0 fu
 | i + 1, hi => absurd hi (by omega)) (by kernel_rfl)
def S_b3 (fu : Nat) (xs : List (D RT den)) : Option (Out RT den) := match xs with | [.rs za0_0 .impl_Vip na0_0 fa0_0, .fn 136 [.rptr [.int .i64 a1_0], .rptr [.int .i64 a1_1], .rptr [.int .i64 a1_2]]] => some ⟨Int, F_slices_IndexFunc_impl_Vip_impl_Vip_w_impl_Config_vip_c1 fu (⟨za0_0, na0_0, fa0_0⟩ : (Sl S_impl_Vip)) a1_0 a1_1 a1_2, enc_i64, fun _ => true⟩ | _ => none
theorem hpc_b3 (fu : Nat) : HpcOk E Try.prog (pcf_b3 fu) := by
 intro f xs o h
 unfold pcf_b3 at h
 split at h
 ·exact good_b2 fu xs o h
 ·cases h
theorem goodv_b3 (fu : Nat) (s_0 : (Sl S_impl_Vip)) (f_1_1 f_1_2 f_1_3 y : Int) (hy : F_slices_IndexFunc_impl_Vip_impl_Vip_w_impl_Config_vip_c1 fu s_0 f_1_1 f_1_2 f_1_3 = some y) : Vm.Good E Try.prog 135 [(.rs s_0.z .impl_Vip s_0.n s_0.f), (.fn 136 [(.rptr [(ii f_1_1)]), (.rptr [(ii f_1_2)]), (.rptr [(ii f_1_3)])])] (enc_i64 y) :=
 fun_good E_ok (pc_good (pc := pc_b3 fu) (hpc_b3 fu) hpx0) (fn := Try.f135) (by kernel_rfl) (by kernel_rfl) (by kernel_rfl) (lpok_b3 fu) (fun d hd => out_i64_enc d _ hd) ((ev_b3 fu s_0 f_1_1 f_1_2 f_1_3).trans hy)
theorem good_b3 (fu : Nat) : GoodS E Try.prog 135 (S_b3 fu) := by
 intro xs o h y hy
 unfold S_b3 at h
 split at h
 ·rename_i za0_0 na0_0 fa0_0 a1_0 a1_1 a1_2
  cases h
  exact goodv_b3 fu (⟨za0_0, na0_0, fa0_0⟩ : (Sl S_impl_Vip)) a1_0 a1_1 a1_2 y hy
 ·cases h
def F_impl_Config_vip (fu : Nat) (c_0 : S_impl_Config) (address_1 port_2 proto_3 : Int) : Option (Int) :=
 ((F_slices_IndexFunc_impl_Vip_impl_Vip_w_impl_Config_vip_c1 fu c_0.Vips address_1 port_2 proto_3).bind fun y172 => (some y172))
def pcf_b4 (fu f : Nat) (xs : List (D RT den)) : Option (Out RT den) := match f with | 135 => S_b3 fu xs | _ => none
def pc_b4 (fu : Nat) : Pc RT den := ⟨pcf_b4 fu, fun _ => false, fun _ => false, pcd0, pcd0, pcd0, pcx0⟩
def msk_b4 (b : Nat) : List Nat := []
def lp_b4 (fu : Nat) : Lp RT den (Int) := ⟨fun b s k => none, inl0⟩
theorem ev_b4 (fu : Nat) (c_0 : S_impl_Config) (address_1 port_2 proto_3 : Int) : evFun E (pc_b4 fu) msk_b4 (lp_b4 fu) out_i64 112 [(.rptr [(ii c_0.Version), (.rs c_0.Backends.z .impl_Backend c_0.Backends.n c_0.Backends.f), (.rs c_0.Vips.z .impl_Vip c_0.Vips.n c_0.Vips.f)]), (ii address_1), (ii port_2), (ii proto_3)] = F_impl_Config_vip fu c_0 address_1 port_2 proto_3 := by kernel_rfl
noncomputable def body_b4 : Code := Try.f112.body.getD .skip
theorem lpok_b4 (fu : Nat) : LpOk E (pc_b4 fu) 0 msk_b4 (lp_b4 fu) (loops 0 body_b4) := lp_nil (loop_nil (by kernel_rfl)) (by kernel_rfl)
def S_b4 (fu : Nat) (xs : List (D RT den)) : Option (Out RT den) := match xs with | [.rptr (.int .i64 a0_1 :: .rs za0_2 .impl_Backend na0_2 fa0_2 :: .rs za0_3 .impl_Vip na0_3 fa0_3 :: ra0), .int .i64 a1_0, .int .i64 a2_0, .int .i64 a3_0] => some ⟨Int, F_impl_Config_vip fu (⟨a0_1, (⟨za0_2, na0_2, fa0_2⟩ : (Sl S_impl_Backend)), (⟨za0_3, na0_3, fa0_3⟩ : (Sl S_impl_Vip))⟩ : S_impl_Config) a1_0 a2_0 a3_0, enc_i64, fun _ => true⟩ | _ => none
theorem hpc_b4 (fu : Nat) : HpcOk E Try.prog (pcf_b4 fu) := by
 intro f xs o h
 unfold pcf_b4 at h
 split at h
 ·exact good_b3 fu xs o h
 ·cases h
theorem goodv_b4 (fu : Nat) (c_0 : S_impl_Config) (address_1 port_2 proto_3 y : Int) (hy : F_impl_Config_vip fu c_0 address_1 port_2 proto_3 = some y) : Vm.Good E Try.prog 112 [(.rptr [(ii c_0.Version), (.rs c_0.Backends.z .impl_Backend c_0.Backends.n c_0.Backends.f), (.rs c_0.Vips.z .impl_Vip c_0.Vips.n c_0.Vips.f)]), (ii address_1), (ii port_2), (ii proto_3)] (enc_i64 y) :=
 fun_good E_ok (pc_good (pc := pc_b4 fu) (hpc_b4 fu) hpx0) (fn := Try.f112) (by kernel_rfl) (by kernel_rfl) (by kernel_rfl) (lpok_b4 fu) (fun d hd => out_i64_enc d _ hd) ((ev_b4 fu c_0 address_1 port_2 proto_3).trans hy)
theorem good_b4 (fu : Nat) : GoodS E Try.prog 112 (S_b4 fu) := by
 intro xs o h y hy
 unfold S_b4 at h
 split at h
 ·rename_i a0_1 za0_2 na0_2 fa0_2 za0_3 na0_3 fa0_3 ra0 a1_0 a2_0 a3_0
  cases h
  exact (goodv_b4 fu (⟨a0_1, (⟨za0_2, na0_2, fa0_2⟩ : (Sl S_impl_Backend)), (⟨za0_3, na0_3, fa0_3⟩ : (Sl S_impl_Vip))⟩ : S_impl_Config) a1_0 a2_0 a3_0 y hy).sub ⟨Sub.of_eq ra0 rfl, .refl _, .refl _, .refl _, trivial⟩
 ·cases h
def F_impl_Config_vipOf (fu : Nat) (c_0 : S_impl_Config) (f_1 : S_impl_Flow) : Option (Int) :=
 ((F_impl_Config_vip fu c_0 f_1.To f_1.ToP f_1.Proto).bind fun y171 => (some y171))
def pcf_b5 (fu f : Nat) (xs : List (D RT den)) : Option (Out RT den) := match f with | 112 => S_b4 fu xs | _ => none
def pc_b5 (fu : Nat) : Pc RT den := ⟨pcf_b5 fu, fun _ => false, fun _ => false, pcd0, pcd0, pcd0, pcx0⟩
def msk_b5 (b : Nat) : List Nat := []
def lp_b5 (fu : Nat) : Lp RT den (Int) := ⟨fun b s k => none, inl0⟩
theorem ev_b5 (fu : Nat) (c_0 : S_impl_Config) (f_1 : S_impl_Flow) : evFun E (pc_b5 fu) msk_b5 (lp_b5 fu) out_i64 65 [(.rptr [(ii c_0.Version), (.rs c_0.Backends.z .impl_Backend c_0.Backends.n c_0.Backends.f), (.rs c_0.Vips.z .impl_Vip c_0.Vips.n c_0.Vips.f)]), (.agg [(ii f_1.From), (ii f_1.To), (ii f_1.Proto), (ii f_1.FromP), (ii f_1.ToP)])] = F_impl_Config_vipOf fu c_0 f_1 := by kernel_rfl
noncomputable def body_b5 : Code := Try.f65.body.getD .skip
theorem lpok_b5 (fu : Nat) : LpOk E (pc_b5 fu) 0 msk_b5 (lp_b5 fu) (loops 0 body_b5) := lp_nil (loop_nil (by kernel_rfl)) (by kernel_rfl)
def S_b5 (fu : Nat) (xs : List (D RT den)) : Option (Out RT den) := match xs with | [.rptr (.int .i64 a0_1 :: .rs za0_2 .impl_Backend na0_2 fa0_2 :: .rs za0_3 .impl_Vip na0_3 fa0_3 :: ra0), .agg [.int .i64 a1_1, .int .i64 a1_2, .int .i64 a1_3, .int .i64 a1_4, .int .i64 a1_5]] => some ⟨Int, F_impl_Config_vipOf fu (⟨a0_1, (⟨za0_2, na0_2, fa0_2⟩ : (Sl S_impl_Backend)), (⟨za0_3, na0_3, fa0_3⟩ : (Sl S_impl_Vip))⟩ : S_impl_Config) (⟨a1_1, a1_2, a1_3, a1_4, a1_5⟩ : S_impl_Flow), enc_i64, fun _ => true⟩ | _ => none
theorem hpc_b5 (fu : Nat) : HpcOk E Try.prog (pcf_b5 fu) := by
 intro f xs o h
 unfold pcf_b5 at h
 split at h
 ·exact good_b4 fu xs o h
 ·cases h
theorem goodv_b5 (fu : Nat) (c_0 : S_impl_Config) (f_1 : S_impl_Flow) (y : Int) (hy : F_impl_Config_vipOf fu c_0 f_1 = some y) : Vm.Good E Try.prog 65 [(.rptr [(ii c_0.Version), (.rs c_0.Backends.z .impl_Backend c_0.Backends.n c_0.Backends.f), (.rs c_0.Vips.z .impl_Vip c_0.Vips.n c_0.Vips.f)]), (.agg [(ii f_1.From), (ii f_1.To), (ii f_1.Proto), (ii f_1.FromP), (ii f_1.ToP)])] (enc_i64 y) :=
 fun_good E_ok (pc_good (pc := pc_b5 fu) (hpc_b5 fu) hpx0) (fn := Try.f65) (by kernel_rfl) (by kernel_rfl) (by kernel_rfl) (lpok_b5 fu) (fun d hd => out_i64_enc d _ hd) ((ev_b5 fu c_0 f_1).trans hy)
theorem good_b5 (fu : Nat) : GoodS E Try.prog 65 (S_b5 fu) := by
 intro xs o h y hy
 unfold S_b5 at h
 split at h
 ·rename_i a0_1 za0_2 na0_2 fa0_2 za0_3 na0_3 fa0_3 ra0 a1_1 a1_2 a1_3 a1_4 a1_5
  cases h
  exact (goodv_b5 fu (⟨a0_1, (⟨za0_2, na0_2, fa0_2⟩ : (Sl S_impl_Backend)), (⟨za0_3, na0_3, fa0_3⟩ : (Sl S_impl_Vip))⟩ : S_impl_Config) (⟨a1_1, a1_2, a1_3, a1_4, a1_5⟩ : S_impl_Flow) y hy).sub ⟨Sub.of_eq ra0 rfl, .refl _, trivial⟩
 ·cases h
def F_impl_isName (fu : Nat) (name_0 : Int) : Option (Bool) :=
 ((F_impl_in fu name_0 1 999).bind fun y216 => (some y216))
def pcf_b6 (fu f : Nat) (xs : List (D RT den)) : Option (Out RT den) := match f with | 77 => S_a35 fu xs | _ => none
def pc_b6 (fu : Nat) : Pc RT den := ⟨pcf_b6 fu, fun _ => false, fun _ => false, pcd0, pcd0, pcd0, pcx0⟩
def msk_b6 (b : Nat) : List Nat := []
def lp_b6 (fu : Nat) : Lp RT den (Bool) := ⟨fun b s k => none, inl0⟩
theorem ev_b6 (fu : Nat) (name_0 : Int) : evFun E (pc_b6 fu) msk_b6 (lp_b6 fu) out_bo 93 [(ii name_0)] = F_impl_isName fu name_0 := by kernel_rfl
noncomputable def body_b6 : Code := Try.f93.body.getD .skip
theorem lpok_b6 (fu : Nat) : LpOk E (pc_b6 fu) 0 msk_b6 (lp_b6 fu) (loops 0 body_b6) := lp_nil (loop_nil (by kernel_rfl)) (by kernel_rfl)
def S_b6 (fu : Nat) (xs : List (D RT den)) : Option (Out RT den) := match xs with | [.int .i64 a0_0] => some ⟨Bool, F_impl_isName fu a0_0, enc_bo, fun _ => true⟩ | _ => none
theorem hpc_b6 (fu : Nat) : HpcOk E Try.prog (pcf_b6 fu) := by
 intro f xs o h
 unfold pcf_b6 at h
 split at h
 ·exact good_a35 fu xs o h
 ·cases h
theorem goodv_b6 (fu : Nat) (name_0 : Int) (y : Bool) (hy : F_impl_isName fu name_0 = some y) : Vm.Good E Try.prog 93 [(ii name_0)] (enc_bo y) :=
 fun_good E_ok (pc_good (pc := pc_b6 fu) (hpc_b6 fu) hpx0) (fn := Try.f93) (by kernel_rfl) (by kernel_rfl) (by kernel_rfl) (lpok_b6 fu) (fun d hd => out_bo_enc d _ hd) ((ev_b6 fu name_0).trans hy)
theorem good_b6 (fu : Nat) : GoodS E Try.prog 93 (S_b6 fu) := by
 intro xs o h y hy
 unfold S_b6 at h
 split at h
 ·rename_i a0_0
  cases h
  exact goodv_b6 fu a0_0 y hy
 ·cases h
def F_impl_isAddress (fu : Nat) (a_0 : Int) : Option (Bool) :=
 ((F_impl_in fu a_0 0 4294967295).bind fun y217 => (some y217))
def pcf_b7 (fu f : Nat) (xs : List (D RT den)) : Option (Out RT den) := match f with | 77 => S_a35 fu xs | _ => none
def pc_b7 (fu : Nat) : Pc RT den := ⟨pcf_b7 fu, fun _ => false, fun _ => false, pcd0, pcd0, pcd0, pcx0⟩
def msk_b7 (b : Nat) : List Nat := []
def lp_b7 (fu : Nat) : Lp RT den (Bool) := ⟨fun b s k => none, inl0⟩
theorem ev_b7 (fu : Nat) (a_0 : Int) : evFun E (pc_b7 fu) msk_b7 (lp_b7 fu) out_bo 63 [(ii a_0)] = F_impl_isAddress fu a_0 := by kernel_rfl
noncomputable def body_b7 : Code := Try.f63.body.getD .skip
theorem lpok_b7 (fu : Nat) : LpOk E (pc_b7 fu) 0 msk_b7 (lp_b7 fu) (loops 0 body_b7) := lp_nil (loop_nil (by kernel_rfl)) (by kernel_rfl)
def S_b7 (fu : Nat) (xs : List (D RT den)) : Option (Out RT den) := match xs with | [.int .i64 a0_0] => some ⟨Bool, F_impl_isAddress fu a0_0, enc_bo, fun _ => true⟩ | _ => none
theorem hpc_b7 (fu : Nat) : HpcOk E Try.prog (pcf_b7 fu) := by
 intro f xs o h
 unfold pcf_b7 at h
 split at h
 ·exact good_a35 fu xs o h
 ·cases h
theorem goodv_b7 (fu : Nat) (a_0 : Int) (y : Bool) (hy : F_impl_isAddress fu a_0 = some y) : Vm.Good E Try.prog 63 [(ii a_0)] (enc_bo y) :=
 fun_good E_ok (pc_good (pc := pc_b7 fu) (hpc_b7 fu) hpx0) (fn := Try.f63) (by kernel_rfl) (by kernel_rfl) (by kernel_rfl) (lpok_b7 fu) (fun d hd => out_bo_enc d _ hd) ((ev_b7 fu a_0).trans hy)
theorem good_b7 (fu : Nat) : GoodS E Try.prog 63 (S_b7 fu) := by
 intro xs o h y hy
 unfold S_b7 at h
 split at h
 ·rename_i a0_0
  cases h
  exact goodv_b7 fu a0_0 y hy
 ·cases h
def F_impl_isBackend (fu : Nat) (b_0 : S_impl_Backend) : Option (Bool) :=
 ((((F_impl_isName fu b_0.Name).bind fun y211 => (bif y211 then ((F_impl_isAddress fu b_0.Address).bind fun y212 => (bif y212 then ((F_impl_in fu b_0.Weight 0 9).bind fun y213 =>
  (bif y213 then ((F_impl_in fu b_0.Stage 1 3).bind fun y214 => (some y214)) else (some false))) else (some false))) else (some false))) : Option Bool).bind fun m215 => (some m215))
def pcf_b8 (fu f : Nat) (xs : List (D RT den)) : Option (Out RT den) := match f with | 63 => S_b7 fu xs | 77 => S_a35 fu xs | 93 => S_b6 fu xs | _ => none
def pc_b8 (fu : Nat) : Pc RT den := ⟨pcf_b8 fu, fun _ => false, fun _ => false, pcd0, pcd0, pcd0, pcx0⟩
def msk_b8 (b : Nat) : List Nat := match b with | 200001 => [2] | _ => []
def lp_b8 (fu : Nat) : Lp RT den (Bool) := ⟨fun b s k => none, inl0⟩
theorem ev_b8 (fu : Nat) (b_0 : S_impl_Backend) : evFun E (pc_b8 fu) msk_b8 (lp_b8 fu) out_bo 78 [(.agg [(ii b_0.Name), (ii b_0.Address), (ii b_0.Weight), (ii b_0.Stage), (.bool b_0.Up)])] = F_impl_isBackend fu b_0 := by kernel_rfl
noncomputable def body_b8 : Code := Try.f78.body.getD .skip
theorem lpok_b8 (fu : Nat) : LpOk E (pc_b8 fu) 0 msk_b8 (lp_b8 fu) (loops 0 body_b8) := lp_nil (loop_nil (by kernel_rfl)) (by kernel_rfl)
def S_b8 (fu : Nat) (xs : List (D RT den)) : Option (Out RT den) := match xs with | [.agg [.int .i64 a0_1, .int .i64 a0_2, .int .i64 a0_3, .int .i64 a0_4, .bool a0_5]] => some ⟨Bool, F_impl_isBackend fu (⟨a0_1, a0_2, a0_3, a0_4, a0_5⟩ : S_impl_Backend), enc_bo, fun _ => true⟩ | _ => none
theorem hpc_b8 (fu : Nat) : HpcOk E Try.prog (pcf_b8 fu) := by
 intro f xs o h
 unfold pcf_b8 at h
 split at h
 ·exact good_b7 fu xs o h
 ·exact good_a35 fu xs o h
 ·exact good_b6 fu xs o h
 ·cases h
theorem goodv_b8 (fu : Nat) (b_0 : S_impl_Backend) (y : Bool) (hy : F_impl_isBackend fu b_0 = some y) : Vm.Good E Try.prog 78 [(.agg [(ii b_0.Name), (ii b_0.Address), (ii b_0.Weight), (ii b_0.Stage), (.bool b_0.Up)])] (enc_bo y) :=
 fun_good E_ok (pc_good (pc := pc_b8 fu) (hpc_b8 fu) hpx0) (fn := Try.f78) (by kernel_rfl) (by kernel_rfl) (by kernel_rfl) (lpok_b8 fu) (fun d hd => out_bo_enc d _ hd) ((ev_b8 fu b_0).trans hy)
theorem good_b8 (fu : Nat) : GoodS E Try.prog 78 (S_b8 fu) := by
 intro xs o h y hy
 unfold S_b8 at h
 split at h
 ·rename_i a0_1 a0_2 a0_3 a0_4 a0_5
  cases h
  exact goodv_b8 fu (⟨a0_1, a0_2, a0_3, a0_4, a0_5⟩ : S_impl_Backend) y hy
 ·cases h
def F_impl_isPort (fu : Nat) (n_0 : Int) : Option (Bool) :=
 ((F_impl_in fu n_0 0 65535).bind fun y218 => (some y218))
def pcf_b9 (fu f : Nat) (xs : List (D RT den)) : Option (Out RT den) := match f with | 77 => S_a35 fu xs | _ => none
def pc_b9 (fu : Nat) : Pc RT den := ⟨pcf_b9 fu, fun _ => false, fun _ => false, pcd0, pcd0, pcd0, pcx0⟩
def msk_b9 (b : Nat) : List Nat := []
def lp_b9 (fu : Nat) : Lp RT den (Bool) := ⟨fun b s k => none, inl0⟩
theorem ev_b9 (fu : Nat) (n_0 : Int) : evFun E (pc_b9 fu) msk_b9 (lp_b9 fu) out_bo 79 [(ii n_0)] = F_impl_isPort fu n_0 := by kernel_rfl
noncomputable def body_b9 : Code := Try.f79.body.getD .skip
theorem lpok_b9 (fu : Nat) : LpOk E (pc_b9 fu) 0 msk_b9 (lp_b9 fu) (loops 0 body_b9) := lp_nil (loop_nil (by kernel_rfl)) (by kernel_rfl)
def S_b9 (fu : Nat) (xs : List (D RT den)) : Option (Out RT den) := match xs with | [.int .i64 a0_0] => some ⟨Bool, F_impl_isPort fu a0_0, enc_bo, fun _ => true⟩ | _ => none
theorem hpc_b9 (fu : Nat) : HpcOk E Try.prog (pcf_b9 fu) := by
 intro f xs o h
 unfold pcf_b9 at h
 split at h
 ·exact good_a35 fu xs o h
 ·cases h
theorem goodv_b9 (fu : Nat) (n_0 : Int) (y : Bool) (hy : F_impl_isPort fu n_0 = some y) : Vm.Good E Try.prog 79 [(ii n_0)] (enc_bo y) :=
 fun_good E_ok (pc_good (pc := pc_b9 fu) (hpc_b9 fu) hpx0) (fn := Try.f79) (by kernel_rfl) (by kernel_rfl) (by kernel_rfl) (lpok_b9 fu) (fun d hd => out_bo_enc d _ hd) ((ev_b9 fu n_0).trans hy)
theorem good_b9 (fu : Nat) : GoodS E Try.prog 79 (S_b9 fu) := by
 intro xs o h y hy
 unfold S_b9 at h
 split at h
 ·rename_i a0_0
  cases h
  exact goodv_b9 fu a0_0 y hy
 ·cases h
def F_cmp_isNaN_int64 (fu : Nat) (x_0 : Int) : Option (Bool) :=
 (some (x_0 != x_0))
def pc_b10 (fu : Nat) : Pc RT den := ⟨pcf0, fun _ => false, fun _ => false, pcd0, pcd0, pcd0, pcx0⟩
def msk_b10 (b : Nat) : List Nat := []
def lp_b10 (fu : Nat) : Lp RT den (Bool) := ⟨fun b s k => none, inl0⟩
theorem ev_b10 (fu : Nat) (x_0 : Int) : evFun E (pc_b10 fu) msk_b10 (lp_b10 fu) out_bo 139 [(ii x_0)] = F_cmp_isNaN_int64 fu x_0 := by kernel_rfl
noncomputable def body_b10 : Code := Try.f139.body.getD .skip
theorem lpok_b10 (fu : Nat) : LpOk E (pc_b10 fu) 0 msk_b10 (lp_b10 fu) (loops 0 body_b10) := lp_nil (loop_nil (by kernel_rfl)) (by kernel_rfl)
def S_b10 (fu : Nat) (xs : List (D RT den)) : Option (Out RT den) := match xs with | [.int .i64 a0_0] => some ⟨Bool, F_cmp_isNaN_int64 fu a0_0, enc_bo, fun _ => true⟩ | _ => none
theorem goodv_b10 (fu : Nat) (x_0 : Int) (y : Bool) (hy : F_cmp_isNaN_int64 fu x_0 = some y) : Vm.Good E Try.prog 139 [(ii x_0)] (enc_bo y) :=
 fun_good E_ok (pc_good (pc := pc_b10 fu) hpc0 hpx0) (fn := Try.f139) (by kernel_rfl) (by kernel_rfl) (by kernel_rfl) (lpok_b10 fu) (fun d hd => out_bo_enc d _ hd) ((ev_b10 fu x_0).trans hy)
theorem good_b10 (fu : Nat) : GoodS E Try.prog 139 (S_b10 fu) := by
 intro xs o h y hy
 unfold S_b10 at h
 split at h
 ·rename_i a0_0
  cases h
  exact goodv_b10 fu a0_0 y hy
 ·cases h
def F_cmp_Compare_int64 (fu : Nat) (x_0 y_1 : Int) : Option (Int) :=
 ((F_cmp_isNaN_int64 fu x_0).bind fun y223 => ((F_cmp_isNaN_int64 fu y_1).bind fun y224 => (bif y223 then (bif y224 then (some 0) else (some (-1))) else (bif y224 then (some 1) else
  (bif (decide (x_0 < y_1)) then (some (-1)) else (bif (decide (x_0 > y_1)) then (some 1) else (some 0)))))))
def pcf_b11 (fu f : Nat) (xs : List (D RT den)) : Option (Out RT den) := match f with | 139 => S_b10 fu xs | _ => none
def pc_b11 (fu : Nat) : Pc RT den := ⟨pcf_b11 fu, fun _ => false, fun _ => false, pcd0, pcd0, pcd0, pcx0⟩
def msk_b11 (b : Nat) : List Nat := []
def lp_b11 (fu : Nat) : Lp RT den (Int) := ⟨fun b s k => none, inl0⟩
theorem ev_b11 (fu : Nat) (x_0 y_1 : Int) : evFun E (pc_b11 fu) msk_b11 (lp_b11 fu) out_i64 123 [(ii x_0), (ii y_1)] = F_cmp_Compare_int64 fu x_0 y_1 := by kernel_rfl
noncomputable def body_b11 : Code := Try.f123.body.getD .skip
theorem lpok_b11 (fu : Nat) : LpOk E (pc_b11 fu) 0 msk_b11 (lp_b11 fu) (loops 0 body_b11) := lp_nil (loop_nil (by kernel_rfl)) (by kernel_rfl)
def S_b11 (fu : Nat) (xs : List (D RT den)) : Option (Out RT den) := match xs with | [.int .i64 a0_0, .int .i64 a1_0] => some ⟨Int, F_cmp_Compare_int64 fu a0_0 a1_0, enc_i64, fun _ => true⟩ | _ => none
theorem hpc_b11 (fu : Nat) : HpcOk E Try.prog (pcf_b11 fu) := by
 intro f xs o h
 unfold pcf_b11 at h
 split at h
 ·exact good_b10 fu xs o h
 ·cases h
theorem goodv_b11 (fu : Nat) (x_0 y_1 y : Int) (hy : F_cmp_Compare_int64 fu x_0 y_1 = some y) : Vm.Good E Try.prog 123 [(ii x_0), (ii y_1)] (enc_i64 y) :=
 fun_good E_ok (pc_good (pc := pc_b11 fu) (hpc_b11 fu) hpx0) (fn := Try.f123) (by kernel_rfl) (by kernel_rfl) (by kernel_rfl) (lpok_b11 fu) (fun d hd => out_i64_enc d _ hd) ((ev_b11 fu x_0 y_1).trans hy)
theorem good_b11 (fu : Nat) : GoodS E Try.prog 123 (S_b11 fu) := by
 intro xs o h y hy
 unfold S_b11 at h
 split at h
 ·rename_i a0_0 a1_0
  cases h
  exact goodv_b11 fu a0_0 a1_0 y hy
 ·cases h
def F_cmp_Or_int_B0 {ρ : Type} (fu : Nat) (zero3_0 : Int) (t6_1 : (Sl Int)) (t7_2 : Int) (k0 : Int → Option ρ) (k1 : Option ρ) (t8_3 : Int) (go : Int → Option ρ) : Option ρ :=
 (bif (decide (t8_3 < t7_2)) then ((bif (decide (0 ≤ t8_3) && decide ((Int.toNat t8_3) < t6_1.n)) then some () else none : Option Unit).bind fun _ => (bif ((t6_1.f (Int.toNat t8_3)) != zero3_0) then
  (k0 (t6_1.f (Int.toNat t8_3))) else (go (IntKind.wrap .i64 (t8_3 + 1))))) else k1)
def F_cmp_Or_int (fu : Nat) (vals_0 : (Sl Int)) : Option (Int) :=
 (L (fun w0 go0 => F_cmp_Or_int_B0 fu 0 vals_0 ((vals_0.n : Nat) : Int) (fun z225 => (some z225)) (some 0) w0 go0) fu (0 : Int))
def pc_b12 (fu : Nat) : Pc RT den := ⟨pcf0, fun _ => false, fun _ => false, pcd0, pcd0, pcd0, pcx0⟩
def msk_b12 (b : Nat) : List Nat := match b with | 0 => (0 :: 1 :: 2 :: 4 :: 5 :: (rg 9 9 [])) | 100000 => (0 :: 1 :: (rg 4 14 [])) | _ => []
def ps_b12_0 : List (Pat RT) := (.flat .q :: .flat .q :: .flat .q :: .flat (.int .i64) :: .flat .q :: .flat .q :: .flat (.rs .i64) :: .flat (.int .i64) :: .flat (.int .i64) :: (fq 9 []))
def os_b12_0 : List (OP RT) := []
def conv_b12_0 (r : Raw den ps_b12_0 os_b12_0) : (Int × (Sl Int) × Int) × (Int) := ((r.1.2.2.2.1, (e5 r.1).2.1, (e5 r.1).2.2.1), (e5 r.1).2.2.2.1)
def back_b12_0 (c : Int × (Sl Int) × Int) (w : Int) : St RT den := ⟨(.q :: .q :: .q :: (ii c.1) :: .q :: .q :: (.rs c.2.1.z .i64 c.2.1.n c.2.1.f) :: (ii c.2.2) :: (ii w) :: (qs 9 [])), []⟩
def Bk_b12_0 {ρ : Type} (fu : Nat) (c : Int × (Sl Int) × Int) (k : Ex → St RT den → Option ρ) (w : Int) (go : (Int) → Option ρ) : Option ρ := F_cmp_Or_int_B0 fu c.1 c.2.1 c.2.2 (fun a0 => k .ret ⟨(.q :: .q :: (ii a0) :: (ii c.1) :: (qs 14 [])), []⟩) (k (.exit 0) ⟨(.q :: .q :: .q :: (ii c.1) :: (qs 14 [])), []⟩) w go
def lp_b12 (fu : Nat) : Lp RT den (Int) := ⟨fun b s k => match b with | 0 => handle ps_b12_0 os_b12_0 conv_b12_0 (Bk_b12_0 fu) fu s k | _ => none, inl0⟩
theorem ev_b12 (fu : Nat) (vals_0 : (Sl Int)) : evFun E (pc_b12 fu) msk_b12 (lp_b12 fu) out_i64 122 [(.rs vals_0.z .i64 vals_0.n vals_0.f)] = F_cmp_Or_int fu vals_0 := by kernel_rfl
noncomputable def body_b12 : Code := Try.f122.body.getD .skip
noncomputable def lc_b12_0 : Code := ((loops 0 body_b12).getD 0 (0, .skip)).2
theorem round_b12_0 (fu : Nat) : RoundOk E (pc_b12 fu) msk_b12 (lp_b12 fu) 0 lc_b12_0 back_b12_0 0 100000 0 (Bk_b12_0 fu) := fun it k c w => by kernel_rfl
theorem lpok_b12_0 (fu : Nat) : LpAt E (pc_b12 fu) msk_b12 (lp_b12 fu) 0 0 100000 0 lc_b12_0 :=
 handle_ok (ps := ps_b12_0) (os := os_b12_0) (conv := conv_b12_0) (B := Bk_b12_0 fu) (fu := fu) back_b12_0 (fun raw => by kernel_rfl) 0 (fun c w => by kernel_rfl) (round_b12_0 fu)
theorem lpok_b12 (fu : Nat) : LpOk E (pc_b12 fu) 0 msk_b12 (lp_b12 fu) (loops 0 body_b12) := lp_nil (loop_all 1 (by kernel_rfl) fun i hi => match i, hi with
 | 0, _ => by
  have h : (loops 0 body_b12).getD 0 (0, .skip) = (0, lc_b12_0) := by kernel_rfl
  rw [h]; exact lpok_b12_0 fu
 | i + 1, hi => absurd hi (by omega)) (by kernel_rfl)
def S_b12 (fu : Nat) (xs : List (D RT den)) : Option (Out RT den) := match xs with | [.rs za0_0 .i64 na0_0 fa0_0] => some ⟨Int, F_cmp_Or_int fu (⟨za0_0, na0_0, fa0_0⟩ : (Sl Int)), enc_i64, fun _ => true⟩ | _ => none
theorem goodv_b12 (fu : Nat) (vals_0 : (Sl Int)) (y : Int) (hy : F_cmp_Or_int fu vals_0 = some y) : Vm.Good E Try.prog 122 [(.rs vals_0.z .i64 vals_0.n vals_0.f)] (enc_i64 y) :=
 fun_good E_ok (pc_good (pc := pc_b12 fu) hpc0 hpx0) (fn := Try.f122) (by kernel_rfl) (by kernel_rfl) (by kernel_rfl) (lpok_b12 fu) (fun d hd => out_i64_enc d _ hd) ((ev_b12 fu vals_0).trans hy)
theorem good_b12 (fu : Nat) : GoodS E Try.prog 122 (S_b12 fu) := by
 intro xs o h y hy
 unfold S_b12 at h
 split at h
 ·rename_i za0_0 na0_0 fa0_0
  cases h
  exact goodv_b12 fu (⟨za0_0, na0_0, fa0_0⟩ : (Sl Int)) y hy
 ·cases h
def F_impl_compareVip (fu : Nat) (a_0 b_1 : S_impl_Vip) : Option (Int) :=
 ((F_cmp_Compare_int64 fu a_0.Address b_1.Address).bind fun y219 => ((F_cmp_Compare_int64 fu a_0.Port b_1.Port).bind fun y220 => ((F_cmp_Compare_int64 fu a_0.Proto b_1.Proto).bind fun y221 =>
  ((F_cmp_Or_int fu (⟨(some false), 3, (fun i => ([y219, y220, y221] : List (Int)).getD i (dflt .i64))⟩ : (Sl Int))).bind fun y222 => (some y222)))))
def pcf_b13 (fu f : Nat) (xs : List (D RT den)) : Option (Out RT den) := match f with | 122 => S_b12 fu xs | 123 => S_b11 fu xs | _ => none
def pc_b13 (fu : Nat) : Pc RT den := ⟨pcf_b13 fu, fun _ => false, fun _ => false, pcd0, pcd0, pcd0, pcx0⟩
def msk_b13 (b : Nat) : List Nat := []
def lp_b13 (fu : Nat) : Lp RT den (Int) := ⟨fun b s k => none, inl0⟩
theorem ev_b13 (fu : Nat) (a_0 b_1 : S_impl_Vip) : evFun E (pc_b13 fu) msk_b13 (lp_b13 fu) out_i64 81 [(.agg [(ii a_0.Address), (ii a_0.Port), (ii a_0.Proto), (.rs a_0.Names.z .i64 a_0.Names.n a_0.Names.f)]), (.agg [(ii b_1.Address), (ii b_1.Port), (ii b_1.Proto), (.rs b_1.Names.z .i64 b_1.Names.n b_1.Names.f)])] = F_impl_compareVip fu a_0 b_1 := by kernel_rfl
noncomputable def body_b13 : Code := Try.f81.body.getD .skip
theorem lpok_b13 (fu : Nat) : LpOk E (pc_b13 fu) 0 msk_b13 (lp_b13 fu) (loops 0 body_b13) := lp_nil (loop_nil (by kernel_rfl)) (by kernel_rfl)
def S_b13 (fu : Nat) (xs : List (D RT den)) : Option (Out RT den) := match xs with | [.agg [.int .i64 a0_1, .int .i64 a0_2, .int .i64 a0_3, .rs za0_4 .i64 na0_4 fa0_4], .agg [.int .i64 a1_1, .int .i64 a1_2, .int .i64 a1_3, .rs za1_4 .i64 na1_4 fa1_4]] => some ⟨Int, F_impl_compareVip fu (⟨a0_1, a0_2, a0_3, (⟨za0_4, na0_4, fa0_4⟩ : (Sl Int))⟩ : S_impl_Vip) (⟨a1_1, a1_2, a1_3, (⟨za1_4, na1_4, fa1_4⟩ : (Sl Int))⟩ : S_impl_Vip), enc_i64, fun _ => true⟩ | _ => none
theorem hpc_b13 (fu : Nat) : HpcOk E Try.prog (pcf_b13 fu) := by
 intro f xs o h
 unfold pcf_b13 at h
 split at h
 ·exact good_b12 fu xs o h
 ·exact good_b11 fu xs o h
 ·cases h
theorem goodv_b13 (fu : Nat) (a_0 b_1 : S_impl_Vip) (y : Int) (hy : F_impl_compareVip fu a_0 b_1 = some y) : Vm.Good E Try.prog 81 [(.agg [(ii a_0.Address), (ii a_0.Port), (ii a_0.Proto), (.rs a_0.Names.z .i64 a_0.Names.n a_0.Names.f)]), (.agg [(ii b_1.Address), (ii b_1.Port), (ii b_1.Proto), (.rs b_1.Names.z .i64 b_1.Names.n b_1.Names.f)])] (enc_i64 y) :=
 fun_good E_ok (pc_good (pc := pc_b13 fu) (hpc_b13 fu) hpx0) (fn := Try.f81) (by kernel_rfl) (by kernel_rfl) (by kernel_rfl) (lpok_b13 fu) (fun d hd => out_i64_enc d _ hd) ((ev_b13 fu a_0 b_1).trans hy)
theorem good_b13 (fu : Nat) : GoodS E Try.prog 81 (S_b13 fu) := by
 intro xs o h y hy
 unfold S_b13 at h
 split at h
 ·rename_i a0_1 a0_2 a0_3 za0_4 na0_4 fa0_4 a1_1 a1_2 a1_3 za1_4 na1_4 fa1_4
  cases h
  exact goodv_b13 fu (⟨a0_1, a0_2, a0_3, (⟨za0_4, na0_4, fa0_4⟩ : (Sl Int))⟩ : S_impl_Vip) (⟨a1_1, a1_2, a1_3, (⟨za1_4, na1_4, fa1_4⟩ : (Sl Int))⟩ : S_impl_Vip) y hy
 ·cases h
def F_impl_Config_backend_c1 (fu : Nat) (b_0 : S_impl_Backend) (x_1_1 : Int) : Option (Bool) :=
 (some (b_0.Name == x_1_1))
def pc_b14 (fu : Nat) : Pc RT den := ⟨pcf0, fun _ => false, fun _ => false, pcd0, pcd0, pcd0, pcx0⟩
def msk_b14 (b : Nat) : List Nat := []
def lp_b14 (fu : Nat) : Lp RT den (Bool) := ⟨fun b s k => none, inl0⟩
theorem ev_b14 (fu : Nat) (b_0 : S_impl_Backend) (x_1_1 : Int) : evFun E (pc_b14 fu) msk_b14 (lp_b14 fu) out_bo 117 [(.agg [(ii b_0.Name), (ii b_0.Address), (ii b_0.Weight), (ii b_0.Stage), (.bool b_0.Up)]), (.rptr [(ii x_1_1)])] = F_impl_Config_backend_c1 fu b_0 x_1_1 := by kernel_rfl
noncomputable def body_b14 : Code := Try.f117.body.getD .skip
theorem lpok_b14 (fu : Nat) : LpOk E (pc_b14 fu) 0 msk_b14 (lp_b14 fu) (loops 0 body_b14) := lp_nil (loop_nil (by kernel_rfl)) (by kernel_rfl)
def S_b14 (fu : Nat) (xs : List (D RT den)) : Option (Out RT den) := match xs with | [.agg [.int .i64 a0_1, .int .i64 a0_2, .int .i64 a0_3, .int .i64 a0_4, .bool a0_5], .rptr [.int .i64 a1_0]] => some ⟨Bool, F_impl_Config_backend_c1 fu (⟨a0_1, a0_2, a0_3, a0_4, a0_5⟩ : S_impl_Backend) a1_0, enc_bo, fun _ => true⟩ | _ => none
theorem goodv_b14 (fu : Nat) (b_0 : S_impl_Backend) (x_1_1 : Int) (y : Bool) (hy : F_impl_Config_backend_c1 fu b_0 x_1_1 = some y) : Vm.Good E Try.prog 117 [(.agg [(ii b_0.Name), (ii b_0.Address), (ii b_0.Weight), (ii b_0.Stage), (.bool b_0.Up)]), (.rptr [(ii x_1_1)])] (enc_bo y) :=
 fun_good E_ok (pc_good (pc := pc_b14 fu) hpc0 hpx0) (fn := Try.f117) (by kernel_rfl) (by kernel_rfl) (by kernel_rfl) (lpok_b14 fu) (fun d hd => out_bo_enc d _ hd) ((ev_b14 fu b_0 x_1_1).trans hy)
theorem good_b14 (fu : Nat) : GoodS E Try.prog 117 (S_b14 fu) := by
 intro xs o h y hy
 unfold S_b14 at h
 split at h
 ·rename_i a0_1 a0_2 a0_3 a0_4 a0_5 a1_0
  cases h
  exact goodv_b14 fu (⟨a0_1, a0_2, a0_3, a0_4, a0_5⟩ : S_impl_Backend) a1_0 y hy
 ·cases h
def F_slices_IndexFunc_impl_Backend_impl_Backend_w_impl_Config_backend_c1_B0 {ρ : Type} (fu : Nat) (s0_0 : (Sl S_impl_Backend)) (f1_1 t7_2 : Int) (k0 : Int → Option ρ) (k1 : Option ρ) (t8_3 : Int) (go : Int → Option ρ) : Option ρ :=
 (bif (decide (t8_3 < t7_2)) then ((bif (decide (0 ≤ t8_3) && decide ((Int.toNat t8_3) < s0_0.n)) then some () else none : Option Unit).bind fun _ => ((F_impl_Config_backend_c1 fu (s0_0.f (Int.toNat t8_3)) f1_1).bind fun y231 =>
  (bif y231 then (k0 t8_3) else (go (IntKind.wrap .i64 (t8_3 + 1)))))) else k1)
def F_slices_IndexFunc_impl_Backend_impl_Backend_w_impl_Config_backend_c1 (fu : Nat) (s_0 : (Sl S_impl_Backend)) (f_1_1 : Int) : Option (Int) :=
 (L (fun w0 go0 => F_slices_IndexFunc_impl_Backend_impl_Backend_w_impl_Config_backend_c1_B0 fu s_0 f_1_1 ((s_0.n : Nat) : Int) (fun z232 => (some z232)) (some (-1)) w0 go0) fu (0 : Int))
def pcf_b15 (fu f : Nat) (xs : List (D RT den)) : Option (Out RT den) := match f with | 117 => S_b14 fu xs | _ => none
def pc_b15 (fu : Nat) : Pc RT den := ⟨pcf_b15 fu, fun _ => false, fun _ => false, pcd0, pcd0, pcd0, pcx0⟩
def msk_b15 (b : Nat) : List Nat := match b with | 0 => (rg 2 5 (rg 9 10 [])) | 100000 => (0 :: 1 :: 2 :: 3 :: (rg 5 14 [])) | _ => []
def ps_b15_0 : List (Pat RT) := (.flat (.rs .impl_Backend) :: .fn 117 [.rptr [(.int .i64)]] :: (fq 5 (.flat (.int .i64) :: .flat (.int .i64) :: (fq 10 []))))
def os_b15_0 : List (OP RT) := []
def conv_b15_0 (r : Raw den ps_b15_0 os_b15_0) : ((Sl S_impl_Backend) × Int × Int) × (Int) := ((r.1.1, r.1.2.1.1.1, (e5 r.1).2.2.1), (e5 r.1).2.2.2.1)
def back_b15_0 (c : (Sl S_impl_Backend) × Int × Int) (w : Int) : St RT den := ⟨((.rs c.1.z .impl_Backend c.1.n c.1.f) :: (.fn 117 [(.rptr [(ii c.2.1)])]) :: (qs 5 ((ii c.2.2) :: (ii w) :: (qs 10 [])))), []⟩
def Bk_b15_0 {ρ : Type} (fu : Nat) (c : (Sl S_impl_Backend) × Int × Int) (k : Ex → St RT den → Option ρ) (w : Int) (go : (Int) → Option ρ) : Option ρ := F_slices_IndexFunc_impl_Backend_impl_Backend_w_impl_Config_backend_c1_B0 fu c.1 c.2.1 c.2.2 (fun a0 => k .ret ⟨(qs 4 ((ii a0) :: (qs 14 []))), []⟩) (k (.exit 0) ⟨(qs 19 []), []⟩) w go
def lp_b15 (fu : Nat) : Lp RT den (Int) := ⟨fun b s k => match b with | 0 => handle ps_b15_0 os_b15_0 conv_b15_0 (Bk_b15_0 fu) fu s k | _ => none, inl0⟩
theorem ev_b15 (fu : Nat) (s_0 : (Sl S_impl_Backend)) (f_1_1 : Int) : evFun E (pc_b15 fu) msk_b15 (lp_b15 fu) out_i64 116 [(.rs s_0.z .impl_Backend s_0.n s_0.f), (.fn 117 [(.rptr [(ii f_1_1)])])] = F_slices_IndexFunc_impl_Backend_impl_Backend_w_impl_Config_backend_c1 fu s_0 f_1_1 := by kernel_rfl
noncomputable def body_b15 : Code := Try.f116.body.getD .skip
noncomputable def lc_b15_0 : Code := ((loops 0 body_b15).getD 0 (0, .skip)).2
theorem round_b15_0 (fu : Nat) : RoundOk E (pc_b15 fu) msk_b15 (lp_b15 fu) 0 lc_b15_0 back_b15_0 0 100000 0 (Bk_b15_0 fu) := fun it k c w => by kernel_rfl
theorem lpok_b15_0 (fu : Nat) : LpAt E (pc_b15 fu) msk_b15 (lp_b15 fu) 0 0 100000 0 lc_b15_0 :=
 handle_ok (ps := ps_b15_0) (os := os_b15_0) (conv := conv_b15_0) (B := Bk_b15_0 fu) (fu := fu) back_b15_0 (fun raw => by kernel_rfl) 0 (fun c w => by kernel_rfl) (round_b15_0 fu)
theorem lpok_b15 (fu : Nat) : LpOk E (pc_b15 fu) 0 msk_b15 (lp_b15 fu) (loops 0 body_b15) := lp_nil (loop_all 1 (by kernel_rfl) fun i hi => match i, hi with
 | 0, _ => by
  have h : (loops 0 body_b15).getD 0 (0, .skip) = (0, lc_b15_0) := by kernel_rfl
  rw [h]; exact lpok_b15_0 fu
 | i + 1, hi => absurd hi (by omega)) (by kernel_rfl)
def S_b15 (fu : Nat) (xs : List (D RT den)) : Option (Out RT den) := match xs with | [.rs za0_0 .impl_Backend na0_0 fa0_0, .fn 117 [.rptr [.int .i64 a1_0]]] => some ⟨Int, F_slices_IndexFunc_impl_Backend_impl_Backend_w_impl_Config_backend_c1 fu (⟨za0_0, na0_0, fa0_0⟩ : (Sl S_impl_Backend)) a1_0, enc_i64, fun _ => true⟩ | _ => none
theorem hpc_b15 (fu : Nat) : HpcOk E Try.prog (pcf_b15 fu) := by
 intro f xs o h
 unfold pcf_b15 at h
 split at h
 ·exact good_b14 fu xs o h
 ·cases h
theorem goodv_b15 (fu : Nat) (s_0 : (Sl S_impl_Backend)) (f_1_1 y : Int) (hy : F_slices_IndexFunc_impl_Backend_impl_Backend_w_impl_Config_backend_c1 fu s_0 f_1_1 = some y) : Vm.Good E Try.prog 116 [(.rs s_0.z .impl_Backend s_0.n s_0.f), (.fn 117 [(.rptr [(ii f_1_1)])])] (enc_i64 y) :=
 fun_good E_ok (pc_good (pc := pc_b15 fu) (hpc_b15 fu) hpx0) (fn := Try.f116) (by kernel_rfl) (by kernel_rfl) (by kernel_rfl) (lpok_b15 fu) (fun d hd => out_i64_enc d _ hd) ((ev_b15 fu s_0 f_1_1).trans hy)
theorem good_b15 (fu : Nat) : GoodS E Try.prog 116 (S_b15 fu) := by
 intro xs o h y hy
 unfold S_b15 at h
 split at h
 ·rename_i za0_0 na0_0 fa0_0 a1_0
  cases h
  exact goodv_b15 fu (⟨za0_0, na0_0, fa0_0⟩ : (Sl S_impl_Backend)) a1_0 y hy
 ·cases h
def F_impl_Config_backend (fu : Nat) (c_0 : S_impl_Config) (name_1 : Int) : Option (Int) :=
 ((F_slices_IndexFunc_impl_Backend_impl_Backend_w_impl_Config_backend_c1 fu c_0.Backends name_1).bind fun y230 => (some y230))
def pcf_b16 (fu f : Nat) (xs : List (D RT den)) : Option (Out RT den) := match f with | 116 => S_b15 fu xs | _ => none
def pc_b16 (fu : Nat) : Pc RT den := ⟨pcf_b16 fu, fun _ => false, fun _ => false, pcd0, pcd0, pcd0, pcx0⟩
def msk_b16 (b : Nat) : List Nat := []
def lp_b16 (fu : Nat) : Lp RT den (Int) := ⟨fun b s k => none, inl0⟩
theorem ev_b16 (fu : Nat) (c_0 : S_impl_Config) (name_1 : Int) : evFun E (pc_b16 fu) msk_b16 (lp_b16 fu) out_i64 70 [(.rptr [(ii c_0.Version), (.rs c_0.Backends.z .impl_Backend c_0.Backends.n c_0.Backends.f), (.rs c_0.Vips.z .impl_Vip c_0.Vips.n c_0.Vips.f)]), (ii name_1)] = F_impl_Config_backend fu c_0 name_1 := by kernel_rfl
noncomputable def body_b16 : Code := Try.f70.body.getD .skip
theorem lpok_b16 (fu : Nat) : LpOk E (pc_b16 fu) 0 msk_b16 (lp_b16 fu) (loops 0 body_b16) := lp_nil (loop_nil (by kernel_rfl)) (by kernel_rfl)
def S_b16 (fu : Nat) (xs : List (D RT den)) : Option (Out RT den) := match xs with | [.rptr (.int .i64 a0_1 :: .rs za0_2 .impl_Backend na0_2 fa0_2 :: .rs za0_3 .impl_Vip na0_3 fa0_3 :: ra0), .int .i64 a1_0] => some ⟨Int, F_impl_Config_backend fu (⟨a0_1, (⟨za0_2, na0_2, fa0_2⟩ : (Sl S_impl_Backend)), (⟨za0_3, na0_3, fa0_3⟩ : (Sl S_impl_Vip))⟩ : S_impl_Config) a1_0, enc_i64, fun _ => true⟩ | _ => none
theorem hpc_b16 (fu : Nat) : HpcOk E Try.prog (pcf_b16 fu) := by
 intro f xs o h
 unfold pcf_b16 at h
 split at h
 ·exact good_b15 fu xs o h
 ·cases h
theorem goodv_b16 (fu : Nat) (c_0 : S_impl_Config) (name_1 y : Int) (hy : F_impl_Config_backend fu c_0 name_1 = some y) : Vm.Good E Try.prog 70 [(.rptr [(ii c_0.Version), (.rs c_0.Backends.z .impl_Backend c_0.Backends.n c_0.Backends.f), (.rs c_0.Vips.z .impl_Vip c_0.Vips.n c_0.Vips.f)]), (ii name_1)] (enc_i64 y) :=
 fun_good E_ok (pc_good (pc := pc_b16 fu) (hpc_b16 fu) hpx0) (fn := Try.f70) (by kernel_rfl) (by kernel_rfl) (by kernel_rfl) (lpok_b16 fu) (fun d hd => out_i64_enc d _ hd) ((ev_b16 fu c_0 name_1).trans hy)
theorem good_b16 (fu : Nat) : GoodS E Try.prog 70 (S_b16 fu) := by
 intro xs o h y hy
 unfold S_b16 at h
 split at h
 ·rename_i a0_1 za0_2 na0_2 fa0_2 za0_3 na0_3 fa0_3 ra0 a1_0
  cases h
  exact (goodv_b16 fu (⟨a0_1, (⟨za0_2, na0_2, fa0_2⟩ : (Sl S_impl_Backend)), (⟨za0_3, na0_3, fa0_3⟩ : (Sl S_impl_Vip))⟩ : S_impl_Config) a1_0 y hy).sub ⟨Sub.of_eq ra0 rfl, .refl _, trivial⟩
 ·cases h
def F_impl_ConfigFault_c1 (fu : Nat) (name_0 x_1_1 : Int) (x_1_2 : (Sl S_impl_Backend)) (x_1_3 : (Sl S_impl_Vip)) : Option (Bool) :=
 ((F_impl_Config_backend fu (⟨x_1_1, x_1_2, x_1_3⟩ : S_impl_Config) name_0).bind fun y229 => (some (decide (y229 < 0))))
def pcf_b17 (fu f : Nat) (xs : List (D RT den)) : Option (Out RT den) := match f with | 70 => S_b16 fu xs | _ => none
def pc_b17 (fu : Nat) : Pc RT den := ⟨pcf_b17 fu, fun _ => false, fun _ => false, pcd0, pcd0, pcd0, pcx0⟩
def msk_b17 (b : Nat) : List Nat := []
def lp_b17 (fu : Nat) : Lp RT den (Bool) := ⟨fun b s k => none, inl0⟩
theorem ev_b17 (fu : Nat) (name_0 x_1_1 : Int) (x_1_2 : (Sl S_impl_Backend)) (x_1_3 : (Sl S_impl_Vip)) : evFun E (pc_b17 fu) msk_b17 (lp_b17 fu) out_bo 82 [(ii name_0), (.rptr [(ii x_1_1), (.rs x_1_2.z .impl_Backend x_1_2.n x_1_2.f), (.rs x_1_3.z .impl_Vip x_1_3.n x_1_3.f)])] = F_impl_ConfigFault_c1 fu name_0 x_1_1 x_1_2 x_1_3 := by kernel_rfl
noncomputable def body_b17 : Code := Try.f82.body.getD .skip
theorem lpok_b17 (fu : Nat) : LpOk E (pc_b17 fu) 0 msk_b17 (lp_b17 fu) (loops 0 body_b17) := lp_nil (loop_nil (by kernel_rfl)) (by kernel_rfl)
def S_b17 (fu : Nat) (xs : List (D RT den)) : Option (Out RT den) := match xs with | [.int .i64 a0_0, .rptr [.int .i64 a1_0, .rs za1_1 .impl_Backend na1_1 fa1_1, .rs za1_2 .impl_Vip na1_2 fa1_2]] => some ⟨Bool, F_impl_ConfigFault_c1 fu a0_0 a1_0 (⟨za1_1, na1_1, fa1_1⟩ : (Sl S_impl_Backend)) (⟨za1_2, na1_2, fa1_2⟩ : (Sl S_impl_Vip)), enc_bo, fun _ => true⟩ | _ => none
theorem hpc_b17 (fu : Nat) : HpcOk E Try.prog (pcf_b17 fu) := by
 intro f xs o h
 unfold pcf_b17 at h
 split at h
 ·exact good_b16 fu xs o h
 ·cases h
theorem goodv_b17 (fu : Nat) (name_0 x_1_1 : Int) (x_1_2 : (Sl S_impl_Backend)) (x_1_3 : (Sl S_impl_Vip)) (y : Bool) (hy : F_impl_ConfigFault_c1 fu name_0 x_1_1 x_1_2 x_1_3 = some y) : Vm.Good E Try.prog 82 [(ii name_0), (.rptr [(ii x_1_1), (.rs x_1_2.z .impl_Backend x_1_2.n x_1_2.f), (.rs x_1_3.z .impl_Vip x_1_3.n x_1_3.f)])] (enc_bo y) :=
 fun_good E_ok (pc_good (pc := pc_b17 fu) (hpc_b17 fu) hpx0) (fn := Try.f82) (by kernel_rfl) (by kernel_rfl) (by kernel_rfl) (lpok_b17 fu) (fun d hd => out_bo_enc d _ hd) ((ev_b17 fu name_0 x_1_1 x_1_2 x_1_3).trans hy)
theorem good_b17 (fu : Nat) : GoodS E Try.prog 82 (S_b17 fu) := by
 intro xs o h y hy
 unfold S_b17 at h
 split at h
 ·rename_i a0_0 a1_0 za1_1 na1_1 fa1_1 za1_2 na1_2 fa1_2
  cases h
  exact goodv_b17 fu a0_0 a1_0 (⟨za1_1, na1_1, fa1_1⟩ : (Sl S_impl_Backend)) (⟨za1_2, na1_2, fa1_2⟩ : (Sl S_impl_Vip)) y hy
 ·cases h
def F_slices_IndexFunc_int64_int64_w_impl_ConfigFault_c1_B0 {ρ : Type} (fu : Nat) (s0_0 : (Sl Int)) (f1_1 : Int) (f1_2 : (Sl S_impl_Backend)) (f1_3 : (Sl S_impl_Vip)) (t7_4 : Int) (k0 : Int → Option ρ) (k1 : Option ρ) (t8_5 : Int) (go : Int → Option ρ) : Option ρ :=
 (bif (decide (t8_5 < t7_4)) then ((bif (decide (0 ≤ t8_5) && decide ((Int.toNat t8_5) < s0_0.n)) then some () else none : Option Unit).bind fun _ => ((F_impl_ConfigFault_c1 fu (s0_0.f (Int.toNat t8_5)) f1_1 f1_2 f1_3).bind fun y227 =>
  (bif y227 then (k0 t8_5) else (go (IntKind.wrap .i64 (t8_5 + 1)))))) else k1)
def F_slices_IndexFunc_int64_int64_w_impl_ConfigFault_c1 (fu : Nat) (s_0 : (Sl Int)) (f_1_1 : Int) (f_1_2 : (Sl S_impl_Backend)) (f_1_3 : (Sl S_impl_Vip)) : Option (Int) :=
 (L (fun w0 go0 => F_slices_IndexFunc_int64_int64_w_impl_ConfigFault_c1_B0 fu s_0 f_1_1 f_1_2 f_1_3 ((s_0.n : Nat) : Int) (fun z228 => (some z228)) (some (-1)) w0 go0) fu (0 : Int))
def pcf_b18 (fu f : Nat) (xs : List (D RT den)) : Option (Out RT den) := match f with | 82 => S_b17 fu xs | _ => none
def pc_b18 (fu : Nat) : Pc RT den := ⟨pcf_b18 fu, fun _ => false, fun _ => false, pcd0, pcd0, pcd0, pcx0⟩
def msk_b18 (b : Nat) : List Nat := match b with | 0 => (rg 2 5 (rg 9 10 [])) | 100000 => (0 :: 1 :: 2 :: 3 :: (rg 5 14 [])) | _ => []
def ps_b18_0 : List (Pat RT) := (.flat (.rs .i64) :: .fn 82 [.rptr [(.int .i64), (.rs .impl_Backend), (.rs .impl_Vip)]] :: (fq 5 (.flat (.int .i64) :: .flat (.int .i64) :: (fq 10 []))))
def os_b18_0 : List (OP RT) := []
def conv_b18_0 (r : Raw den ps_b18_0 os_b18_0) : (Yc1) × (Int) := ((r.1.1, r.1.2.1.1.1, r.1.2.1.1.2.1, r.1.2.1.1.2.2.1, (e5 r.1).2.2.1), (e5 r.1).2.2.2.1)
def back_b18_0 (c : Yc1) (w : Int) : St RT den := ⟨((.rs c.1.z .i64 c.1.n c.1.f) :: (.fn 82 [(.rptr [(ii c.2.1), (.rs c.2.2.1.z .impl_Backend c.2.2.1.n c.2.2.1.f), (.rs c.2.2.2.1.z .impl_Vip c.2.2.2.1.n c.2.2.2.1.f)])]) :: (qs 5 ((ii c.2.2.2.2) :: (ii w) :: (qs 10 [])))), []⟩
def Bk_b18_0 {ρ : Type} (fu : Nat) (c : Yc1) (k : Ex → St RT den → Option ρ) (w : Int) (go : (Int) → Option ρ) : Option ρ := F_slices_IndexFunc_int64_int64_w_impl_ConfigFault_c1_B0 fu c.1 c.2.1 c.2.2.1 c.2.2.2.1 c.2.2.2.2 (fun a0 => k .ret ⟨(qs 4 ((ii a0) :: (qs 14 []))), []⟩) (k (.exit 0) ⟨(qs 19 []), []⟩) w go
def lp_b18 (fu : Nat) : Lp RT den (Int) := ⟨fun b s k => match b with | 0 => handle ps_b18_0 os_b18_0 conv_b18_0 (Bk_b18_0 fu) fu s k | _ => none, inl0⟩
theorem ev_b18 (fu : Nat) (s_0 : (Sl Int)) (f_1_1 : Int) (f_1_2 : (Sl S_impl_Backend)) (f_1_3 : (Sl S_impl_Vip)) : evFun E (pc_b18 fu) msk_b18 (lp_b18 fu) out_i64 113 [(.rs s_0.z .i64 s_0.n s_0.f), (.fn 82 [(.rptr [(ii f_1_1), (.rs f_1_2.z .impl_Backend f_1_2.n f_1_2.f), (.rs f_1_3.z .impl_Vip f_1_3.n f_1_3.f)])])] = F_slices_IndexFunc_int64_int64_w_impl_ConfigFault_c1 fu s_0 f_1_1 f_1_2 f_1_3 := by kernel_rfl
noncomputable def body_b18 : Code := Try.f113.body.getD .skip
noncomputable def lc_b18_0 : Code := ((loops 0 body_b18).getD 0 (0, .skip)).2
theorem round_b18_0 (fu : Nat) : RoundOk E (pc_b18 fu) msk_b18 (lp_b18 fu) 0 lc_b18_0 back_b18_0 0 100000 0 (Bk_b18_0 fu) := fun it k c w => by kernel_rfl
theorem lpok_b18_0 (fu : Nat) : LpAt E (pc_b18 fu) msk_b18 (lp_b18 fu) 0 0 100000 0 lc_b18_0 :=
 handle_ok (ps := ps_b18_0) (os := os_b18_0) (conv := conv_b18_0) (B := Bk_b18_0 fu) (fu := fu) back_b18_0 (fun raw => by kernel_rfl) 0 (fun c w => by kernel_rfl) (round_b18_0 fu)
theorem lpok_b18 (fu : Nat) : LpOk E (pc_b18 fu) 0 msk_b18 (lp_b18 fu) (loops 0 body_b18) := lp_nil (loop_all 1 (by kernel_rfl) fun i hi => match i, hi with
 | 0, _ => by
  have h : (loops 0 body_b18).getD 0 (0, .skip) = (0, lc_b18_0) := by kernel_rfl
  rw [h]; exact lpok_b18_0 fu
 | i + 1, hi => absurd hi (by omega)) (by kernel_rfl)
def S_b18 (fu : Nat) (xs : List (D RT den)) : Option (Out RT den) := match xs with | [.rs za0_0 .i64 na0_0 fa0_0, .fn 82 [.rptr [.int .i64 a1_0, .rs za1_1 .impl_Backend na1_1 fa1_1, .rs za1_2 .impl_Vip na1_2 fa1_2]]] => some ⟨Int, F_slices_IndexFunc_int64_int64_w_impl_ConfigFault_c1 fu (⟨za0_0, na0_0, fa0_0⟩ : (Sl Int)) a1_0 (⟨za1_1, na1_1, fa1_1⟩ : (Sl S_impl_Backend)) (⟨za1_2, na1_2, fa1_2⟩ : (Sl S_impl_Vip)), enc_i64, fun _ => true⟩ | _ => none
theorem hpc_b18 (fu : Nat) : HpcOk E Try.prog (pcf_b18 fu) := by
 intro f xs o h
 unfold pcf_b18 at h
 split at h
 ·exact good_b17 fu xs o h
 ·cases h
theorem goodv_b18 (fu : Nat) (s_0 : (Sl Int)) (f_1_1 : Int) (f_1_2 : (Sl S_impl_Backend)) (f_1_3 : (Sl S_impl_Vip)) (y : Int) (hy : F_slices_IndexFunc_int64_int64_w_impl_ConfigFault_c1 fu s_0 f_1_1 f_1_2 f_1_3 = some y) : Vm.Good E Try.prog 113 [(.rs s_0.z .i64 s_0.n s_0.f), (.fn 82 [(.rptr [(ii f_1_1), (.rs f_1_2.z .impl_Backend f_1_2.n f_1_2.f), (.rs f_1_3.z .impl_Vip f_1_3.n f_1_3.f)])])] (enc_i64 y) :=
 fun_good E_ok (pc_good (pc := pc_b18 fu) (hpc_b18 fu) hpx0) (fn := Try.f113) (by kernel_rfl) (by kernel_rfl) (by kernel_rfl) (lpok_b18 fu) (fun d hd => out_i64_enc d _ hd) ((ev_b18 fu s_0 f_1_1 f_1_2 f_1_3).trans hy)
theorem good_b18 (fu : Nat) : GoodS E Try.prog 113 (S_b18 fu) := by
 intro xs o h y hy
 unfold S_b18 at h
 split at h
 ·rename_i za0_0 na0_0 fa0_0 a1_0 za1_1 na1_1 fa1_1 za1_2 na1_2 fa1_2
  cases h
  exact goodv_b18 fu (⟨za0_0, na0_0, fa0_0⟩ : (Sl Int)) a1_0 (⟨za1_1, na1_1, fa1_1⟩ : (Sl S_impl_Backend)) (⟨za1_2, na1_2, fa1_2⟩ : (Sl S_impl_Vip)) y hy
 ·cases h
def F_slices_ContainsFunc_int64_int64_w_impl_ConfigFault_c1 (fu : Nat) (s_0 : (Sl Int)) (f_1_1 : Int) (f_1_2 : (Sl S_impl_Backend)) (f_1_3 : (Sl S_impl_Vip)) : Option (Bool) :=
 ((F_slices_IndexFunc_int64_int64_w_impl_ConfigFault_c1 fu s_0 f_1_1 f_1_2 f_1_3).bind fun y226 => (some (decide (y226 ≥ 0))))
def pcf_b19 (fu f : Nat) (xs : List (D RT den)) : Option (Out RT den) := match f with | 113 => S_b18 fu xs | _ => none
def pc_b19 (fu : Nat) : Pc RT den := ⟨pcf_b19 fu, fun _ => false, fun _ => false, pcd0, pcd0, pcd0, pcx0⟩
def msk_b19 (b : Nat) : List Nat := []
def lp_b19 (fu : Nat) : Lp RT den (Bool) := ⟨fun b s k => none, inl0⟩
theorem ev_b19 (fu : Nat) (s_0 : (Sl Int)) (f_1_1 : Int) (f_1_2 : (Sl S_impl_Backend)) (f_1_3 : (Sl S_impl_Vip)) : evFun E (pc_b19 fu) msk_b19 (lp_b19 fu) out_bo 66 [(.rs s_0.z .i64 s_0.n s_0.f), (.fn 82 [(.rptr [(ii f_1_1), (.rs f_1_2.z .impl_Backend f_1_2.n f_1_2.f), (.rs f_1_3.z .impl_Vip f_1_3.n f_1_3.f)])])] = F_slices_ContainsFunc_int64_int64_w_impl_ConfigFault_c1 fu s_0 f_1_1 f_1_2 f_1_3 := by kernel_rfl
noncomputable def body_b19 : Code := Try.f66.body.getD .skip
theorem lpok_b19 (fu : Nat) : LpOk E (pc_b19 fu) 0 msk_b19 (lp_b19 fu) (loops 0 body_b19) := lp_nil (loop_nil (by kernel_rfl)) (by kernel_rfl)
def S_b19 (fu : Nat) (xs : List (D RT den)) : Option (Out RT den) := match xs with | [.rs za0_0 .i64 na0_0 fa0_0, .fn 82 [.rptr [.int .i64 a1_0, .rs za1_1 .impl_Backend na1_1 fa1_1, .rs za1_2 .impl_Vip na1_2 fa1_2]]] => some ⟨Bool, F_slices_ContainsFunc_int64_int64_w_impl_ConfigFault_c1 fu (⟨za0_0, na0_0, fa0_0⟩ : (Sl Int)) a1_0 (⟨za1_1, na1_1, fa1_1⟩ : (Sl S_impl_Backend)) (⟨za1_2, na1_2, fa1_2⟩ : (Sl S_impl_Vip)), enc_bo, fun _ => true⟩ | _ => none
theorem hpc_b19 (fu : Nat) : HpcOk E Try.prog (pcf_b19 fu) := by
 intro f xs o h
 unfold pcf_b19 at h
 split at h
 ·exact good_b18 fu xs o h
 ·cases h
theorem goodv_b19 (fu : Nat) (s_0 : (Sl Int)) (f_1_1 : Int) (f_1_2 : (Sl S_impl_Backend)) (f_1_3 : (Sl S_impl_Vip)) (y : Bool) (hy : F_slices_ContainsFunc_int64_int64_w_impl_ConfigFault_c1 fu s_0 f_1_1 f_1_2 f_1_3 = some y) : Vm.Good E Try.prog 66 [(.rs s_0.z .i64 s_0.n s_0.f), (.fn 82 [(.rptr [(ii f_1_1), (.rs f_1_2.z .impl_Backend f_1_2.n f_1_2.f), (.rs f_1_3.z .impl_Vip f_1_3.n f_1_3.f)])])] (enc_bo y) :=
 fun_good E_ok (pc_good (pc := pc_b19 fu) (hpc_b19 fu) hpx0) (fn := Try.f66) (by kernel_rfl) (by kernel_rfl) (by kernel_rfl) (lpok_b19 fu) (fun d hd => out_bo_enc d _ hd) ((ev_b19 fu s_0 f_1_1 f_1_2 f_1_3).trans hy)
theorem good_b19 (fu : Nat) : GoodS E Try.prog 66 (S_b19 fu) := by
 intro xs o h y hy
 unfold S_b19 at h
 split at h
 ·rename_i za0_0 na0_0 fa0_0 a1_0 za1_1 na1_1 fa1_1 za1_2 na1_2 fa1_2
  cases h
  exact goodv_b19 fu (⟨za0_0, na0_0, fa0_0⟩ : (Sl Int)) a1_0 (⟨za1_1, na1_1, fa1_1⟩ : (Sl S_impl_Backend)) (⟨za1_2, na1_2, fa1_2⟩ : (Sl S_impl_Vip)) y hy
 ·cases h
end Go.Proofs.Ytcmfekgdlaffkaa.Pm
