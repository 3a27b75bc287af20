/- The functions' evaluated forms, each a proved summary. Conditions: none. -/
import Derived.Test.YtcmfekgdlaffkaaGreatDoorPxF6
namespace Go.Proofs.YtcmfekgdlaffkaaGreatDoor.Px
open Go Go.RowKit Go.Proofs Vm
set_option linter.unusedVariables false
set_option linter.unusedSimpArgs false
set_option maxRecDepth 100000
def F_laws_eqHeldS_B0 {ρ : Type} (fu : Nat) (a0_0 b1_1 : (Sl S_impl_Held)) (k0 : Option ρ) (k1 : Option ρ) (i5_2 : Int) (go : Int → Option ρ) : Option ρ :=
 (bif (decide (i5_2 < ((a0_0.n : Nat) : Int))) then ((bif (decide (0 ≤ i5_2) && decide ((Int.toNat i5_2) < a0_0.n)) then some () else none : Option Unit).bind fun _ => ((bif (decide (0 ≤ i5_2) &&
  decide ((Int.toNat i5_2) < b1_1.n)) then some () else none : Option Unit).bind fun _ => ((F_laws_eqHeld fu (a0_0.f (Int.toNat i5_2)) (b1_1.f (Int.toNat i5_2))).bind fun y368 =>
  (bif (!y368) then k0 else (go (IntKind.wrap .i64 (i5_2 + 1))))))) else k1)
def F_laws_eqHeldS (fu : Nat) (a_0 b_1 : (Sl S_impl_Held)) : Option (Bool) :=
 (bif (((a_0.n : Nat) : Int) != ((b_1.n : Nat) : Int)) then (some false) else (L (fun w0 go0 => F_laws_eqHeldS_B0 fu a_0 b_1 (some false) (some true) w0 go0) fu (0 : Int)))
def pcf_c39 (fu f : Nat) (xs : List (D RT den)) : Option (Out RT den) := match f with | 52 => S_c38 fu xs | _ => none
def pc_c39 (fu : Nat) : Pc RT den := ⟨pcf_c39 fu, fun _ => false, fun _ => false, pcd0, pcd0, pcd0, pcx0⟩
def msk_c39 (b : Nat) : List Nat := match b with | 0 => (2 :: 3 :: 4 :: (rg 6 21 [])) | 100000 => (0 :: 1 :: 2 :: 3 :: (rg 5 22 [])) | _ => []
def ps_c39_0 : List (Pat RT) := (.flat (.rs .impl_Held) :: .flat (.rs .impl_Held) :: .flat .q :: .flat .q :: .flat .q :: .flat (.int .i64) :: (fq 21 []))
def os_c39_0 : List (OP RT) := []
def conv_c39_0 (r : Raw den ps_c39_0 os_c39_0) : ((Sl S_impl_Held) × (Sl S_impl_Held)) × (Int) := ((r.1.1, r.1.2.1), (e5 r.1).1)
def back_c39_0 (c : (Sl S_impl_Held) × (Sl S_impl_Held)) (w : Int) : St RT den := ⟨((.rs c.1.z .impl_Held c.1.n c.1.f) :: (.rs c.2.z .impl_Held c.2.n c.2.f) :: .q :: .q :: .q :: (ii w) :: (qs 21 [])), []⟩
def Bk_c39_0 {ρ : Type} (fu : Nat) (c : (Sl S_impl_Held) × (Sl S_impl_Held)) (k : Ex → St RT den → Option ρ) (w : Int) (go : (Int) → Option ρ) : Option ρ := F_laws_eqHeldS_B0 fu c.1 c.2 (k .ret ⟨(qs 4 ((.bool false) :: (qs 22 []))), []⟩) (k (.exit 0) ⟨(qs 27 []), []⟩) w go
def lp_c39 (fu : Nat) : Lp RT den (Bool) := ⟨fun b s k => match b with | 0 => handle ps_c39_0 os_c39_0 conv_c39_0 (Bk_c39_0 fu) fu s k | _ => none, inl0⟩
theorem ev_c39 (fu : Nat) (a_0 b_1 : (Sl S_impl_Held)) : evFun E (pc_c39 fu) msk_c39 (lp_c39 fu) out_bo 23 [(.rs a_0.z .impl_Held a_0.n a_0.f), (.rs b_1.z .impl_Held b_1.n b_1.f)] = F_laws_eqHeldS fu a_0 b_1 := by kernel_rfl
noncomputable def body_c39 : Code := Tryz.f23.body.getD .skip
noncomputable def lc_c39_0 : Code := ((loops 0 body_c39).getD 0 (0, .skip)).2
theorem round_c39_0 (fu : Nat) : RoundOk E (pc_c39 fu) msk_c39 (lp_c39 fu) 0 lc_c39_0 back_c39_0 0 100000 0 (Bk_c39_0 fu) := fun it k c w => by kernel_rfl
theorem lpok_c39_0 (fu : Nat) : LpAt E (pc_c39 fu) msk_c39 (lp_c39 fu) 0 0 100000 0 lc_c39_0 :=
 handle_ok (ps := ps_c39_0) (os := os_c39_0) (conv := conv_c39_0) (B := Bk_c39_0 fu) (fu := fu) back_c39_0 (fun raw => by kernel_rfl) 0 (fun c w => by kernel_rfl) (round_c39_0 fu)
theorem lpok_c39 (fu : Nat) : LpOk E (pc_c39 fu) 0 msk_c39 (lp_c39 fu) (loops 0 body_c39) := lp_nil (loop_all 1 (by kernel_rfl) fun i hi => match i, hi with
 | 0, _ => by
  have h : (loops 0 body_c39).getD 0 (0, .skip) = (0, lc_c39_0) := by kernel_rfl
  rw [h]; exact lpok_c39_0 fu
 | i + 1, hi => absurd hi (by omega)) (by kernel_rfl)
def S_c39 (fu : Nat) (xs : List (D RT den)) : Option (Out RT den) := match xs with | [.rs za0_0 .impl_Held na0_0 fa0_0, .rs za1_0 .impl_Held na1_0 fa1_0] => some ⟨Bool, F_laws_eqHeldS fu (⟨za0_0, na0_0, fa0_0⟩ : (Sl S_impl_Held)) (⟨za1_0, na1_0, fa1_0⟩ : (Sl S_impl_Held)), enc_bo, fun _ => true⟩ | _ => none
theorem hpc_c39 (fu : Nat) : HpcOk E Tryz.prog (pcf_c39 fu) := by
 intro f xs o h
 unfold pcf_c39 at h
 split at h
 ·exact good_c38 fu xs o h
 ·cases h
theorem goodv_c39 (fu : Nat) (a_0 b_1 : (Sl S_impl_Held)) (y : Bool) (hy : F_laws_eqHeldS fu a_0 b_1 = some y) : Vm.Good E Tryz.prog 23 [(.rs a_0.z .impl_Held a_0.n a_0.f), (.rs b_1.z .impl_Held b_1.n b_1.f)] (enc_bo y) :=
 fun_good E_ok (pc_good (pc := pc_c39 fu) (hpc_c39 fu) hpx0) (fn := Tryz.f23) (by kernel_rfl) (by kernel_rfl) (by kernel_rfl) (lpok_c39 fu) (fun d hd => out_bo_enc d _ hd) ((ev_c39 fu a_0 b_1).trans hy)
theorem good_c39 (fu : Nat) : GoodS E Tryz.prog 23 (S_c39 fu) := by
 intro xs o h y hy
 unfold S_c39 at h
 split at h
 ·rename_i za0_0 na0_0 fa0_0 za1_0 na1_0 fa1_0
  cases h
  exact goodv_c39 fu (⟨za0_0, na0_0, fa0_0⟩ : (Sl S_impl_Held)) (⟨za1_0, na1_0, fa1_0⟩ : (Sl S_impl_Held)) y hy
 ·cases h
def F_laws_eqMux (fu : Nat) (a_0 b_1 : S_impl_Mux) : Option (Bool) :=
 (bif (a_0.Address != b_1.Address) then (some false) else (bif (a_0.Now != b_1.Now) then (some false) else ((F_laws_eqWatch fu a_0.Watch b_1.Watch).bind fun y358 => (bif (!y358) then
  (some false) else ((F_laws_eqInt64SS fu a_0.Tables b_1.Tables).bind fun y359 => (bif (!y359) then (some false) else ((F_laws_eqHeldS fu a_0.Cache b_1.Cache).bind fun y360 =>
  (bif (!y360) then (some false) else (some true)))))))))
def pcf_d0 (fu f : Nat) (xs : List (D RT den)) : Option (Out RT den) := match f with | 21 => S_c35 fu xs | 22 => S_c36 fu xs | 23 => S_c39 fu xs | _ => none
def pc_d0 (fu : Nat) : Pc RT den := ⟨pcf_d0 fu, fun _ => false, fun _ => false, pcd0, pcd0, pcd0, pcx0⟩
def msk_d0 (b : Nat) : List Nat := []
def lp_d0 (fu : Nat) : Lp RT den (Bool) := ⟨fun b s k => none, inl0⟩
theorem ev_d0 (fu : Nat) (a_0 b_1 : S_impl_Mux) : evFun E (pc_d0 fu) msk_d0 (lp_d0 fu) out_bo 9 [(.agg [(ii a_0.Address), (ii a_0.Now), (.bool a_0.Watch.Ready), (ii a_0.Watch.Config.Version), (.rs a_0.Watch.Config.Backends.z .impl_Backend a_0.Watch.Config.Backends.n a_0.Watch.Config.Backends.f), (.rs a_0.Watch.Config.Vips.z .impl_Vip a_0.Watch.Config.Vips.n a_0.Watch.Config.Vips.f), (.rs a_0.Tables.z .sl_i64 a_0.Tables.n a_0.Tables.f), (.rs a_0.Cache.z .impl_Held a_0.Cache.n a_0.Cache.f)]), (.agg [(ii b_1.Address), (ii b_1.Now), (.bool b_1.Watch.Ready), (ii b_1.Watch.Config.Version), (.rs b_1.Watch.Config.Backends.z .impl_Backend b_1.Watch.Config.Backends.n b_1.Watch.Config.Backends.f), (.rs b_1.Watch.Config.Vips.z .impl_Vip b_1.Watch.Config.Vips.n b_1.Watch.Config.Vips.f), (.rs b_1.Tables.z .sl_i64 b_1.Tables.n b_1.Tables.f), (.rs b_1.Cache.z .impl_Held b_1.Cache.n b_1.Cache.f)])] = F_laws_eqMux fu a_0 b_1 := by kernel_rfl
noncomputable def body_d0 : Code := Tryz.f9.body.getD .skip
theorem lpok_d0 (fu : Nat) : LpOk E (pc_d0 fu) 0 msk_d0 (lp_d0 fu) (loops 0 body_d0) := lp_nil (loop_nil (by kernel_rfl)) (by kernel_rfl)
def S_d0 (fu : Nat) (xs : List (D RT den)) : Option (Out RT den) := match xs with | [.agg [.int .i64 a0_1, .int .i64 a0_2, .bool a0_4, .int .i64 a0_6, .rs za0_7 .impl_Backend na0_7 fa0_7, .rs za0_8 .impl_Vip na0_8 fa0_8, .rs za0_9 .sl_i64 na0_9 fa0_9, .rs za0_10 .impl_Held na0_10 fa0_10], .agg [.int .i64 a1_1, .int .i64 a1_2, .bool a1_4, .int .i64 a1_6, .rs za1_7 .impl_Backend na1_7 fa1_7, .rs za1_8 .impl_Vip na1_8 fa1_8, .rs za1_9 .sl_i64 na1_9 fa1_9, .rs za1_10 .impl_Held na1_10 fa1_10]] => some ⟨Bool, F_laws_eqMux fu (⟨a0_1, a0_2, (⟨a0_4, (⟨a0_6, (⟨za0_7, na0_7, fa0_7⟩ : (Sl S_impl_Backend)), (⟨za0_8, na0_8, fa0_8⟩ : (Sl S_impl_Vip))⟩ : S_impl_Config)⟩ : S_impl_Watch), (⟨za0_9, na0_9, fa0_9⟩ : (Sl (Sl Int))), (⟨za0_10, na0_10, fa0_10⟩ : (Sl S_impl_Held))⟩ : S_impl_Mux) (⟨a1_1, a1_2, (⟨a1_4, (⟨a1_6, (⟨za1_7, na1_7, fa1_7⟩ : (Sl S_impl_Backend)), (⟨za1_8, na1_8, fa1_8⟩ : (Sl S_impl_Vip))⟩ : S_impl_Config)⟩ : S_impl_Watch), (⟨za1_9, na1_9, fa1_9⟩ : (Sl (Sl Int))), (⟨za1_10, na1_10, fa1_10⟩ : (Sl S_impl_Held))⟩ : S_impl_Mux), enc_bo, fun _ => true⟩ | _ => none
theorem hpc_d0 (fu : Nat) : HpcOk E Tryz.prog (pcf_d0 fu) := by
 intro f xs o h
 unfold pcf_d0 at h
 split at h
 ·exact good_c35 fu xs o h
 ·exact good_c36 fu xs o h
 ·exact good_c39 fu xs o h
 ·cases h
theorem goodv_d0 (fu : Nat) (a_0 b_1 : S_impl_Mux) (y : Bool) (hy : F_laws_eqMux fu a_0 b_1 = some y) : Vm.Good E Tryz.prog 9 [(.agg [(ii a_0.Address), (ii a_0.Now), (.bool a_0.Watch.Ready), (ii a_0.Watch.Config.Version), (.rs a_0.Watch.Config.Backends.z .impl_Backend a_0.Watch.Config.Backends.n a_0.Watch.Config.Backends.f), (.rs a_0.Watch.Config.Vips.z .impl_Vip a_0.Watch.Config.Vips.n a_0.Watch.Config.Vips.f), (.rs a_0.Tables.z .sl_i64 a_0.Tables.n a_0.Tables.f), (.rs a_0.Cache.z .impl_Held a_0.Cache.n a_0.Cache.f)]), (.agg [(ii b_1.Address), (ii b_1.Now), (.bool b_1.Watch.Ready), (ii b_1.Watch.Config.Version), (.rs b_1.Watch.Config.Backends.z .impl_Backend b_1.Watch.Config.Backends.n b_1.Watch.Config.Backends.f), (.rs b_1.Watch.Config.Vips.z .impl_Vip b_1.Watch.Config.Vips.n b_1.Watch.Config.Vips.f), (.rs b_1.Tables.z .sl_i64 b_1.Tables.n b_1.Tables.f), (.rs b_1.Cache.z .impl_Held b_1.Cache.n b_1.Cache.f)])] (enc_bo y) :=
 fun_good E_ok (pc_good (pc := pc_d0 fu) (hpc_d0 fu) hpx0) (fn := Tryz.f9) (by kernel_rfl) (by kernel_rfl) (by kernel_rfl) (lpok_d0 fu) (fun d hd => out_bo_enc d _ hd) ((ev_d0 fu a_0 b_1).trans hy)
theorem good_d0 (fu : Nat) : GoodS E Tryz.prog 9 (S_d0 fu) := by
 intro xs o h y hy
 unfold S_d0 at h
 split at h
 ·rename_i a0_1 a0_2 a0_4 a0_6 za0_7 na0_7 fa0_7 za0_8 na0_8 fa0_8 za0_9 na0_9 fa0_9 za0_10 na0_10 fa0_10 a1_1 a1_2 a1_4 a1_6 za1_7 na1_7 fa1_7 za1_8 na1_8 fa1_8 za1_9 na1_9 fa1_9 za1_10 na1_10 fa1_10
  cases h
  exact goodv_d0 fu (⟨a0_1, a0_2, (⟨a0_4, (⟨a0_6, (⟨za0_7, na0_7, fa0_7⟩ : (Sl S_impl_Backend)), (⟨za0_8, na0_8, fa0_8⟩ : (Sl S_impl_Vip))⟩ : S_impl_Config)⟩ : S_impl_Watch), (⟨za0_9, na0_9, fa0_9⟩ : (Sl (Sl Int))), (⟨za0_10, na0_10, fa0_10⟩ : (Sl S_impl_Held))⟩ : S_impl_Mux) (⟨a1_1, a1_2, (⟨a1_4, (⟨a1_6, (⟨za1_7, na1_7, fa1_7⟩ : (Sl S_impl_Backend)), (⟨za1_8, na1_8, fa1_8⟩ : (Sl S_impl_Vip))⟩ : S_impl_Config)⟩ : S_impl_Watch), (⟨za1_9, na1_9, fa1_9⟩ : (Sl (Sl Int))), (⟨za1_10, na1_10, fa1_10⟩ : (Sl S_impl_Held))⟩ : S_impl_Mux) y hy
 ·cases h
def F_laws_FnExactMuxText (fu : Nat) (aM_0 : S_laws_Mux) : Option (Bool) :=
 ((F_laws_szMux fu aM_0 1048576).bind fun y1 => (bif (decide (y1 < 0)) then (some true) else ((F_laws_toMux fu aM_0).bind fun y2 => ((F_spec_MuxText fu y2).bind fun y20 =>
  ((F_laws_toMux fu aM_0).bind fun y21 => ((F_impl_MuxText fu y21).bind fun y22 => ((F_laws_eqTextResult fu y22 y20).bind fun y23 => (bif (!y23) then (some false) else
  ((F_laws_toMux fu aM_0).bind fun y24 => ((F_laws_eqMux fu y21 y24).bind fun y25 => (bif (!y25) then (some false) else (some true))))))))))))
def pcf_d1 (fu f : Nat) (xs : List (D RT den)) : Option (Out RT den) := match f with | 4 => S_a20 fu xs | 5 => S_b17 fu xs | 6 => S_a11 fu xs | 7 => S_c27 fu xs | 8 => S_c28 fu xs | 9 => S_d0 fu xs | _ => none
def pc_d1 (fu : Nat) : Pc RT den := ⟨pcf_d1 fu, fun _ => false, fun _ => false, pcd0, pcd0, pcd0, pcx0⟩
def msk_d1 (b : Nat) : List Nat := []
def lp_d1 (fu : Nat) : Lp RT den (Bool) := ⟨fun b s k => none, inl0⟩
theorem ev_d1 (fu : Nat) (aM_0 : S_laws_Mux) : evFun E (pc_d1 fu) msk_d1 (lp_d1 fu) out_bo 3 [(.agg [(ii aM_0.Address), (ii aM_0.Now), (.bool aM_0.Watch.Ready), (ii aM_0.Watch.Config.Version), (.rs aM_0.Watch.Config.Backends.z .impl_Backend aM_0.Watch.Config.Backends.n aM_0.Watch.Config.Backends.f), (.rs aM_0.Watch.Config.Vips.z .impl_Vip aM_0.Watch.Config.Vips.n aM_0.Watch.Config.Vips.f), (.rs aM_0.Tables.z .sl_i64 aM_0.Tables.n aM_0.Tables.f), (.rs aM_0.Cache.z .laws_Held aM_0.Cache.n aM_0.Cache.f)])] = F_laws_FnExactMuxText fu aM_0 := by kernel_rfl
noncomputable def body_d1 : Code := Tryz.f3.body.getD .skip
theorem lpok_d1 (fu : Nat) : LpOk E (pc_d1 fu) 0 msk_d1 (lp_d1 fu) (loops 0 body_d1) := lp_nil (loop_nil (by kernel_rfl)) (by kernel_rfl)
def S_d1 (fu : Nat) (xs : List (D RT den)) : Option (Out RT den) := match xs with | [.agg [.int .i64 a0_1, .int .i64 a0_2, .bool a0_4, .int .i64 a0_6, .rs za0_7 .impl_Backend na0_7 fa0_7, .rs za0_8 .impl_Vip na0_8 fa0_8, .rs za0_9 .sl_i64 na0_9 fa0_9, .rs za0_10 .laws_Held na0_10 fa0_10]] => some ⟨Bool, F_laws_FnExactMuxText fu (⟨a0_1, a0_2, (⟨a0_4, (⟨a0_6, (⟨za0_7, na0_7, fa0_7⟩ : (Sl S_impl_Backend)), (⟨za0_8, na0_8, fa0_8⟩ : (Sl S_impl_Vip))⟩ : S_laws_Config)⟩ : S_laws_Watch), (⟨za0_9, na0_9, fa0_9⟩ : (Sl (Sl Int))), (⟨za0_10, na0_10, fa0_10⟩ : (Sl S_laws_Held))⟩ : S_laws_Mux), enc_bo, fun _ => true⟩ | _ => none
theorem hpc_d1 (fu : Nat) : HpcOk E Tryz.prog (pcf_d1 fu) := by
 intro f xs o h
 unfold pcf_d1 at h
 split at h
 ·exact good_a20 fu xs o h
 ·exact good_b17 fu xs o h
 ·exact good_a11 fu xs o h
 ·exact good_c27 fu xs o h
 ·exact good_c28 fu xs o h
 ·exact good_d0 fu xs o h
 ·cases h
theorem goodv_d1 (fu : Nat) (aM_0 : S_laws_Mux) (y : Bool) (hy : F_laws_FnExactMuxText fu aM_0 = some y) : Vm.Good E Tryz.prog 3 [(.agg [(ii aM_0.Address), (ii aM_0.Now), (.bool aM_0.Watch.Ready), (ii aM_0.Watch.Config.Version), (.rs aM_0.Watch.Config.Backends.z .impl_Backend aM_0.Watch.Config.Backends.n aM_0.Watch.Config.Backends.f), (.rs aM_0.Watch.Config.Vips.z .impl_Vip aM_0.Watch.Config.Vips.n aM_0.Watch.Config.Vips.f), (.rs aM_0.Tables.z .sl_i64 aM_0.Tables.n aM_0.Tables.f), (.rs aM_0.Cache.z .laws_Held aM_0.Cache.n aM_0.Cache.f)])] (enc_bo y) :=
 fun_good E_ok (pc_good (pc := pc_d1 fu) (hpc_d1 fu) hpx0) (fn := Tryz.f3) (by kernel_rfl) (by kernel_rfl) (by kernel_rfl) (lpok_d1 fu) (fun d hd => out_bo_enc d _ hd) ((ev_d1 fu aM_0).trans hy)
theorem good_d1 (fu : Nat) : GoodS E Tryz.prog 3 (S_d1 fu) := by
 intro xs o h y hy
 unfold S_d1 at h
 split at h
 ·rename_i a0_1 a0_2 a0_4 a0_6 za0_7 na0_7 fa0_7 za0_8 na0_8 fa0_8 za0_9 na0_9 fa0_9 za0_10 na0_10 fa0_10
  cases h
  exact goodv_d1 fu (⟨a0_1, a0_2, (⟨a0_4, (⟨a0_6, (⟨za0_7, na0_7, fa0_7⟩ : (Sl S_impl_Backend)), (⟨za0_8, na0_8, fa0_8⟩ : (Sl S_impl_Vip))⟩ : S_laws_Config)⟩ : S_laws_Watch), (⟨za0_9, na0_9, fa0_9⟩ : (Sl (Sl Int))), (⟨za0_10, na0_10, fa0_10⟩ : (Sl S_laws_Held))⟩ : S_laws_Mux) y hy
 ·cases h
end Go.Proofs.YtcmfekgdlaffkaaGreatDoor.Px
