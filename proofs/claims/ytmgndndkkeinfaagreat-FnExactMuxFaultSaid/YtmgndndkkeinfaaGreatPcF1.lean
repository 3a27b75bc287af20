/- The functions' evaluated forms, each a proved summary. Conditions: none. -/
import Derived.Test.YtmgndndkkeinfaaGreatPcF0
namespace Go.Proofs.YtmgndndkkeinfaaGreat.Pc
open Go Go.RowKit Go.Proofs Vm
set_option linter.unusedVariables false
set_option linter.unusedSimpArgs false
set_option maxRecDepth 100000
/-! laws.toHeldS -/
def F_laws_toHeldS_B0 {ρ : Type} (fu : Nat) (a0_0 : (Sl S_laws_Held)) (out3_1 : Nat) (on0_3 : Nat) (k0 : (Nat → S_impl_Held) → Option ρ) (i4_2 : Int) (of0_4 : (Nat → S_impl_Held)) (go : Int → (Nat → S_impl_Held) → Option ρ) : Option ρ :=
  (bif (decide (i4_2 < ((a0_0.n : Nat) : Int))) then ((bif (decide (0 ≤ i4_2) && decide ((Int.toNat i4_2) < a0_0.n)) then some () else none : Option Unit).bind fun _ =>
    ((F_laws_toHeld fu (a0_0.f (Int.toNat i4_2))).bind fun y64 => ((bif (decide (0 ≤ i4_2) && decide ((Int.toNat i4_2) < out3_1)) then some () else none : Option Unit).bind fun _ =>
    (go (IntKind.wrap .i64 (i4_2 + 1)) (fun j => if j = (Int.toNat i4_2) then y64 else of0_4 j))))) else (k0 of0_4))
def F_laws_toHeldS (fu : Nat) (a_0 : (Sl S_laws_Held)) : Option ((Sl S_impl_Held)) :=
  (bif (decide (0 ≤ ((a_0.n : Nat) : Int)) && (decide (((a_0.n : Nat) : Int) = ((a_0.n : Nat) : Int)) && (decide ((56 : Int) * ((a_0.n : Nat) : Int) ≤ 281474976710656) && decide (((a_0.n : Nat) : Int) ≤ 9223372036854775807)))) then
    (L (fun w0 go0 => F_laws_toHeldS_B0 fu a_0 (Int.toNat ((a_0.n : Nat) : Int)) (Int.toNat ((a_0.n : Nat) : Int)) (fun z65 => (some (⟨none, (Int.toNat ((a_0.n : Nat) : Int)), z65⟩ : (Sl S_impl_Held)))) w0.1 w0.2 (fun q0 q1 =>
    go0 (q0, q1))) fu ((0, (fun _ => (⟨(⟨0, 0, 0, 0, 0⟩ : S_impl_Flow), 0, 0⟩ : S_impl_Held))) : Int × (Nat → S_impl_Held))) else none)
def pcf_laws_toHeldS (fu : Nat) (f : Nat) (xs : List (D RT den)) : Option (Out RT den) := match f with | 47 => S_laws_toHeld fu xs | _ => none
def pcx_laws_toHeldS (fu : Nat) (f : Nat) (xs : List (D RT den)) (ins : List (Ob RT den)) : Option (OutX RT den) := none
def pc_laws_toHeldS (fu : Nat) : Pc RT den := ⟨pcf_laws_toHeldS fu, fun _ => false, fun _ => false, pcx_laws_toHeldS fu⟩
def msk_laws_toHeldS (b : Nat) : List Nat := match b with | 0 => [1, 2, 5, 6, 7, 8, 9, 10, 11, 12, 13, 14, 15, 16, 17, 18, 19, 20, 21, 22] | 100000 => [0, 1, 4, 5, 6, 7, 8, 9, 10, 11, 12, 13, 14, 15, 16, 17, 18, 19, 20, 21, 22] | _ => []
def ps_laws_toHeldS_0 : List (Pat RT) := [.flat (.rs .laws_Held), .flat .dead, .flat .dead, .flat (.os 0), .flat (.int .i64), .flat .dead, .flat .dead, .flat .dead, .flat .dead, .flat .dead, .flat .dead, .flat .dead, .flat .dead, .flat .dead, .flat .dead, .flat .dead, .flat .dead, .flat .dead, .flat .dead, .flat .dead, .flat .dead, .flat .dead, .flat .dead]
def os_laws_toHeldS_0 : List (OP RT) := [.row false .impl_Held]
def conv_laws_toHeldS_0 (r : Raw den ps_laws_toHeldS_0 os_laws_toHeldS_0) : ((Sl S_laws_Held) × Nat × Nat) × (Int × (Nat → S_impl_Held)) := ((r.1.1, r.1.2.2.2.1, r.2.1.1), (r.1.2.2.2.2.1, r.2.1.2))
def back_laws_toHeldS_0 (c : (Sl S_laws_Held) × Nat × Nat) (w : Int × (Nat → S_impl_Held)) : St RT den := ⟨[(.rs c.1.z .laws_Held c.1.n c.1.f), .dead, .dead, (.os 0 c.2.1), (.int .i64 w.1), .dead, .dead, .dead, .dead, .dead, .dead, .dead, .dead, .dead, .dead, .dead, .dead, .dead, .dead, .dead, .dead, .dead, .dead], [(.row false .impl_Held c.2.2 w.2)]⟩
def Bk_laws_toHeldS_0 {ρ : Type} (fu : Nat) (c : (Sl S_laws_Held) × Nat × Nat) (k : Ex → St RT den → Option ρ) (w : Int × (Nat → S_impl_Held)) (go : (Int × (Nat → S_impl_Held)) → Option ρ) : Option ρ := F_laws_toHeldS_B0 fu c.1 c.2.1 c.2.2 (fun a0 => k (.exit 0) ⟨[.dead, .dead, .dead, (.os 0 c.2.1), .dead, .dead, .dead, .dead, .dead, .dead, .dead, .dead, .dead, .dead, .dead, .dead, .dead, .dead, .dead, .dead, .dead, .dead, .dead], [(.row false .impl_Held c.2.2 a0)]⟩) w.1 w.2 (fun q0 q1 => go (q0, q1))
def lp_laws_toHeldS (fu : Nat) : Lp RT den ((Sl S_impl_Held)) := fun b s k => match b with | 0 => handle ps_laws_toHeldS_0 os_laws_toHeldS_0 conv_laws_toHeldS_0 (Bk_laws_toHeldS_0 fu) fu s k | _ => none
theorem ev_laws_toHeldS (fu : Nat) (a_0 : (Sl S_laws_Held)) : evFun E (pc_laws_toHeldS fu) msk_laws_toHeldS (lp_laws_toHeldS fu) out_sl_impl_Held 20 [(.rs a_0.z .laws_Held a_0.n a_0.f)] = F_laws_toHeldS fu a_0 := by kernel_rfl
noncomputable def body_laws_toHeldS : Code := Tryz.f20.body.getD .skip
noncomputable def lc_laws_toHeldS_0 : Code := ((loops 0 body_laws_toHeldS).getD 0 (0, .skip)).2
theorem round_laws_toHeldS_0 (fu : Nat) (it : St RT den → Option ((Sl S_impl_Held))) (k : Ex → St RT den → Option ((Sl S_impl_Held))) c w : evCode E (pc_laws_toHeldS fu) msk_laws_toHeldS (lp_laws_toHeldS fu) 0 lc_laws_toHeldS_0 (back_laws_toHeldS_0 c w) (after (msk_laws_toHeldS 0) (msk_laws_toHeldS 100000) 1 it k) = Bk_laws_toHeldS_0 fu c k w (fun w => it (back_laws_toHeldS_0 c w)) := by kernel_rfl
theorem lpok_laws_toHeldS_0 (fu : Nat) : ∀ s k r, lp_laws_toHeldS fu 0 s k = some r → ∃ fuel, iter (msk_laws_toHeldS 0) (msk_laws_toHeldS 100000) s.objs.length (evCode E (pc_laws_toHeldS fu) msk_laws_toHeldS (lp_laws_toHeldS fu) 0 lc_laws_toHeldS_0) fuel s k = some r :=
  handle_ok (ps := ps_laws_toHeldS_0) (os := os_laws_toHeldS_0) (conv := conv_laws_toHeldS_0) (B := Bk_laws_toHeldS_0 fu) (fu := fu) back_laws_toHeldS_0 (fun raw => by kernel_rfl) 1 (fun c w => by kernel_rfl) (round_laws_toHeldS_0 fu)
theorem lpok_laws_toHeldS (fu : Nat) : LpOk E (pc_laws_toHeldS fu) msk_laws_toHeldS (lp_laws_toHeldS fu) (loops 0 body_laws_toHeldS) := loop_all 1 (by kernel_rfl) fun i hi => match i, hi with
  | 0, _ => by
    have h : (loops 0 body_laws_toHeldS).getD 0 (0, .skip) = (0, lc_laws_toHeldS_0) := by kernel_rfl
    rw [h]; exact lpok_laws_toHeldS_0 fu
  | i + 1, hi => absurd hi (by omega)
def S_laws_toHeldS (fu : Nat) (xs : List (D RT den)) : Option (Out RT den) := match xs with | [.rs za0_0 .laws_Held na0_0 fa0_0] => some ⟨(Sl S_impl_Held), F_laws_toHeldS fu (⟨za0_0, na0_0, fa0_0⟩ : (Sl S_laws_Held)), enc_sl_impl_Held, fun _ => true⟩ | _ => none
theorem hpc_laws_toHeldS (fu : Nat) : ∀ f xs o, pcf_laws_toHeldS fu f xs = some o → ∀ y, o.x = some y → Good E Tryz.prog f xs (o.g y) := by
  intro f xs o h
  unfold pcf_laws_toHeldS at h
  split at h
  · exact good_laws_toHeld fu xs o h
  · cases h
theorem hpx_laws_toHeldS (fu : Nat) : ∀ f xs ins o, pcx_laws_toHeldS fu f xs ins = some o → ∀ y, o.x = some y → GoodX E Tryz.prog f xs ins (o.g y).1 (o.g y).2 := by
  intro f xs ins o h
  cases h
theorem goodv_laws_toHeldS (fu : Nat) (a_0 : (Sl S_laws_Held)) (y : (Sl S_impl_Held)) (hy : F_laws_toHeldS fu a_0 = some y) : Good E Tryz.prog 20 [(.rs a_0.z .laws_Held a_0.n a_0.f)] (enc_sl_impl_Held y) :=
  fun_good E_ok (pc_good (pc := pc_laws_toHeldS fu) (hpc_laws_toHeldS fu) (hpx_laws_toHeldS fu)) (fn := Tryz.f20) (c := body_laws_toHeldS) (out := out_sl_impl_Held) (y := y) (by kernel_rfl) (by kernel_rfl) (by kernel_rfl) (lpok_laws_toHeldS fu) (fun d hd => out_sl_impl_Held_enc d _ hd) ((ev_laws_toHeldS fu a_0).trans hy)
theorem good_laws_toHeldS (fu : Nat) : ∀ xs o, S_laws_toHeldS fu xs = some o → ∀ y, o.x = some y → Good E Tryz.prog 20 xs (o.g y) := by
  intro xs o h y hy
  unfold S_laws_toHeldS at h
  split at h
  · rename_i za0_0 na0_0 fa0_0
    cases h
    exact goodv_laws_toHeldS fu (⟨za0_0, na0_0, fa0_0⟩ : (Sl S_laws_Held)) y hy
  · cases h

/-! laws.toMux -/
def F_laws_toMux (fu : Nat) (a_0 : S_laws_Mux) : Option (S_impl_Mux) :=
  ((F_laws_toWatch fu a_0.Watch).bind fun y50 => ((F_laws_toInt64SS fu a_0.Tables).bind fun y51 => ((F_laws_toHeldS fu a_0.Cache).bind fun y52 => (some (⟨a_0.Address, a_0.Now, y50,
    y51, y52⟩ : S_impl_Mux)))))
def pcf_laws_toMux (fu : Nat) (f : Nat) (xs : List (D RT den)) : Option (Out RT den) := match f with | 18 => S_laws_toWatch fu xs | 19 => S_laws_toInt64SS fu xs | 20 => S_laws_toHeldS fu xs | _ => none
def pcx_laws_toMux (fu : Nat) (f : Nat) (xs : List (D RT den)) (ins : List (Ob RT den)) : Option (OutX RT den) := none
def pc_laws_toMux (fu : Nat) : Pc RT den := ⟨pcf_laws_toMux fu, fun _ => false, fun _ => false, pcx_laws_toMux fu⟩
def msk_laws_toMux (b : Nat) : List Nat := []
def lp_laws_toMux (fu : Nat) : Lp RT den (S_impl_Mux) := fun b s k => none
theorem ev_laws_toMux (fu : Nat) (a_0 : S_laws_Mux) : evFun E (pc_laws_toMux fu) msk_laws_toMux (lp_laws_toMux fu) out_impl_Mux 7 [(.agg [(.int .i64 a_0.Address), (.int .i64 a_0.Now), (.bool a_0.Watch.Ready), (.int .i64 a_0.Watch.Config.Version), (.rs a_0.Watch.Config.Backends.z .impl_Backend a_0.Watch.Config.Backends.n a_0.Watch.Config.Backends.f), (.rs a_0.Watch.Config.Vips.z .impl_Vip a_0.Watch.Config.Vips.n a_0.Watch.Config.Vips.f), (.rs a_0.Tables.z .sl_i64 a_0.Tables.n a_0.Tables.f), (.rs a_0.Cache.z .laws_Held a_0.Cache.n a_0.Cache.f)])] = F_laws_toMux fu a_0 := by kernel_rfl
noncomputable def body_laws_toMux : Code := Tryz.f7.body.getD .skip
theorem lpok_laws_toMux (fu : Nat) : LpOk E (pc_laws_toMux fu) msk_laws_toMux (lp_laws_toMux fu) (loops 0 body_laws_toMux) := by
  have h : loops 0 body_laws_toMux = [] := by kernel_rfl
  rw [h]; intro p hp; cases hp
def S_laws_toMux (fu : Nat) (xs : List (D RT den)) : Option (Out RT den) := match xs with | [.agg [.int .i64 a0_1, .int .i64 a0_2, .bool a0_4, .int .i64 a0_6, .rs za0_7 .impl_Backend na0_7 fa0_7, .rs za0_8 .impl_Vip na0_8 fa0_8, .rs za0_9 .sl_i64 na0_9 fa0_9, .rs za0_10 .laws_Held na0_10 fa0_10]] => some ⟨S_impl_Mux, F_laws_toMux fu (⟨a0_1, a0_2, (⟨a0_4, (⟨a0_6, (⟨za0_7, na0_7, fa0_7⟩ : (Sl S_impl_Backend)), (⟨za0_8, na0_8, fa0_8⟩ : (Sl S_impl_Vip))⟩ : S_laws_Config)⟩ : S_laws_Watch), (⟨za0_9, na0_9, fa0_9⟩ : (Sl (Sl Int))), (⟨za0_10, na0_10, fa0_10⟩ : (Sl S_laws_Held))⟩ : S_laws_Mux), enc_impl_Mux, fun _ => true⟩ | _ => none
theorem hpc_laws_toMux (fu : Nat) : ∀ f xs o, pcf_laws_toMux fu f xs = some o → ∀ y, o.x = some y → Good E Tryz.prog f xs (o.g y) := by
  intro f xs o h
  unfold pcf_laws_toMux at h
  split at h
  · exact good_laws_toWatch fu xs o h
  · exact good_laws_toInt64SS fu xs o h
  · exact good_laws_toHeldS fu xs o h
  · cases h
theorem hpx_laws_toMux (fu : Nat) : ∀ f xs ins o, pcx_laws_toMux fu f xs ins = some o → ∀ y, o.x = some y → GoodX E Tryz.prog f xs ins (o.g y).1 (o.g y).2 := by
  intro f xs ins o h
  cases h
theorem goodv_laws_toMux (fu : Nat) (a_0 : S_laws_Mux) (y : S_impl_Mux) (hy : F_laws_toMux fu a_0 = some y) : Good E Tryz.prog 7 [(.agg [(.int .i64 a_0.Address), (.int .i64 a_0.Now), (.bool a_0.Watch.Ready), (.int .i64 a_0.Watch.Config.Version), (.rs a_0.Watch.Config.Backends.z .impl_Backend a_0.Watch.Config.Backends.n a_0.Watch.Config.Backends.f), (.rs a_0.Watch.Config.Vips.z .impl_Vip a_0.Watch.Config.Vips.n a_0.Watch.Config.Vips.f), (.rs a_0.Tables.z .sl_i64 a_0.Tables.n a_0.Tables.f), (.rs a_0.Cache.z .laws_Held a_0.Cache.n a_0.Cache.f)])] (enc_impl_Mux y) :=
  fun_good E_ok (pc_good (pc := pc_laws_toMux fu) (hpc_laws_toMux fu) (hpx_laws_toMux fu)) (fn := Tryz.f7) (c := body_laws_toMux) (out := out_impl_Mux) (y := y) (by kernel_rfl) (by kernel_rfl) (by kernel_rfl) (lpok_laws_toMux fu) (fun d hd => out_impl_Mux_enc d _ hd) ((ev_laws_toMux fu a_0).trans hy)
theorem good_laws_toMux (fu : Nat) : ∀ xs o, S_laws_toMux fu xs = some o → ∀ y, o.x = some y → Good E Tryz.prog 7 xs (o.g y) := by
  intro xs o h y hy
  unfold S_laws_toMux at h
  split at h
  · rename_i a0_1 a0_2 a0_4 a0_6 za0_7 na0_7 fa0_7 za0_8 na0_8 fa0_8 za0_9 na0_9 fa0_9 za0_10 na0_10 fa0_10
    cases h
    exact goodv_laws_toMux fu (⟨a0_1, a0_2, (⟨a0_4, (⟨a0_6, (⟨za0_7, na0_7, fa0_7⟩ : (Sl S_impl_Backend)), (⟨za0_8, na0_8, fa0_8⟩ : (Sl S_impl_Vip))⟩ : S_laws_Config)⟩ : S_laws_Watch), (⟨za0_9, na0_9, fa0_9⟩ : (Sl (Sl Int))), (⟨za0_10, na0_10, fa0_10⟩ : (Sl S_laws_Held))⟩ : S_laws_Mux) y hy
  · cases h

/-! spec.l1In -/
def F_spec_l1In (fu : Nat) (v_0 : Int) (low_1 : Int) (high_2 : Int) : Option (Bool) :=
  (((bif (decide (v_0 ≥ low_1)) then (some (decide (v_0 ≤ high_2))) else (some false)) : Option Bool).bind fun m75 => (some m75))
def pcf_spec_l1In (fu : Nat) (f : Nat) (xs : List (D RT den)) : Option (Out RT den) := none
def pcx_spec_l1In (fu : Nat) (f : Nat) (xs : List (D RT den)) (ins : List (Ob RT den)) : Option (OutX RT den) := none
def pc_spec_l1In (fu : Nat) : Pc RT den := ⟨pcf_spec_l1In fu, fun _ => false, fun _ => false, pcx_spec_l1In fu⟩
def msk_spec_l1In (b : Nat) : List Nat := match b with | 200001 => [6] | _ => []
def lp_spec_l1In (fu : Nat) : Lp RT den (Bool) := fun b s k => none
theorem ev_spec_l1In (fu : Nat) (v_0 : Int) (low_1 : Int) (high_2 : Int) : evFun E (pc_spec_l1In fu) msk_spec_l1In (lp_spec_l1In fu) out_bo 64 [(.int .i64 v_0), (.int .i64 low_1), (.int .i64 high_2)] = F_spec_l1In fu v_0 low_1 high_2 := by kernel_rfl
noncomputable def body_spec_l1In : Code := Tryz.f64.body.getD .skip
theorem lpok_spec_l1In (fu : Nat) : LpOk E (pc_spec_l1In fu) msk_spec_l1In (lp_spec_l1In fu) (loops 0 body_spec_l1In) := by
  have h : loops 0 body_spec_l1In = [] := by kernel_rfl
  rw [h]; intro p hp; cases hp
def S_spec_l1In (fu : Nat) (xs : List (D RT den)) : Option (Out RT den) := match xs with | [.int .i64 a0_0, .int .i64 a1_0, .int .i64 a2_0] => some ⟨Bool, F_spec_l1In fu a0_0 a1_0 a2_0, enc_bo, fun _ => true⟩ | _ => none
theorem hpc_spec_l1In (fu : Nat) : ∀ f xs o, pcf_spec_l1In fu f xs = some o → ∀ y, o.x = some y → Good E Tryz.prog f xs (o.g y) := by
  intro f xs o h
  cases h
theorem hpx_spec_l1In (fu : Nat) : ∀ f xs ins o, pcx_spec_l1In fu f xs ins = some o → ∀ y, o.x = some y → GoodX E Tryz.prog f xs ins (o.g y).1 (o.g y).2 := by
  intro f xs ins o h
  cases h
theorem goodv_spec_l1In (fu : Nat) (v_0 : Int) (low_1 : Int) (high_2 : Int) (y : Bool) (hy : F_spec_l1In fu v_0 low_1 high_2 = some y) : Good E Tryz.prog 64 [(.int .i64 v_0), (.int .i64 low_1), (.int .i64 high_2)] (enc_bo y) :=
  fun_good E_ok (pc_good (pc := pc_spec_l1In fu) (hpc_spec_l1In fu) (hpx_spec_l1In fu)) (fn := Tryz.f64) (c := body_spec_l1In) (out := out_bo) (y := y) (by kernel_rfl) (by kernel_rfl) (by kernel_rfl) (lpok_spec_l1In fu) (fun d hd => out_bo_enc d _ hd) ((ev_spec_l1In fu v_0 low_1 high_2).trans hy)
theorem good_spec_l1In (fu : Nat) : ∀ xs o, S_spec_l1In fu xs = some o → ∀ y, o.x = some y → Good E Tryz.prog 64 xs (o.g y) := by
  intro xs o h y hy
  unfold S_spec_l1In at h
  split at h
  · rename_i a0_0 a1_0 a2_0
    cases h
    exact goodv_spec_l1In fu a0_0 a1_0 a2_0 y hy
  · cases h

/-! spec.l2Address -/
def F_spec_l2Address (fu : Nat) (a_0 : Int) : Option (Bool) :=
  ((F_spec_l1In fu a_0 0 4294967295).bind fun y74 => (some y74))
def pcf_spec_l2Address (fu : Nat) (f : Nat) (xs : List (D RT den)) : Option (Out RT den) := match f with | 64 => S_spec_l1In fu xs | _ => none
def pcx_spec_l2Address (fu : Nat) (f : Nat) (xs : List (D RT den)) (ins : List (Ob RT den)) : Option (OutX RT den) := none
def pc_spec_l2Address (fu : Nat) : Pc RT den := ⟨pcf_spec_l2Address fu, fun _ => false, fun _ => false, pcx_spec_l2Address fu⟩
def msk_spec_l2Address (b : Nat) : List Nat := []
def lp_spec_l2Address (fu : Nat) : Lp RT den (Bool) := fun b s k => none
theorem ev_spec_l2Address (fu : Nat) (a_0 : Int) : evFun E (pc_spec_l2Address fu) msk_spec_l2Address (lp_spec_l2Address fu) out_bo 39 [(.int .i64 a_0)] = F_spec_l2Address fu a_0 := by kernel_rfl
noncomputable def body_spec_l2Address : Code := Tryz.f39.body.getD .skip
theorem lpok_spec_l2Address (fu : Nat) : LpOk E (pc_spec_l2Address fu) msk_spec_l2Address (lp_spec_l2Address fu) (loops 0 body_spec_l2Address) := by
  have h : loops 0 body_spec_l2Address = [] := by kernel_rfl
  rw [h]; intro p hp; cases hp
def S_spec_l2Address (fu : Nat) (xs : List (D RT den)) : Option (Out RT den) := match xs with | [.int .i64 a0_0] => some ⟨Bool, F_spec_l2Address fu a0_0, enc_bo, fun _ => true⟩ | _ => none
theorem hpc_spec_l2Address (fu : Nat) : ∀ f xs o, pcf_spec_l2Address fu f xs = some o → ∀ y, o.x = some y → Good E Tryz.prog f xs (o.g y) := by
  intro f xs o h
  unfold pcf_spec_l2Address at h
  split at h
  · exact good_spec_l1In fu xs o h
  · cases h
theorem hpx_spec_l2Address (fu : Nat) : ∀ f xs ins o, pcx_spec_l2Address fu f xs ins = some o → ∀ y, o.x = some y → GoodX E Tryz.prog f xs ins (o.g y).1 (o.g y).2 := by
  intro f xs ins o h
  cases h
theorem goodv_spec_l2Address (fu : Nat) (a_0 : Int) (y : Bool) (hy : F_spec_l2Address fu a_0 = some y) : Good E Tryz.prog 39 [(.int .i64 a_0)] (enc_bo y) :=
  fun_good E_ok (pc_good (pc := pc_spec_l2Address fu) (hpc_spec_l2Address fu) (hpx_spec_l2Address fu)) (fn := Tryz.f39) (c := body_spec_l2Address) (out := out_bo) (y := y) (by kernel_rfl) (by kernel_rfl) (by kernel_rfl) (lpok_spec_l2Address fu) (fun d hd => out_bo_enc d _ hd) ((ev_spec_l2Address fu a_0).trans hy)
theorem good_spec_l2Address (fu : Nat) : ∀ xs o, S_spec_l2Address fu xs = some o → ∀ y, o.x = some y → Good E Tryz.prog 39 xs (o.g y) := by
  intro xs o h y hy
  unfold S_spec_l2Address at h
  split at h
  · rename_i a0_0
    cases h
    exact goodv_spec_l2Address fu a0_0 y hy
  · cases h

/-! spec.l14Now -/
def F_spec_l14Now (fu : Nat) (n_0 : Int) : Option (Bool) :=
  ((F_spec_l1In fu n_0 0 1000000000).bind fun y76 => (some y76))
def pcf_spec_l14Now (fu : Nat) (f : Nat) (xs : List (D RT den)) : Option (Out RT den) := match f with | 64 => S_spec_l1In fu xs | _ => none
def pcx_spec_l14Now (fu : Nat) (f : Nat) (xs : List (D RT den)) (ins : List (Ob RT den)) : Option (OutX RT den) := none
def pc_spec_l14Now (fu : Nat) : Pc RT den := ⟨pcf_spec_l14Now fu, fun _ => false, fun _ => false, pcx_spec_l14Now fu⟩
def msk_spec_l14Now (b : Nat) : List Nat := []
def lp_spec_l14Now (fu : Nat) : Lp RT den (Bool) := fun b s k => none
theorem ev_spec_l14Now (fu : Nat) (n_0 : Int) : evFun E (pc_spec_l14Now fu) msk_spec_l14Now (lp_spec_l14Now fu) out_bo 40 [(.int .i64 n_0)] = F_spec_l14Now fu n_0 := by kernel_rfl
noncomputable def body_spec_l14Now : Code := Tryz.f40.body.getD .skip
theorem lpok_spec_l14Now (fu : Nat) : LpOk E (pc_spec_l14Now fu) msk_spec_l14Now (lp_spec_l14Now fu) (loops 0 body_spec_l14Now) := by
  have h : loops 0 body_spec_l14Now = [] := by kernel_rfl
  rw [h]; intro p hp; cases hp
def S_spec_l14Now (fu : Nat) (xs : List (D RT den)) : Option (Out RT den) := match xs with | [.int .i64 a0_0] => some ⟨Bool, F_spec_l14Now fu a0_0, enc_bo, fun _ => true⟩ | _ => none
theorem hpc_spec_l14Now (fu : Nat) : ∀ f xs o, pcf_spec_l14Now fu f xs = some o → ∀ y, o.x = some y → Good E Tryz.prog f xs (o.g y) := by
  intro f xs o h
  unfold pcf_spec_l14Now at h
  split at h
  · exact good_spec_l1In fu xs o h
  · cases h
theorem hpx_spec_l14Now (fu : Nat) : ∀ f xs ins o, pcx_spec_l14Now fu f xs ins = some o → ∀ y, o.x = some y → GoodX E Tryz.prog f xs ins (o.g y).1 (o.g y).2 := by
  intro f xs ins o h
  cases h
theorem goodv_spec_l14Now (fu : Nat) (n_0 : Int) (y : Bool) (hy : F_spec_l14Now fu n_0 = some y) : Good E Tryz.prog 40 [(.int .i64 n_0)] (enc_bo y) :=
  fun_good E_ok (pc_good (pc := pc_spec_l14Now fu) (hpc_spec_l14Now fu) (hpx_spec_l14Now fu)) (fn := Tryz.f40) (c := body_spec_l14Now) (out := out_bo) (y := y) (by kernel_rfl) (by kernel_rfl) (by kernel_rfl) (lpok_spec_l14Now fu) (fun d hd => out_bo_enc d _ hd) ((ev_spec_l14Now fu n_0).trans hy)
theorem good_spec_l14Now (fu : Nat) : ∀ xs o, S_spec_l14Now fu xs = some o → ∀ y, o.x = some y → Good E Tryz.prog 40 xs (o.g y) := by
  intro xs o h y hy
  unfold S_spec_l14Now at h
  split at h
  · rename_i a0_0
    cases h
    exact goodv_spec_l14Now fu a0_0 y hy
  · cases h

/-! spec.l5Version -/
def F_spec_l5Version (fu : Nat) (v_0 : Int) : Option (Bool) :=
  ((F_spec_l1In fu v_0 0 1000000).bind fun y86 => (some y86))
def pcf_spec_l5Version (fu : Nat) (f : Nat) (xs : List (D RT den)) : Option (Out RT den) := match f with | 64 => S_spec_l1In fu xs | _ => none
def pcx_spec_l5Version (fu : Nat) (f : Nat) (xs : List (D RT den)) (ins : List (Ob RT den)) : Option (OutX RT den) := none
def pc_spec_l5Version (fu : Nat) : Pc RT den := ⟨pcf_spec_l5Version fu, fun _ => false, fun _ => false, pcx_spec_l5Version fu⟩
def msk_spec_l5Version (b : Nat) : List Nat := []
def lp_spec_l5Version (fu : Nat) : Lp RT den (Bool) := fun b s k => none
theorem ev_spec_l5Version (fu : Nat) (v_0 : Int) : evFun E (pc_spec_l5Version fu) msk_spec_l5Version (lp_spec_l5Version fu) out_bo 89 [(.int .i64 v_0)] = F_spec_l5Version fu v_0 := by kernel_rfl
noncomputable def body_spec_l5Version : Code := Tryz.f89.body.getD .skip
theorem lpok_spec_l5Version (fu : Nat) : LpOk E (pc_spec_l5Version fu) msk_spec_l5Version (lp_spec_l5Version fu) (loops 0 body_spec_l5Version) := by
  have h : loops 0 body_spec_l5Version = [] := by kernel_rfl
  rw [h]; intro p hp; cases hp
def S_spec_l5Version (fu : Nat) (xs : List (D RT den)) : Option (Out RT den) := match xs with | [.int .i64 a0_0] => some ⟨Bool, F_spec_l5Version fu a0_0, enc_bo, fun _ => true⟩ | _ => none
theorem hpc_spec_l5Version (fu : Nat) : ∀ f xs o, pcf_spec_l5Version fu f xs = some o → ∀ y, o.x = some y → Good E Tryz.prog f xs (o.g y) := by
  intro f xs o h
  unfold pcf_spec_l5Version at h
  split at h
  · exact good_spec_l1In fu xs o h
  · cases h
theorem hpx_spec_l5Version (fu : Nat) : ∀ f xs ins o, pcx_spec_l5Version fu f xs ins = some o → ∀ y, o.x = some y → GoodX E Tryz.prog f xs ins (o.g y).1 (o.g y).2 := by
  intro f xs ins o h
  cases h
theorem goodv_spec_l5Version (fu : Nat) (v_0 : Int) (y : Bool) (hy : F_spec_l5Version fu v_0 = some y) : Good E Tryz.prog 89 [(.int .i64 v_0)] (enc_bo y) :=
  fun_good E_ok (pc_good (pc := pc_spec_l5Version fu) (hpc_spec_l5Version fu) (hpx_spec_l5Version fu)) (fn := Tryz.f89) (c := body_spec_l5Version) (out := out_bo) (y := y) (by kernel_rfl) (by kernel_rfl) (by kernel_rfl) (lpok_spec_l5Version fu) (fun d hd => out_bo_enc d _ hd) ((ev_spec_l5Version fu v_0).trans hy)
theorem good_spec_l5Version (fu : Nat) : ∀ xs o, S_spec_l5Version fu xs = some o → ∀ y, o.x = some y → Good E Tryz.prog 89 xs (o.g y) := by
  intro xs o h y hy
  unfold S_spec_l5Version at h
  split at h
  · rename_i a0_0
    cases h
    exact goodv_spec_l5Version fu a0_0 y hy
  · cases h

/-! spec.l3Name -/
def F_spec_l3Name (fu : Nat) (name_0 : Int) : Option (Bool) :=
  ((F_spec_l1In fu name_0 1 999).bind fun y92 => (some y92))
def pcf_spec_l3Name (fu : Nat) (f : Nat) (xs : List (D RT den)) : Option (Out RT den) := match f with | 64 => S_spec_l1In fu xs | _ => none
def pcx_spec_l3Name (fu : Nat) (f : Nat) (xs : List (D RT den)) (ins : List (Ob RT den)) : Option (OutX RT den) := none
def pc_spec_l3Name (fu : Nat) : Pc RT den := ⟨pcf_spec_l3Name fu, fun _ => false, fun _ => false, pcx_spec_l3Name fu⟩
def msk_spec_l3Name (b : Nat) : List Nat := []
def lp_spec_l3Name (fu : Nat) : Lp RT den (Bool) := fun b s k => none
theorem ev_spec_l3Name (fu : Nat) (name_0 : Int) : evFun E (pc_spec_l3Name fu) msk_spec_l3Name (lp_spec_l3Name fu) out_bo 110 [(.int .i64 name_0)] = F_spec_l3Name fu name_0 := by kernel_rfl
noncomputable def body_spec_l3Name : Code := Tryz.f110.body.getD .skip
theorem lpok_spec_l3Name (fu : Nat) : LpOk E (pc_spec_l3Name fu) msk_spec_l3Name (lp_spec_l3Name fu) (loops 0 body_spec_l3Name) := by
  have h : loops 0 body_spec_l3Name = [] := by kernel_rfl
  rw [h]; intro p hp; cases hp
def S_spec_l3Name (fu : Nat) (xs : List (D RT den)) : Option (Out RT den) := match xs with | [.int .i64 a0_0] => some ⟨Bool, F_spec_l3Name fu a0_0, enc_bo, fun _ => true⟩ | _ => none
theorem hpc_spec_l3Name (fu : Nat) : ∀ f xs o, pcf_spec_l3Name fu f xs = some o → ∀ y, o.x = some y → Good E Tryz.prog f xs (o.g y) := by
  intro f xs o h
  unfold pcf_spec_l3Name at h
  split at h
  · exact good_spec_l1In fu xs o h
  · cases h
theorem hpx_spec_l3Name (fu : Nat) : ∀ f xs ins o, pcx_spec_l3Name fu f xs ins = some o → ∀ y, o.x = some y → GoodX E Tryz.prog f xs ins (o.g y).1 (o.g y).2 := by
  intro f xs ins o h
  cases h
theorem goodv_spec_l3Name (fu : Nat) (name_0 : Int) (y : Bool) (hy : F_spec_l3Name fu name_0 = some y) : Good E Tryz.prog 110 [(.int .i64 name_0)] (enc_bo y) :=
  fun_good E_ok (pc_good (pc := pc_spec_l3Name fu) (hpc_spec_l3Name fu) (hpx_spec_l3Name fu)) (fn := Tryz.f110) (c := body_spec_l3Name) (out := out_bo) (y := y) (by kernel_rfl) (by kernel_rfl) (by kernel_rfl) (lpok_spec_l3Name fu) (fun d hd => out_bo_enc d _ hd) ((ev_spec_l3Name fu name_0).trans hy)
theorem good_spec_l3Name (fu : Nat) : ∀ xs o, S_spec_l3Name fu xs = some o → ∀ y, o.x = some y → Good E Tryz.prog 110 xs (o.g y) := by
  intro xs o h y hy
  unfold S_spec_l3Name at h
  split at h
  · rename_i a0_0
    cases h
    exact goodv_spec_l3Name fu a0_0 y hy
  · cases h

/-! spec.l5Backend -/
def F_spec_l5Backend (fu : Nat) (b_0 : S_impl_Backend) : Option (Bool) :=
  ((((F_spec_l3Name fu b_0.Name).bind fun y87 => (bif y87 then ((F_spec_l2Address fu b_0.Address).bind fun y88 => (bif y88 then ((F_spec_l1In fu b_0.Weight 0 9).bind fun y89 => (bif y89 then
    ((F_spec_l1In fu b_0.Stage 1 3).bind fun y90 => (some y90)) else (some false))) else (some false))) else (some false))) : Option Bool).bind fun m91 => (some m91))
def pcf_spec_l5Backend (fu : Nat) (f : Nat) (xs : List (D RT den)) : Option (Out RT den) := match f with | 39 => S_spec_l2Address fu xs | 64 => S_spec_l1In fu xs | 110 => S_spec_l3Name fu xs | _ => none
def pcx_spec_l5Backend (fu : Nat) (f : Nat) (xs : List (D RT den)) (ins : List (Ob RT den)) : Option (OutX RT den) := none
def pc_spec_l5Backend (fu : Nat) : Pc RT den := ⟨pcf_spec_l5Backend fu, fun _ => false, fun _ => false, pcx_spec_l5Backend fu⟩
def msk_spec_l5Backend (b : Nat) : List Nat := match b with | 200001 => [2] | _ => []
def lp_spec_l5Backend (fu : Nat) : Lp RT den (Bool) := fun b s k => none
theorem ev_spec_l5Backend (fu : Nat) (b_0 : S_impl_Backend) : evFun E (pc_spec_l5Backend fu) msk_spec_l5Backend (lp_spec_l5Backend fu) out_bo 90 [(.agg [(.int .i64 b_0.Name), (.int .i64 b_0.Address), (.int .i64 b_0.Weight), (.int .i64 b_0.Stage), (.bool b_0.Up)])] = F_spec_l5Backend fu b_0 := by kernel_rfl
noncomputable def body_spec_l5Backend : Code := Tryz.f90.body.getD .skip
theorem lpok_spec_l5Backend (fu : Nat) : LpOk E (pc_spec_l5Backend fu) msk_spec_l5Backend (lp_spec_l5Backend fu) (loops 0 body_spec_l5Backend) := by
  have h : loops 0 body_spec_l5Backend = [] := by kernel_rfl
  rw [h]; intro p hp; cases hp
def S_spec_l5Backend (fu : Nat) (xs : List (D RT den)) : Option (Out RT den) := match xs with | [.agg [.int .i64 a0_1, .int .i64 a0_2, .int .i64 a0_3, .int .i64 a0_4, .bool a0_5]] => some ⟨Bool, F_spec_l5Backend fu (⟨a0_1, a0_2, a0_3, a0_4, a0_5⟩ : S_impl_Backend), enc_bo, fun _ => true⟩ | _ => none
theorem hpc_spec_l5Backend (fu : Nat) : ∀ f xs o, pcf_spec_l5Backend fu f xs = some o → ∀ y, o.x = some y → Good E Tryz.prog f xs (o.g y) := by
  intro f xs o h
  unfold pcf_spec_l5Backend at h
  split at h
  · exact good_spec_l2Address fu xs o h
  · exact good_spec_l1In fu xs o h
  · exact good_spec_l3Name fu xs o h
  · cases h
theorem hpx_spec_l5Backend (fu : Nat) : ∀ f xs ins o, pcx_spec_l5Backend fu f xs ins = some o → ∀ y, o.x = some y → GoodX E Tryz.prog f xs ins (o.g y).1 (o.g y).2 := by
  intro f xs ins o h
  cases h
theorem goodv_spec_l5Backend (fu : Nat) (b_0 : S_impl_Backend) (y : Bool) (hy : F_spec_l5Backend fu b_0 = some y) : Good E Tryz.prog 90 [(.agg [(.int .i64 b_0.Name), (.int .i64 b_0.Address), (.int .i64 b_0.Weight), (.int .i64 b_0.Stage), (.bool b_0.Up)])] (enc_bo y) :=
  fun_good E_ok (pc_good (pc := pc_spec_l5Backend fu) (hpc_spec_l5Backend fu) (hpx_spec_l5Backend fu)) (fn := Tryz.f90) (c := body_spec_l5Backend) (out := out_bo) (y := y) (by kernel_rfl) (by kernel_rfl) (by kernel_rfl) (lpok_spec_l5Backend fu) (fun d hd => out_bo_enc d _ hd) ((ev_spec_l5Backend fu b_0).trans hy)
theorem good_spec_l5Backend (fu : Nat) : ∀ xs o, S_spec_l5Backend fu xs = some o → ∀ y, o.x = some y → Good E Tryz.prog 90 xs (o.g y) := by
  intro xs o h y hy
  unfold S_spec_l5Backend at h
  split at h
  · rename_i a0_1 a0_2 a0_3 a0_4 a0_5
    cases h
    exact goodv_spec_l5Backend fu (⟨a0_1, a0_2, a0_3, a0_4, a0_5⟩ : S_impl_Backend) y hy
  · cases h

/-! spec.l2Port -/
def F_spec_l2Port (fu : Nat) (p_0 : Int) : Option (Bool) :=
  ((F_spec_l1In fu p_0 0 65535).bind fun y100 => (some y100))
def pcf_spec_l2Port (fu : Nat) (f : Nat) (xs : List (D RT den)) : Option (Out RT den) := match f with | 64 => S_spec_l1In fu xs | _ => none
def pcx_spec_l2Port (fu : Nat) (f : Nat) (xs : List (D RT den)) (ins : List (Ob RT den)) : Option (OutX RT den) := none
def pc_spec_l2Port (fu : Nat) : Pc RT den := ⟨pcf_spec_l2Port fu, fun _ => false, fun _ => false, pcx_spec_l2Port fu⟩
def msk_spec_l2Port (b : Nat) : List Nat := []
def lp_spec_l2Port (fu : Nat) : Lp RT den (Bool) := fun b s k => none
theorem ev_spec_l2Port (fu : Nat) (p_0 : Int) : evFun E (pc_spec_l2Port fu) msk_spec_l2Port (lp_spec_l2Port fu) out_bo 60 [(.int .i64 p_0)] = F_spec_l2Port fu p_0 := by kernel_rfl
noncomputable def body_spec_l2Port : Code := Tryz.f60.body.getD .skip
theorem lpok_spec_l2Port (fu : Nat) : LpOk E (pc_spec_l2Port fu) msk_spec_l2Port (lp_spec_l2Port fu) (loops 0 body_spec_l2Port) := by
  have h : loops 0 body_spec_l2Port = [] := by kernel_rfl
  rw [h]; intro p hp; cases hp
def S_spec_l2Port (fu : Nat) (xs : List (D RT den)) : Option (Out RT den) := match xs with | [.int .i64 a0_0] => some ⟨Bool, F_spec_l2Port fu a0_0, enc_bo, fun _ => true⟩ | _ => none
theorem hpc_spec_l2Port (fu : Nat) : ∀ f xs o, pcf_spec_l2Port fu f xs = some o → ∀ y, o.x = some y → Good E Tryz.prog f xs (o.g y) := by
  intro f xs o h
  unfold pcf_spec_l2Port at h
  split at h
  · exact good_spec_l1In fu xs o h
  · cases h
theorem hpx_spec_l2Port (fu : Nat) : ∀ f xs ins o, pcx_spec_l2Port fu f xs ins = some o → ∀ y, o.x = some y → GoodX E Tryz.prog f xs ins (o.g y).1 (o.g y).2 := by
  intro f xs ins o h
  cases h
theorem goodv_spec_l2Port (fu : Nat) (p_0 : Int) (y : Bool) (hy : F_spec_l2Port fu p_0 = some y) : Good E Tryz.prog 60 [(.int .i64 p_0)] (enc_bo y) :=
  fun_good E_ok (pc_good (pc := pc_spec_l2Port fu) (hpc_spec_l2Port fu) (hpx_spec_l2Port fu)) (fn := Tryz.f60) (c := body_spec_l2Port) (out := out_bo) (y := y) (by kernel_rfl) (by kernel_rfl) (by kernel_rfl) (lpok_spec_l2Port fu) (fun d hd => out_bo_enc d _ hd) ((ev_spec_l2Port fu p_0).trans hy)
theorem good_spec_l2Port (fu : Nat) : ∀ xs o, S_spec_l2Port fu xs = some o → ∀ y, o.x = some y → Good E Tryz.prog 60 xs (o.g y) := by
  intro xs o h y hy
  unfold S_spec_l2Port at h
  split at h
  · rename_i a0_0
    cases h
    exact goodv_spec_l2Port fu a0_0 y hy
  · cases h

/-! spec.l5Proto -/
def F_spec_l5Proto (fu : Nat) (p_0 : Int) : Option (Bool) :=
  (((bif (p_0 == 6) then (some true) else (some (p_0 == 17))) : Option Bool).bind fun m101 => (some m101))
def pcf_spec_l5Proto (fu : Nat) (f : Nat) (xs : List (D RT den)) : Option (Out RT den) := none
def pcx_spec_l5Proto (fu : Nat) (f : Nat) (xs : List (D RT den)) (ins : List (Ob RT den)) : Option (OutX RT den) := none
def pc_spec_l5Proto (fu : Nat) : Pc RT den := ⟨pcf_spec_l5Proto fu, fun _ => false, fun _ => false, pcx_spec_l5Proto fu⟩
def msk_spec_l5Proto (b : Nat) : List Nat := match b with | 200001 => [2] | _ => []
def lp_spec_l5Proto (fu : Nat) : Lp RT den (Bool) := fun b s k => none
theorem ev_spec_l5Proto (fu : Nat) (p_0 : Int) : evFun E (pc_spec_l5Proto fu) msk_spec_l5Proto (lp_spec_l5Proto fu) out_bo 111 [(.int .i64 p_0)] = F_spec_l5Proto fu p_0 := by kernel_rfl
noncomputable def body_spec_l5Proto : Code := Tryz.f111.body.getD .skip
theorem lpok_spec_l5Proto (fu : Nat) : LpOk E (pc_spec_l5Proto fu) msk_spec_l5Proto (lp_spec_l5Proto fu) (loops 0 body_spec_l5Proto) := by
  have h : loops 0 body_spec_l5Proto = [] := by kernel_rfl
  rw [h]; intro p hp; cases hp
def S_spec_l5Proto (fu : Nat) (xs : List (D RT den)) : Option (Out RT den) := match xs with | [.int .i64 a0_0] => some ⟨Bool, F_spec_l5Proto fu a0_0, enc_bo, fun _ => true⟩ | _ => none
theorem hpc_spec_l5Proto (fu : Nat) : ∀ f xs o, pcf_spec_l5Proto fu f xs = some o → ∀ y, o.x = some y → Good E Tryz.prog f xs (o.g y) := by
  intro f xs o h
  cases h
theorem hpx_spec_l5Proto (fu : Nat) : ∀ f xs ins o, pcx_spec_l5Proto fu f xs ins = some o → ∀ y, o.x = some y → GoodX E Tryz.prog f xs ins (o.g y).1 (o.g y).2 := by
  intro f xs ins o h
  cases h
theorem goodv_spec_l5Proto (fu : Nat) (p_0 : Int) (y : Bool) (hy : F_spec_l5Proto fu p_0 = some y) : Good E Tryz.prog 111 [(.int .i64 p_0)] (enc_bo y) :=
  fun_good E_ok (pc_good (pc := pc_spec_l5Proto fu) (hpc_spec_l5Proto fu) (hpx_spec_l5Proto fu)) (fn := Tryz.f111) (c := body_spec_l5Proto) (out := out_bo) (y := y) (by kernel_rfl) (by kernel_rfl) (by kernel_rfl) (lpok_spec_l5Proto fu) (fun d hd => out_bo_enc d _ hd) ((ev_spec_l5Proto fu p_0).trans hy)
theorem good_spec_l5Proto (fu : Nat) : ∀ xs o, S_spec_l5Proto fu xs = some o → ∀ y, o.x = some y → Good E Tryz.prog 111 xs (o.g y) := by
  intro xs o h y hy
  unfold S_spec_l5Proto at h
  split at h
  · rename_i a0_0
    cases h
    exact goodv_spec_l5Proto fu a0_0 y hy
  · cases h

/-! spec.l5Behind -/
def F_spec_l5Behind (fu : Nat) (a_0 : S_impl_Vip) (b_1 : S_impl_Vip) : Option (Bool) :=
  (bif (a_0.Address != b_1.Address) then (some (decide (a_0.Address < b_1.Address))) else (bif (a_0.Port != b_1.Port) then (some (decide (a_0.Port < b_1.Port))) else (some (decide (a_0.Proto < b_1.Proto)))))
def pcf_spec_l5Behind (fu : Nat) (f : Nat) (xs : List (D RT den)) : Option (Out RT den) := none
def pcx_spec_l5Behind (fu : Nat) (f : Nat) (xs : List (D RT den)) (ins : List (Ob RT den)) : Option (OutX RT den) := none
def pc_spec_l5Behind (fu : Nat) : Pc RT den := ⟨pcf_spec_l5Behind fu, fun _ => false, fun _ => false, pcx_spec_l5Behind fu⟩
def msk_spec_l5Behind (b : Nat) : List Nat := []
def lp_spec_l5Behind (fu : Nat) : Lp RT den (Bool) := fun b s k => none
theorem ev_spec_l5Behind (fu : Nat) (a_0 : S_impl_Vip) (b_1 : S_impl_Vip) : evFun E (pc_spec_l5Behind fu) msk_spec_l5Behind (lp_spec_l5Behind fu) out_bo 112 [(.agg [(.int .i64 a_0.Address), (.int .i64 a_0.Port), (.int .i64 a_0.Proto), (.rs a_0.Names.z .i64 a_0.Names.n a_0.Names.f)]), (.agg [(.int .i64 b_1.Address), (.int .i64 b_1.Port), (.int .i64 b_1.Proto), (.rs b_1.Names.z .i64 b_1.Names.n b_1.Names.f)])] = F_spec_l5Behind fu a_0 b_1 := by kernel_rfl
noncomputable def body_spec_l5Behind : Code := Tryz.f112.body.getD .skip
theorem lpok_spec_l5Behind (fu : Nat) : LpOk E (pc_spec_l5Behind fu) msk_spec_l5Behind (lp_spec_l5Behind fu) (loops 0 body_spec_l5Behind) := by
  have h : loops 0 body_spec_l5Behind = [] := by kernel_rfl
  rw [h]; intro p hp; cases hp
def S_spec_l5Behind (fu : Nat) (xs : List (D RT den)) : Option (Out RT den) := match xs with | [.agg [.int .i64 a0_1, .int .i64 a0_2, .int .i64 a0_3, .rs za0_4 .i64 na0_4 fa0_4], .agg [.int .i64 a1_1, .int .i64 a1_2, .int .i64 a1_3, .rs za1_4 .i64 na1_4 fa1_4]] => some ⟨Bool, F_spec_l5Behind fu (⟨a0_1, a0_2, a0_3, (⟨za0_4, na0_4, fa0_4⟩ : (Sl Int))⟩ : S_impl_Vip) (⟨a1_1, a1_2, a1_3, (⟨za1_4, na1_4, fa1_4⟩ : (Sl Int))⟩ : S_impl_Vip), enc_bo, fun _ => true⟩ | _ => none
theorem hpc_spec_l5Behind (fu : Nat) : ∀ f xs o, pcf_spec_l5Behind fu f xs = some o → ∀ y, o.x = some y → Good E Tryz.prog f xs (o.g y) := by
  intro f xs o h
  cases h
theorem hpx_spec_l5Behind (fu : Nat) : ∀ f xs ins o, pcx_spec_l5Behind fu f xs ins = some o → ∀ y, o.x = some y → GoodX E Tryz.prog f xs ins (o.g y).1 (o.g y).2 := by
  intro f xs ins o h
  cases h
theorem goodv_spec_l5Behind (fu : Nat) (a_0 : S_impl_Vip) (b_1 : S_impl_Vip) (y : Bool) (hy : F_spec_l5Behind fu a_0 b_1 = some y) : Good E Tryz.prog 112 [(.agg [(.int .i64 a_0.Address), (.int .i64 a_0.Port), (.int .i64 a_0.Proto), (.rs a_0.Names.z .i64 a_0.Names.n a_0.Names.f)]), (.agg [(.int .i64 b_1.Address), (.int .i64 b_1.Port), (.int .i64 b_1.Proto), (.rs b_1.Names.z .i64 b_1.Names.n b_1.Names.f)])] (enc_bo y) :=
  fun_good E_ok (pc_good (pc := pc_spec_l5Behind fu) (hpc_spec_l5Behind fu) (hpx_spec_l5Behind fu)) (fn := Tryz.f112) (c := body_spec_l5Behind) (out := out_bo) (y := y) (by kernel_rfl) (by kernel_rfl) (by kernel_rfl) (lpok_spec_l5Behind fu) (fun d hd => out_bo_enc d _ hd) ((ev_spec_l5Behind fu a_0 b_1).trans hy)
theorem good_spec_l5Behind (fu : Nat) : ∀ xs o, S_spec_l5Behind fu xs = some o → ∀ y, o.x = some y → Good E Tryz.prog 112 xs (o.g y) := by
  intro xs o h y hy
  unfold S_spec_l5Behind at h
  split at h
  · rename_i a0_1 a0_2 a0_3 za0_4 na0_4 fa0_4 a1_1 a1_2 a1_3 za1_4 na1_4 fa1_4
    cases h
    exact goodv_spec_l5Behind fu (⟨a0_1, a0_2, a0_3, (⟨za0_4, na0_4, fa0_4⟩ : (Sl Int))⟩ : S_impl_Vip) (⟨a1_1, a1_2, a1_3, (⟨za1_4, na1_4, fa1_4⟩ : (Sl Int))⟩ : S_impl_Vip) y hy
  · cases h

/-! spec.l5At -/
def F_spec_l5At_B0 {ρ : Type} (fu : Nat) (c0_0 : Int) (c0_1 : (Sl S_impl_Backend)) (c0_2 : (Sl S_impl_Vip)) (name1_3 : Int) (k0 : Int → Option ρ) (k1 : Option ρ) (i5_4 : Int) (go : Int → Option ρ) : Option ρ :=
  (bif (decide (i5_4 < ((c0_1.n : Nat) : Int))) then ((bif (decide (0 ≤ i5_4) && decide ((Int.toNat i5_4) < c0_1.n)) then some () else none : Option Unit).bind fun _ => (bif ((c0_1.f (Int.toNat i5_4)).Name == name1_3) then
    (k0 i5_4) else (go (IntKind.wrap .i64 (i5_4 + 1))))) else k1)
def F_spec_l5At (fu : Nat) (c_0 : S_impl_Config) (name_1 : Int) : Option (Int) :=
  (L (fun w0 go0 => F_spec_l5At_B0 fu c_0.Version c_0.Backends c_0.Vips name_1 (fun z102 => (some z102)) (some (-1)) w0 go0) fu (0 : Int))
def pcf_spec_l5At (fu : Nat) (f : Nat) (xs : List (D RT den)) : Option (Out RT den) := none
def pcx_spec_l5At (fu : Nat) (f : Nat) (xs : List (D RT den)) (ins : List (Ob RT den)) : Option (OutX RT den) := none
def pc_spec_l5At (fu : Nat) : Pc RT den := ⟨pcf_spec_l5At fu, fun _ => false, fun _ => false, pcx_spec_l5At fu⟩
def msk_spec_l5At (b : Nat) : List Nat := match b with | 0 => [2, 3, 4, 6, 7, 8, 9, 10, 11, 12, 13, 14, 15, 16, 17, 18, 19, 20, 21, 22, 23, 24, 25] | 100000 => [0, 1, 2, 3, 5, 6, 7, 8, 9, 10, 11, 12, 13, 14, 15, 16, 17, 18, 19, 20, 21, 22, 23, 24, 25] | _ => []
def ps_spec_l5At_0 : List (Pat RT) := [.rptr [(.int .i64), (.rs .impl_Backend), (.rs .impl_Vip)], .flat (.int .i64), .flat .dead, .flat .dead, .flat .dead, .flat (.int .i64), .flat .dead, .flat .dead, .flat .dead, .flat .dead, .flat .dead, .flat .dead, .flat .dead, .flat .dead, .flat .dead, .flat .dead, .flat .dead, .flat .dead, .flat .dead, .flat .dead, .flat .dead, .flat .dead, .flat .dead, .flat .dead, .flat .dead, .flat .dead]
def os_spec_l5At_0 : List (OP RT) := []
def conv_spec_l5At_0 (r : Raw den ps_spec_l5At_0 os_spec_l5At_0) : (Int × (Sl S_impl_Backend) × (Sl S_impl_Vip) × Int) × (Int) := ((r.1.1.1, r.1.1.2.1, r.1.1.2.2.1, r.1.2.1), r.1.2.2.2.2.2.1)
def back_spec_l5At_0 (c : Int × (Sl S_impl_Backend) × (Sl S_impl_Vip) × Int) (w : Int) : St RT den := ⟨[(.rptr [(.int .i64 c.1), (.rs c.2.1.z .impl_Backend c.2.1.n c.2.1.f), (.rs c.2.2.1.z .impl_Vip c.2.2.1.n c.2.2.1.f)]), (.int .i64 c.2.2.2), .dead, .dead, .dead, (.int .i64 w), .dead, .dead, .dead, .dead, .dead, .dead, .dead, .dead, .dead, .dead, .dead, .dead, .dead, .dead, .dead, .dead, .dead, .dead, .dead, .dead], []⟩
def Bk_spec_l5At_0 {ρ : Type} (fu : Nat) (c : Int × (Sl S_impl_Backend) × (Sl S_impl_Vip) × Int) (k : Ex → St RT den → Option ρ) (w : Int) (go : (Int) → Option ρ) : Option ρ := F_spec_l5At_B0 fu c.1 c.2.1 c.2.2.1 c.2.2.2 (fun a0 => k .ret ⟨[.dead, .dead, .dead, .dead, (.int .i64 a0), .dead, .dead, .dead, .dead, .dead, .dead, .dead, .dead, .dead, .dead, .dead, .dead, .dead, .dead, .dead, .dead, .dead, .dead, .dead, .dead, .dead], []⟩) (k (.exit 0) ⟨[.dead, .dead, .dead, .dead, .dead, .dead, .dead, .dead, .dead, .dead, .dead, .dead, .dead, .dead, .dead, .dead, .dead, .dead, .dead, .dead, .dead, .dead, .dead, .dead, .dead, .dead], []⟩) w go
def lp_spec_l5At (fu : Nat) : Lp RT den (Int) := fun b s k => match b with | 0 => handle ps_spec_l5At_0 os_spec_l5At_0 conv_spec_l5At_0 (Bk_spec_l5At_0 fu) fu s k | _ => none
theorem ev_spec_l5At (fu : Nat) (c_0 : S_impl_Config) (name_1 : Int) : evFun E (pc_spec_l5At fu) msk_spec_l5At (lp_spec_l5At fu) out_i64 94 [(.rptr [(.int .i64 c_0.Version), (.rs c_0.Backends.z .impl_Backend c_0.Backends.n c_0.Backends.f), (.rs c_0.Vips.z .impl_Vip c_0.Vips.n c_0.Vips.f)]), (.int .i64 name_1)] = F_spec_l5At fu c_0 name_1 := by kernel_rfl
noncomputable def body_spec_l5At : Code := Tryz.f94.body.getD .skip
noncomputable def lc_spec_l5At_0 : Code := ((loops 0 body_spec_l5At).getD 0 (0, .skip)).2
theorem round_spec_l5At_0 (fu : Nat) (it : St RT den → Option (Int)) (k : Ex → St RT den → Option (Int)) c w : evCode E (pc_spec_l5At fu) msk_spec_l5At (lp_spec_l5At fu) 0 lc_spec_l5At_0 (back_spec_l5At_0 c w) (after (msk_spec_l5At 0) (msk_spec_l5At 100000) 0 it k) = Bk_spec_l5At_0 fu c k w (fun w => it (back_spec_l5At_0 c w)) := by kernel_rfl
theorem lpok_spec_l5At_0 (fu : Nat) : ∀ s k r, lp_spec_l5At fu 0 s k = some r → ∃ fuel, iter (msk_spec_l5At 0) (msk_spec_l5At 100000) s.objs.length (evCode E (pc_spec_l5At fu) msk_spec_l5At (lp_spec_l5At fu) 0 lc_spec_l5At_0) fuel s k = some r :=
  handle_ok (ps := ps_spec_l5At_0) (os := os_spec_l5At_0) (conv := conv_spec_l5At_0) (B := Bk_spec_l5At_0 fu) (fu := fu) back_spec_l5At_0 (fun raw => by kernel_rfl) 0 (fun c w => by kernel_rfl) (round_spec_l5At_0 fu)
theorem lpok_spec_l5At (fu : Nat) : LpOk E (pc_spec_l5At fu) msk_spec_l5At (lp_spec_l5At fu) (loops 0 body_spec_l5At) := loop_all 1 (by kernel_rfl) fun i hi => match i, hi with
  | 0, _ => by
    have h : (loops 0 body_spec_l5At).getD 0 (0, .skip) = (0, lc_spec_l5At_0) := by kernel_rfl
    rw [h]; exact lpok_spec_l5At_0 fu
  | i + 1, hi => absurd hi (by omega)
def S_spec_l5At (fu : Nat) (xs : List (D RT den)) : Option (Out RT den) := match xs with | [.rptr (.int .i64 a0_1 :: .rs za0_2 .impl_Backend na0_2 fa0_2 :: .rs za0_3 .impl_Vip na0_3 fa0_3 :: ra0), .int .i64 a1_0] => some ⟨Int, F_spec_l5At fu (⟨a0_1, (⟨za0_2, na0_2, fa0_2⟩ : (Sl S_impl_Backend)), (⟨za0_3, na0_3, fa0_3⟩ : (Sl S_impl_Vip))⟩ : S_impl_Config) a1_0, enc_i64, fun _ => true⟩ | _ => none
theorem hpc_spec_l5At (fu : Nat) : ∀ f xs o, pcf_spec_l5At fu f xs = some o → ∀ y, o.x = some y → Good E Tryz.prog f xs (o.g y) := by
  intro f xs o h
  cases h
theorem hpx_spec_l5At (fu : Nat) : ∀ f xs ins o, pcx_spec_l5At fu f xs ins = some o → ∀ y, o.x = some y → GoodX E Tryz.prog f xs ins (o.g y).1 (o.g y).2 := by
  intro f xs ins o h
  cases h
theorem goodv_spec_l5At (fu : Nat) (c_0 : S_impl_Config) (name_1 : Int) (y : Int) (hy : F_spec_l5At fu c_0 name_1 = some y) : Good E Tryz.prog 94 [(.rptr [(.int .i64 c_0.Version), (.rs c_0.Backends.z .impl_Backend c_0.Backends.n c_0.Backends.f), (.rs c_0.Vips.z .impl_Vip c_0.Vips.n c_0.Vips.f)]), (.int .i64 name_1)] (enc_i64 y) :=
  fun_good E_ok (pc_good (pc := pc_spec_l5At fu) (hpc_spec_l5At fu) (hpx_spec_l5At fu)) (fn := Tryz.f94) (c := body_spec_l5At) (out := out_i64) (y := y) (by kernel_rfl) (by kernel_rfl) (by kernel_rfl) (lpok_spec_l5At fu) (fun d hd => out_i64_enc d _ hd) ((ev_spec_l5At fu c_0 name_1).trans hy)
theorem good_spec_l5At (fu : Nat) : ∀ xs o, S_spec_l5At fu xs = some o → ∀ y, o.x = some y → Good E Tryz.prog 94 xs (o.g y) := by
  intro xs o h y hy
  unfold S_spec_l5At at h
  split at h
  · rename_i a0_1 za0_2 na0_2 fa0_2 za0_3 na0_3 fa0_3 ra0 a1_0
    cases h
    exact (goodv_spec_l5At fu (⟨a0_1, (⟨za0_2, na0_2, fa0_2⟩ : (Sl S_impl_Backend)), (⟨za0_3, na0_3, fa0_3⟩ : (Sl S_impl_Vip))⟩ : S_impl_Config) a1_0 y hy).sub ⟨Sub.of_eq ra0 rfl, .refl _, trivial⟩
  · cases h

/-! spec.l5Vip -/
def F_spec_l5Vip_B0 {ρ : Type} (fu : Nat) (c0_0 : Int) (c0_1 : (Sl S_impl_Backend)) (c0_2 : (Sl S_impl_Vip)) (o0_4 : Int) (o0_5 : Int) (o0_6 : Int) (o0_7 : (Sl Int)) (k0 : Option ρ) (k1 : Option ρ) (i6_3 : Int) (go : Int → Option ρ) : Option ρ :=
  (bif (decide (i6_3 < ((o0_7.n : Nat) : Int))) then ((bif (decide (0 ≤ i6_3) && decide ((Int.toNat i6_3) < o0_7.n)) then some () else none : Option Unit).bind fun _ =>
    ((F_spec_l5At fu (⟨c0_0, c0_1, c0_2⟩ : S_impl_Config) (o0_7.f (Int.toNat i6_3))).bind fun y99 => (bif (decide (y99 < 0)) then k0 else (go (IntKind.wrap .i64 (i6_3 + 1)))))) else
    k1)
def F_spec_l5Vip_B2 {ρ : Type} (fu : Nat) (o0_1 : Int) (o0_2 : Int) (o0_3 : Int) (o0_4 : (Sl Int)) (k0 : Option ρ) (k1 : Option ρ) (i7_0 : Int) (go : Int → Option ρ) : Option ρ :=
  (bif (decide (i7_0 < ((o0_4.n : Nat) : Int))) then ((bif (decide (0 ≤ i7_0) && decide ((Int.toNat i7_0) < o0_4.n)) then some () else none : Option Unit).bind fun _ => ((bif (decide (0 ≤ (IntKind.wrap .i64 (i7_0 - 1))) &&
    decide ((Int.toNat (IntKind.wrap .i64 (i7_0 - 1))) < o0_4.n)) then some () else none : Option Unit).bind fun _ => (bif (decide ((o0_4.f (Int.toNat i7_0)) ≤ (o0_4.f (Int.toNat (IntKind.wrap .i64 (i7_0 - 1)))))) then
    k0 else (go (IntKind.wrap .i64 (i7_0 + 1)))))) else k1)
def F_spec_l5Vip (fu : Nat) (c_0 : S_impl_Config) (at_1 : Int) : Option (Int) :=
  ((bif (decide (0 ≤ at_1) && decide ((Int.toNat at_1) < c_0.Vips.n)) then some () else none : Option Unit).bind fun _ => ((((F_spec_l2Address fu (c_0.Vips.f (Int.toNat at_1)).Address).bind fun y93 =>
    (bif (!y93) then (some true) else ((F_spec_l2Port fu (c_0.Vips.f (Int.toNat at_1)).Port).bind fun y94 => (bif (!y94) then (some true) else ((F_spec_l5Proto fu (c_0.Vips.f (Int.toNat at_1)).Proto).bind fun y95 =>
    (some (!y95))))))) : Option Bool).bind fun m96 => (bif m96 then (some 3) else (((bif (decide (at_1 > 0)) then ((bif (decide (0 ≤ (IntKind.wrap .i64 (at_1 - 1))) && decide ((Int.toNat (IntKind.wrap .i64 (at_1 - 1))) < c_0.Vips.n)) then
    some () else none : Option Unit).bind fun _ => ((F_spec_l5Behind fu (c_0.Vips.f (Int.toNat (IntKind.wrap .i64 (at_1 - 1)))) (c_0.Vips.f (Int.toNat at_1))).bind fun y97 => (some (!y97)))) else
    (some false)) : Option Bool).bind fun m98 => (bif m98 then (some 1) else (L (fun w0 go0 => F_spec_l5Vip_B0 fu c_0.Version c_0.Backends c_0.Vips ((c_0.Vips.f (Int.toNat at_1)).Address) ((c_0.Vips.f (Int.toNat at_1)).Port) ((c_0.Vips.f (Int.toNat at_1)).Proto) ((c_0.Vips.f (Int.toNat at_1)).Names) (some 4) (L (fun w2 go2 =>
    F_spec_l5Vip_B2 fu ((c_0.Vips.f (Int.toNat at_1)).Address) ((c_0.Vips.f (Int.toNat at_1)).Port) ((c_0.Vips.f (Int.toNat at_1)).Proto) ((c_0.Vips.f (Int.toNat at_1)).Names) (some 1) (some 0) w2 go2) fu (1 : Int)) w0 go0) fu (0 : Int)))))))
def pcf_spec_l5Vip (fu : Nat) (f : Nat) (xs : List (D RT den)) : Option (Out RT den) := match f with | 39 => S_spec_l2Address fu xs | 60 => S_spec_l2Port fu xs | 94 => S_spec_l5At fu xs | 111 => S_spec_l5Proto fu xs | 112 => S_spec_l5Behind fu xs | _ => none
def pcx_spec_l5Vip (fu : Nat) (f : Nat) (xs : List (D RT den)) (ins : List (Ob RT den)) : Option (OutX RT den) := none
def pc_spec_l5Vip (fu : Nat) : Pc RT den := ⟨pcf_spec_l5Vip fu, fun _ => false, fun _ => false, pcx_spec_l5Vip fu⟩
def msk_spec_l5Vip (b : Nat) : List Nat := match b with | 0 => [1, 2, 3, 4, 7, 8, 9, 10, 11, 12, 13, 14, 15, 16, 17, 18, 19, 20, 21, 22, 23, 24, 25, 26, 27, 28, 29, 30, 31, 32, 33, 34, 35, 36, 37, 38, 39, 40, 41, 42, 43, 44, 45, 46, 47, 48, 49, 50, 51, 52, 53, 54, 55, 56, 57, 58, 59, 60, 61, 62, 63, 64, 65, 66, 67, 68, 69, 70, 71, 72, 73, 74, 75, 76, 77, 78, 79] | 100000 => [0, 1, 2, 3, 6, 7, 8, 9, 10, 11, 12, 13, 14, 15, 16, 17, 18, 19, 20, 21, 22, 23, 24, 25, 26, 27, 28, 29, 30, 31, 32, 33, 34, 35, 36, 37, 38, 39, 40, 41, 42, 43, 44, 45, 46, 47, 48, 49, 50, 51, 52, 53, 54, 55, 56, 57, 58, 59, 60, 61, 62, 63, 64, 65, 66, 67, 68, 69, 70, 71, 72, 73, 74, 75, 76, 77, 78, 79] | 2 => [0, 1, 2, 3, 4, 6, 8, 9, 10, 11, 12, 13, 14, 15, 16, 17, 18, 19, 20, 21, 22, 23, 24, 25, 26, 27, 28, 29, 30, 31, 32, 33, 34, 35, 36, 37, 38, 39, 40, 41, 42, 43, 44, 45, 46, 47, 48, 49, 50, 51, 52, 53, 54, 55, 56, 57, 58, 59, 60, 61, 62, 63, 64, 65, 66, 67, 68, 69, 70, 71, 72, 73, 74, 75, 76, 77, 78, 79] | 100002 => [0, 1, 2, 3, 5, 6, 7, 8, 9, 10, 11, 12, 13, 14, 15, 16, 17, 18, 19, 20, 21, 22, 23, 24, 25, 26, 27, 28, 29, 30, 31, 32, 33, 34, 35, 36, 37, 38, 39, 40, 41, 42, 43, 44, 45, 46, 47, 48, 49, 50, 51, 52, 53, 54, 55, 56, 57, 58, 59, 60, 61, 62, 63, 64, 65, 66, 67, 68, 69, 70, 71, 72, 73, 74, 75, 76, 77, 78, 79] | 200002 => [30] | 200004 => [45] | _ => []
def ps_spec_l5Vip_0 : List (Pat RT) := [.rptr [(.int .i64), (.rs .impl_Backend), (.rs .impl_Vip)], .flat .dead, .flat .dead, .flat .dead, .flat .dead, .flat (.ref 0 0), .flat (.int .i64), .flat .dead, .flat .dead, .flat .dead, .flat .dead, .flat .dead, .flat .dead, .flat .dead, .flat .dead, .flat .dead, .flat .dead, .flat .dead, .flat .dead, .flat .dead, .flat .dead, .flat .dead, .flat .dead, .flat .dead, .flat .dead, .flat .dead, .flat .dead, .flat .dead, .flat .dead, .flat .dead, .flat .dead, .flat .dead, .flat .dead, .flat .dead, .flat .dead, .flat .dead, .flat .dead, .flat .dead, .flat .dead, .flat .dead, .flat .dead, .flat .dead, .flat .dead, .flat .dead, .flat .dead, .flat .dead, .flat .dead, .flat .dead, .flat .dead, .flat .dead, .flat .dead, .flat .dead, .flat .dead, .flat .dead, .flat .dead, .flat .dead, .flat .dead, .flat .dead, .flat .dead, .flat .dead, .flat .dead, .flat .dead, .flat .dead, .flat .dead, .flat .dead, .flat .dead, .flat .dead, .flat .dead, .flat .dead, .flat .dead, .flat .dead, .flat .dead, .flat .dead, .flat .dead, .flat .dead, .flat .dead, .flat .dead, .flat .dead, .flat .dead, .flat .dead]
def os_spec_l5Vip_0 : List (OP RT) := [.box [(.int .i64), (.int .i64), (.int .i64), (.rs .i64)]]
def conv_spec_l5Vip_0 (r : Raw den ps_spec_l5Vip_0 os_spec_l5Vip_0) : (Int × (Sl S_impl_Backend) × (Sl S_impl_Vip) × Int × Int × Int × (Sl Int)) × (Int) := ((r.1.1.1, r.1.1.2.1, r.1.1.2.2.1, r.2.1.1, r.2.1.2.1, r.2.1.2.2.1, r.2.1.2.2.2.1), r.1.2.2.2.2.2.2.1)
def back_spec_l5Vip_0 (c : Int × (Sl S_impl_Backend) × (Sl S_impl_Vip) × Int × Int × Int × (Sl Int)) (w : Int) : St RT den := ⟨[(.rptr [(.int .i64 c.1), (.rs c.2.1.z .impl_Backend c.2.1.n c.2.1.f), (.rs c.2.2.1.z .impl_Vip c.2.2.1.n c.2.2.1.f)]), .dead, .dead, .dead, .dead, (.ref 0 0), (.int .i64 w), .dead, .dead, .dead, .dead, .dead, .dead, .dead, .dead, .dead, .dead, .dead, .dead, .dead, .dead, .dead, .dead, .dead, .dead, .dead, .dead, .dead, .dead, .dead, .dead, .dead, .dead, .dead, .dead, .dead, .dead, .dead, .dead, .dead, .dead, .dead, .dead, .dead, .dead, .dead, .dead, .dead, .dead, .dead, .dead, .dead, .dead, .dead, .dead, .dead, .dead, .dead, .dead, .dead, .dead, .dead, .dead, .dead, .dead, .dead, .dead, .dead, .dead, .dead, .dead, .dead, .dead, .dead, .dead, .dead, .dead, .dead, .dead, .dead], [(.box [(.int .i64 c.2.2.2.1), (.int .i64 c.2.2.2.2.1), (.int .i64 c.2.2.2.2.2.1), (.rs c.2.2.2.2.2.2.z .i64 c.2.2.2.2.2.2.n c.2.2.2.2.2.2.f)])]⟩
def Bk_spec_l5Vip_0 {ρ : Type} (fu : Nat) (c : Int × (Sl S_impl_Backend) × (Sl S_impl_Vip) × Int × Int × Int × (Sl Int)) (k : Ex → St RT den → Option ρ) (w : Int) (go : (Int) → Option ρ) : Option ρ := F_spec_l5Vip_B0 fu c.1 c.2.1 c.2.2.1 c.2.2.2.1 c.2.2.2.2.1 c.2.2.2.2.2.1 c.2.2.2.2.2.2 (k .ret ⟨[.dead, .dead, .dead, .dead, (.int .i64 4), (.ref 0 0), .dead, .dead, .dead, .dead, .dead, .dead, .dead, .dead, .dead, .dead, .dead, .dead, .dead, .dead, .dead, .dead, .dead, .dead, .dead, .dead, .dead, .dead, .dead, .dead, .dead, .dead, .dead, .dead, .dead, .dead, .dead, .dead, .dead, .dead, .dead, .dead, .dead, .dead, .dead, .dead, .dead, .dead, .dead, .dead, .dead, .dead, .dead, .dead, .dead, .dead, .dead, .dead, .dead, .dead, .dead, .dead, .dead, .dead, .dead, .dead, .dead, .dead, .dead, .dead, .dead, .dead, .dead, .dead, .dead, .dead, .dead, .dead, .dead, .dead], [(.box [(.int .i64 c.2.2.2.1), (.int .i64 c.2.2.2.2.1), (.int .i64 c.2.2.2.2.2.1), (.rs c.2.2.2.2.2.2.z .i64 c.2.2.2.2.2.2.n c.2.2.2.2.2.2.f)])]⟩) (k (.exit 0) ⟨[.dead, .dead, .dead, .dead, .dead, (.ref 0 0), .dead, .dead, .dead, .dead, .dead, .dead, .dead, .dead, .dead, .dead, .dead, .dead, .dead, .dead, .dead, .dead, .dead, .dead, .dead, .dead, .dead, .dead, .dead, .dead, .dead, .dead, .dead, .dead, .dead, .dead, .dead, .dead, .dead, .dead, .dead, .dead, .dead, .dead, .dead, .dead, .dead, .dead, .dead, .dead, .dead, .dead, .dead, .dead, .dead, .dead, .dead, .dead, .dead, .dead, .dead, .dead, .dead, .dead, .dead, .dead, .dead, .dead, .dead, .dead, .dead, .dead, .dead, .dead, .dead, .dead, .dead, .dead, .dead, .dead], [(.box [(.int .i64 c.2.2.2.1), (.int .i64 c.2.2.2.2.1), (.int .i64 c.2.2.2.2.2.1), (.rs c.2.2.2.2.2.2.z .i64 c.2.2.2.2.2.2.n c.2.2.2.2.2.2.f)])]⟩) w go
def ps_spec_l5Vip_2 : List (Pat RT) := [.flat .dead, .flat .dead, .flat .dead, .flat .dead, .flat .dead, .flat (.ref 0 0), .flat .dead, .flat (.int .i64), .flat .dead, .flat .dead, .flat .dead, .flat .dead, .flat .dead, .flat .dead, .flat .dead, .flat .dead, .flat .dead, .flat .dead, .flat .dead, .flat .dead, .flat .dead, .flat .dead, .flat .dead, .flat .dead, .flat .dead, .flat .dead, .flat .dead, .flat .dead, .flat .dead, .flat .dead, .flat .dead, .flat .dead, .flat .dead, .flat .dead, .flat .dead, .flat .dead, .flat .dead, .flat .dead, .flat .dead, .flat .dead, .flat .dead, .flat .dead, .flat .dead, .flat .dead, .flat .dead, .flat .dead, .flat .dead, .flat .dead, .flat .dead, .flat .dead, .flat .dead, .flat .dead, .flat .dead, .flat .dead, .flat .dead, .flat .dead, .flat .dead, .flat .dead, .flat .dead, .flat .dead, .flat .dead, .flat .dead, .flat .dead, .flat .dead, .flat .dead, .flat .dead, .flat .dead, .flat .dead, .flat .dead, .flat .dead, .flat .dead, .flat .dead, .flat .dead, .flat .dead, .flat .dead, .flat .dead, .flat .dead, .flat .dead, .flat .dead, .flat .dead]
def os_spec_l5Vip_2 : List (OP RT) := [.box [(.int .i64), (.int .i64), (.int .i64), (.rs .i64)]]
def conv_spec_l5Vip_2 (r : Raw den ps_spec_l5Vip_2 os_spec_l5Vip_2) : (Int × Int × Int × (Sl Int)) × (Int) := ((r.2.1.1, r.2.1.2.1, r.2.1.2.2.1, r.2.1.2.2.2.1), r.1.2.2.2.2.2.2.2.1)
def back_spec_l5Vip_2 (c : Int × Int × Int × (Sl Int)) (w : Int) : St RT den := ⟨[.dead, .dead, .dead, .dead, .dead, (.ref 0 0), .dead, (.int .i64 w), .dead, .dead, .dead, .dead, .dead, .dead, .dead, .dead, .dead, .dead, .dead, .dead, .dead, .dead, .dead, .dead, .dead, .dead, .dead, .dead, .dead, .dead, .dead, .dead, .dead, .dead, .dead, .dead, .dead, .dead, .dead, .dead, .dead, .dead, .dead, .dead, .dead, .dead, .dead, .dead, .dead, .dead, .dead, .dead, .dead, .dead, .dead, .dead, .dead, .dead, .dead, .dead, .dead, .dead, .dead, .dead, .dead, .dead, .dead, .dead, .dead, .dead, .dead, .dead, .dead, .dead, .dead, .dead, .dead, .dead, .dead, .dead], [(.box [(.int .i64 c.1), (.int .i64 c.2.1), (.int .i64 c.2.2.1), (.rs c.2.2.2.z .i64 c.2.2.2.n c.2.2.2.f)])]⟩
def Bk_spec_l5Vip_2 {ρ : Type} (fu : Nat) (c : Int × Int × Int × (Sl Int)) (k : Ex → St RT den → Option ρ) (w : Int) (go : (Int) → Option ρ) : Option ρ := F_spec_l5Vip_B2 fu c.1 c.2.1 c.2.2.1 c.2.2.2 (k .ret ⟨[.dead, .dead, .dead, .dead, (.int .i64 1), .dead, .dead, .dead, .dead, .dead, .dead, .dead, .dead, .dead, .dead, .dead, .dead, .dead, .dead, .dead, .dead, .dead, .dead, .dead, .dead, .dead, .dead, .dead, .dead, .dead, .dead, .dead, .dead, .dead, .dead, .dead, .dead, .dead, .dead, .dead, .dead, .dead, .dead, .dead, .dead, .dead, .dead, .dead, .dead, .dead, .dead, .dead, .dead, .dead, .dead, .dead, .dead, .dead, .dead, .dead, .dead, .dead, .dead, .dead, .dead, .dead, .dead, .dead, .dead, .dead, .dead, .dead, .dead, .dead, .dead, .dead, .dead, .dead, .dead, .dead], [(.box [(.int .i64 c.1), (.int .i64 c.2.1), (.int .i64 c.2.2.1), (.rs c.2.2.2.z .i64 c.2.2.2.n c.2.2.2.f)])]⟩) (k (.exit 2) ⟨[.dead, .dead, .dead, .dead, .dead, .dead, .dead, .dead, .dead, .dead, .dead, .dead, .dead, .dead, .dead, .dead, .dead, .dead, .dead, .dead, .dead, .dead, .dead, .dead, .dead, .dead, .dead, .dead, .dead, .dead, .dead, .dead, .dead, .dead, .dead, .dead, .dead, .dead, .dead, .dead, .dead, .dead, .dead, .dead, .dead, .dead, .dead, .dead, .dead, .dead, .dead, .dead, .dead, .dead, .dead, .dead, .dead, .dead, .dead, .dead, .dead, .dead, .dead, .dead, .dead, .dead, .dead, .dead, .dead, .dead, .dead, .dead, .dead, .dead, .dead, .dead, .dead, .dead, .dead, .dead], [(.box [(.int .i64 c.1), (.int .i64 c.2.1), (.int .i64 c.2.2.1), (.rs c.2.2.2.z .i64 c.2.2.2.n c.2.2.2.f)])]⟩) w go
def lp_spec_l5Vip (fu : Nat) : Lp RT den (Int) := fun b s k => match b with | 0 => handle ps_spec_l5Vip_0 os_spec_l5Vip_0 conv_spec_l5Vip_0 (Bk_spec_l5Vip_0 fu) fu s k | 2 => handle ps_spec_l5Vip_2 os_spec_l5Vip_2 conv_spec_l5Vip_2 (Bk_spec_l5Vip_2 fu) fu s k | _ => none
theorem ev_spec_l5Vip (fu : Nat) (c_0 : S_impl_Config) (at_1 : Int) : evFun E (pc_spec_l5Vip fu) msk_spec_l5Vip (lp_spec_l5Vip fu) out_i64 91 [(.rptr [(.int .i64 c_0.Version), (.rs c_0.Backends.z .impl_Backend c_0.Backends.n c_0.Backends.f), (.rs c_0.Vips.z .impl_Vip c_0.Vips.n c_0.Vips.f)]), (.int .i64 at_1)] = F_spec_l5Vip fu c_0 at_1 := by kernel_rfl
noncomputable def body_spec_l5Vip : Code := Tryz.f91.body.getD .skip
noncomputable def lc_spec_l5Vip_0 : Code := ((loops 0 body_spec_l5Vip).getD 0 (0, .skip)).2
theorem round_spec_l5Vip_0 (fu : Nat) (it : St RT den → Option (Int)) (k : Ex → St RT den → Option (Int)) c w : evCode E (pc_spec_l5Vip fu) msk_spec_l5Vip (lp_spec_l5Vip fu) 0 lc_spec_l5Vip_0 (back_spec_l5Vip_0 c w) (after (msk_spec_l5Vip 0) (msk_spec_l5Vip 100000) 1 it k) = Bk_spec_l5Vip_0 fu c k w (fun w => it (back_spec_l5Vip_0 c w)) := by kernel_rfl
theorem lpok_spec_l5Vip_0 (fu : Nat) : ∀ s k r, lp_spec_l5Vip fu 0 s k = some r → ∃ fuel, iter (msk_spec_l5Vip 0) (msk_spec_l5Vip 100000) s.objs.length (evCode E (pc_spec_l5Vip fu) msk_spec_l5Vip (lp_spec_l5Vip fu) 0 lc_spec_l5Vip_0) fuel s k = some r :=
  handle_ok (ps := ps_spec_l5Vip_0) (os := os_spec_l5Vip_0) (conv := conv_spec_l5Vip_0) (B := Bk_spec_l5Vip_0 fu) (fu := fu) back_spec_l5Vip_0 (fun raw => by kernel_rfl) 1 (fun c w => by kernel_rfl) (round_spec_l5Vip_0 fu)
noncomputable def lc_spec_l5Vip_2 : Code := ((loops 0 body_spec_l5Vip).getD 1 (0, .skip)).2
theorem round_spec_l5Vip_2 (fu : Nat) (it : St RT den → Option (Int)) (k : Ex → St RT den → Option (Int)) c w : evCode E (pc_spec_l5Vip fu) msk_spec_l5Vip (lp_spec_l5Vip fu) 2 lc_spec_l5Vip_2 (back_spec_l5Vip_2 c w) (after (msk_spec_l5Vip 2) (msk_spec_l5Vip 100002) 1 it k) = Bk_spec_l5Vip_2 fu c k w (fun w => it (back_spec_l5Vip_2 c w)) := by kernel_rfl
theorem lpok_spec_l5Vip_2 (fu : Nat) : ∀ s k r, lp_spec_l5Vip fu 2 s k = some r → ∃ fuel, iter (msk_spec_l5Vip 2) (msk_spec_l5Vip 100002) s.objs.length (evCode E (pc_spec_l5Vip fu) msk_spec_l5Vip (lp_spec_l5Vip fu) 2 lc_spec_l5Vip_2) fuel s k = some r :=
  handle_ok (ps := ps_spec_l5Vip_2) (os := os_spec_l5Vip_2) (conv := conv_spec_l5Vip_2) (B := Bk_spec_l5Vip_2 fu) (fu := fu) back_spec_l5Vip_2 (fun raw => by kernel_rfl) 1 (fun c w => by kernel_rfl) (round_spec_l5Vip_2 fu)
theorem lpok_spec_l5Vip (fu : Nat) : LpOk E (pc_spec_l5Vip fu) msk_spec_l5Vip (lp_spec_l5Vip fu) (loops 0 body_spec_l5Vip) := loop_all 2 (by kernel_rfl) fun i hi => match i, hi with
  | 0, _ => by
    have h : (loops 0 body_spec_l5Vip).getD 0 (0, .skip) = (0, lc_spec_l5Vip_0) := by kernel_rfl
    rw [h]; exact lpok_spec_l5Vip_0 fu
  | 1, _ => by
    have h : (loops 0 body_spec_l5Vip).getD 1 (0, .skip) = (2, lc_spec_l5Vip_2) := by kernel_rfl
    rw [h]; exact lpok_spec_l5Vip_2 fu
  | i + 2, hi => absurd hi (by omega)
def S_spec_l5Vip (fu : Nat) (xs : List (D RT den)) : Option (Out RT den) := match xs with | [.rptr (.int .i64 a0_1 :: .rs za0_2 .impl_Backend na0_2 fa0_2 :: .rs za0_3 .impl_Vip na0_3 fa0_3 :: ra0), .int .i64 a1_0] => some ⟨Int, F_spec_l5Vip fu (⟨a0_1, (⟨za0_2, na0_2, fa0_2⟩ : (Sl S_impl_Backend)), (⟨za0_3, na0_3, fa0_3⟩ : (Sl S_impl_Vip))⟩ : S_impl_Config) a1_0, enc_i64, fun _ => true⟩ | _ => none
theorem hpc_spec_l5Vip (fu : Nat) : ∀ f xs o, pcf_spec_l5Vip fu f xs = some o → ∀ y, o.x = some y → Good E Tryz.prog f xs (o.g y) := by
  intro f xs o h
  unfold pcf_spec_l5Vip at h
  split at h
  · exact good_spec_l2Address fu xs o h
  · exact good_spec_l2Port fu xs o h
  · exact good_spec_l5At fu xs o h
  · exact good_spec_l5Proto fu xs o h
  · exact good_spec_l5Behind fu xs o h
  · cases h
theorem hpx_spec_l5Vip (fu : Nat) : ∀ f xs ins o, pcx_spec_l5Vip fu f xs ins = some o → ∀ y, o.x = some y → GoodX E Tryz.prog f xs ins (o.g y).1 (o.g y).2 := by
  intro f xs ins o h
  cases h
theorem goodv_spec_l5Vip (fu : Nat) (c_0 : S_impl_Config) (at_1 : Int) (y : Int) (hy : F_spec_l5Vip fu c_0 at_1 = some y) : Good E Tryz.prog 91 [(.rptr [(.int .i64 c_0.Version), (.rs c_0.Backends.z .impl_Backend c_0.Backends.n c_0.Backends.f), (.rs c_0.Vips.z .impl_Vip c_0.Vips.n c_0.Vips.f)]), (.int .i64 at_1)] (enc_i64 y) :=
  fun_good E_ok (pc_good (pc := pc_spec_l5Vip fu) (hpc_spec_l5Vip fu) (hpx_spec_l5Vip fu)) (fn := Tryz.f91) (c := body_spec_l5Vip) (out := out_i64) (y := y) (by kernel_rfl) (by kernel_rfl) (by kernel_rfl) (lpok_spec_l5Vip fu) (fun d hd => out_i64_enc d _ hd) ((ev_spec_l5Vip fu c_0 at_1).trans hy)
theorem good_spec_l5Vip (fu : Nat) : ∀ xs o, S_spec_l5Vip fu xs = some o → ∀ y, o.x = some y → Good E Tryz.prog 91 xs (o.g y) := by
  intro xs o h y hy
  unfold S_spec_l5Vip at h
  split at h
  · rename_i a0_1 za0_2 na0_2 fa0_2 za0_3 na0_3 fa0_3 ra0 a1_0
    cases h
    exact (goodv_spec_l5Vip fu (⟨a0_1, (⟨za0_2, na0_2, fa0_2⟩ : (Sl S_impl_Backend)), (⟨za0_3, na0_3, fa0_3⟩ : (Sl S_impl_Vip))⟩ : S_impl_Config) a1_0 y hy).sub ⟨Sub.of_eq ra0 rfl, .refl _, trivial⟩
  · cases h

/-! spec.l5Fault -/
def F_spec_l5Fault_B0 {ρ : Type} (fu : Nat) (c0_0 : Int) (c0_1 : (Sl S_impl_Backend)) (c0_2 : (Sl S_impl_Vip)) (k0 : Option ρ) (k1 : Option ρ) (k2 : Option ρ) (i3_3 : Int) (go : Int → Option ρ) : Option ρ :=
  (bif (decide (i3_3 < ((c0_1.n : Nat) : Int))) then ((bif (decide (0 ≤ i3_3) && decide ((Int.toNat i3_3) < c0_1.n)) then some () else none : Option Unit).bind fun _ =>
    ((F_spec_l5Backend fu (c0_1.f (Int.toNat i3_3))).bind fun y82 => (bif (!y82) then k0 else (((bif (decide (i3_3 > 0)) then ((bif (decide (0 ≤ i3_3) && decide ((Int.toNat i3_3) < c0_1.n)) then
    some () else none : Option Unit).bind fun _ => ((bif (decide (0 ≤ (IntKind.wrap .i64 (i3_3 - 1))) && decide ((Int.toNat (IntKind.wrap .i64 (i3_3 - 1))) < c0_1.n)) then some () else
    none : Option Unit).bind fun _ => (some (decide ((c0_1.f (Int.toNat i3_3)).Name ≤ (c0_1.f (Int.toNat (IntKind.wrap .i64 (i3_3 - 1)))).Name))))) else (some false)) : Option Bool).bind fun m83 =>
    (bif m83 then k1 else (go (IntKind.wrap .i64 (i3_3 + 1)))))))) else k2)
def F_spec_l5Fault_B2 {ρ : Type} (fu : Nat) (c0_0 : Int) (c0_1 : (Sl S_impl_Backend)) (c0_2 : (Sl S_impl_Vip)) (k0 : Int → Option ρ) (k1 : Option ρ) (i4_3 : Int) (go : Int → Option ρ) : Option ρ :=
  (bif (decide (i4_3 < ((c0_2.n : Nat) : Int))) then ((F_spec_l5Vip fu (⟨c0_0, c0_1, c0_2⟩ : S_impl_Config) i4_3).bind fun y84 => (bif (y84 != 0) then (k0 y84) else (go (IntKind.wrap .i64 (i4_3 + 1))))) else
    k1)
def F_spec_l5Fault (fu : Nat) (c_0 : S_impl_Config) : Option (Int) :=
  ((F_spec_l5Version fu c_0.Version).bind fun y80 => (bif (!y80) then (some 3) else (((bif (decide (((c_0.Backends.n : Nat) : Int) > 8)) then (some true) else (some (decide (((c_0.Vips.n : Nat) : Int) > 4)))) : Option Bool).bind fun m81 =>
    (bif m81 then (some 2) else (L (fun w0 go0 => F_spec_l5Fault_B0 fu c_0.Version c_0.Backends c_0.Vips (some 3) (some 1) (L (fun w2 go2 => F_spec_l5Fault_B2 fu c_0.Version c_0.Backends c_0.Vips (fun z85 =>
    (some z85)) (some 0) w2 go2) fu (0 : Int)) w0 go0) fu (0 : Int))))))
def pcf_spec_l5Fault (fu : Nat) (f : Nat) (xs : List (D RT den)) : Option (Out RT den) := match f with | 89 => S_spec_l5Version fu xs | 90 => S_spec_l5Backend fu xs | 91 => S_spec_l5Vip fu xs | _ => none
def pcx_spec_l5Fault (fu : Nat) (f : Nat) (xs : List (D RT den)) (ins : List (Ob RT den)) : Option (OutX RT den) := none
def pc_spec_l5Fault (fu : Nat) : Pc RT den := ⟨pcf_spec_l5Fault fu, fun _ => false, fun _ => false, pcx_spec_l5Fault fu⟩
def msk_spec_l5Fault (b : Nat) : List Nat := match b with | 0 => [1, 2, 4, 5, 6, 7, 8, 9, 10, 11, 12, 13, 14, 15, 16, 17, 18, 19, 20, 21, 22, 23, 24, 25, 26, 27, 28, 29, 30, 31, 32, 33, 34, 35, 36, 37, 38, 39, 40, 41, 42, 43, 44, 45, 46, 47, 48, 49, 50, 51, 52, 53, 54, 55, 56, 57, 58, 59, 60, 61, 62, 63, 64, 65, 66, 67, 68, 69, 70, 71, 72, 73, 74, 75, 76, 77, 78, 79, 80] | 100000 => [1, 3, 4, 5, 6, 7, 8, 9, 10, 11, 12, 13, 14, 15, 16, 17, 18, 19, 20, 21, 22, 23, 24, 25, 26, 27, 28, 29, 30, 31, 32, 33, 34, 35, 36, 37, 38, 39, 40, 41, 42, 43, 44, 45, 46, 47, 48, 49, 50, 51, 52, 53, 54, 55, 56, 57, 58, 59, 60, 61, 62, 63, 64, 65, 66, 67, 68, 69, 70, 71, 72, 73, 74, 75, 76, 77, 78, 79, 80] | 2 => [1, 2, 3, 5, 6, 7, 8, 9, 10, 11, 12, 13, 14, 15, 16, 17, 18, 19, 20, 21, 22, 23, 24, 25, 26, 27, 28, 29, 30, 31, 32, 33, 34, 35, 36, 37, 38, 39, 40, 41, 42, 43, 44, 45, 46, 47, 48, 49, 50, 51, 52, 53, 54, 55, 56, 57, 58, 59, 60, 61, 62, 63, 64, 65, 66, 67, 68, 69, 70, 71, 72, 73, 74, 75, 76, 77, 78, 79, 80] | 100002 => [0, 1, 3, 4, 5, 6, 7, 8, 9, 10, 11, 12, 13, 14, 15, 16, 17, 18, 19, 20, 21, 22, 23, 24, 25, 26, 27, 28, 29, 30, 31, 32, 33, 34, 35, 36, 37, 38, 39, 40, 41, 42, 43, 44, 45, 46, 47, 48, 49, 50, 51, 52, 53, 54, 55, 56, 57, 58, 59, 60, 61, 62, 63, 64, 65, 66, 67, 68, 69, 70, 71, 72, 73, 74, 75, 76, 77, 78, 79, 80] | 200003 => [25] | 200010 => [65] | _ => []
def ps_spec_l5Fault_0 : List (Pat RT) := [.rptr [(.int .i64), (.rs .impl_Backend), (.rs .impl_Vip)], .flat .dead, .flat .dead, .flat (.int .i64), .flat .dead, .flat .dead, .flat .dead, .flat .dead, .flat .dead, .flat .dead, .flat .dead, .flat .dead, .flat .dead, .flat .dead, .flat .dead, .flat .dead, .flat .dead, .flat .dead, .flat .dead, .flat .dead, .flat .dead, .flat .dead, .flat .dead, .flat .dead, .flat .dead, .flat .dead, .flat .dead, .flat .dead, .flat .dead, .flat .dead, .flat .dead, .flat .dead, .flat .dead, .flat .dead, .flat .dead, .flat .dead, .flat .dead, .flat .dead, .flat .dead, .flat .dead, .flat .dead, .flat .dead, .flat .dead, .flat .dead, .flat .dead, .flat .dead, .flat .dead, .flat .dead, .flat .dead, .flat .dead, .flat .dead, .flat .dead, .flat .dead, .flat .dead, .flat .dead, .flat .dead, .flat .dead, .flat .dead, .flat .dead, .flat .dead, .flat .dead, .flat .dead, .flat .dead, .flat .dead, .flat .dead, .flat .dead, .flat .dead, .flat .dead, .flat .dead, .flat .dead, .flat .dead, .flat .dead, .flat .dead, .flat .dead, .flat .dead, .flat .dead, .flat .dead, .flat .dead, .flat .dead, .flat .dead, .flat .dead]
def os_spec_l5Fault_0 : List (OP RT) := []
def conv_spec_l5Fault_0 (r : Raw den ps_spec_l5Fault_0 os_spec_l5Fault_0) : (Int × (Sl S_impl_Backend) × (Sl S_impl_Vip)) × (Int) := ((r.1.1.1, r.1.1.2.1, r.1.1.2.2.1), r.1.2.2.2.1)
def back_spec_l5Fault_0 (c : Int × (Sl S_impl_Backend) × (Sl S_impl_Vip)) (w : Int) : St RT den := ⟨[(.rptr [(.int .i64 c.1), (.rs c.2.1.z .impl_Backend c.2.1.n c.2.1.f), (.rs c.2.2.z .impl_Vip c.2.2.n c.2.2.f)]), .dead, .dead, (.int .i64 w), .dead, .dead, .dead, .dead, .dead, .dead, .dead, .dead, .dead, .dead, .dead, .dead, .dead, .dead, .dead, .dead, .dead, .dead, .dead, .dead, .dead, .dead, .dead, .dead, .dead, .dead, .dead, .dead, .dead, .dead, .dead, .dead, .dead, .dead, .dead, .dead, .dead, .dead, .dead, .dead, .dead, .dead, .dead, .dead, .dead, .dead, .dead, .dead, .dead, .dead, .dead, .dead, .dead, .dead, .dead, .dead, .dead, .dead, .dead, .dead, .dead, .dead, .dead, .dead, .dead, .dead, .dead, .dead, .dead, .dead, .dead, .dead, .dead, .dead, .dead, .dead, .dead], []⟩
def Bk_spec_l5Fault_0 {ρ : Type} (fu : Nat) (c : Int × (Sl S_impl_Backend) × (Sl S_impl_Vip)) (k : Ex → St RT den → Option ρ) (w : Int) (go : (Int) → Option ρ) : Option ρ := F_spec_l5Fault_B0 fu c.1 c.2.1 c.2.2 (k .ret ⟨[(.rptr [(.int .i64 c.1), (.rs c.2.1.z .impl_Backend c.2.1.n c.2.1.f), (.rs c.2.2.z .impl_Vip c.2.2.n c.2.2.f)]), .dead, (.int .i64 3), .dead, .dead, .dead, .dead, .dead, .dead, .dead, .dead, .dead, .dead, .dead, .dead, .dead, .dead, .dead, .dead, .dead, .dead, .dead, .dead, .dead, .dead, .dead, .dead, .dead, .dead, .dead, .dead, .dead, .dead, .dead, .dead, .dead, .dead, .dead, .dead, .dead, .dead, .dead, .dead, .dead, .dead, .dead, .dead, .dead, .dead, .dead, .dead, .dead, .dead, .dead, .dead, .dead, .dead, .dead, .dead, .dead, .dead, .dead, .dead, .dead, .dead, .dead, .dead, .dead, .dead, .dead, .dead, .dead, .dead, .dead, .dead, .dead, .dead, .dead, .dead, .dead, .dead], []⟩) (k .ret ⟨[(.rptr [(.int .i64 c.1), (.rs c.2.1.z .impl_Backend c.2.1.n c.2.1.f), (.rs c.2.2.z .impl_Vip c.2.2.n c.2.2.f)]), .dead, (.int .i64 1), .dead, .dead, .dead, .dead, .dead, .dead, .dead, .dead, .dead, .dead, .dead, .dead, .dead, .dead, .dead, .dead, .dead, .dead, .dead, .dead, .dead, .dead, .dead, .dead, .dead, .dead, .dead, .dead, .dead, .dead, .dead, .dead, .dead, .dead, .dead, .dead, .dead, .dead, .dead, .dead, .dead, .dead, .dead, .dead, .dead, .dead, .dead, .dead, .dead, .dead, .dead, .dead, .dead, .dead, .dead, .dead, .dead, .dead, .dead, .dead, .dead, .dead, .dead, .dead, .dead, .dead, .dead, .dead, .dead, .dead, .dead, .dead, .dead, .dead, .dead, .dead, .dead, .dead], []⟩) (k (.exit 0) ⟨[(.rptr [(.int .i64 c.1), (.rs c.2.1.z .impl_Backend c.2.1.n c.2.1.f), (.rs c.2.2.z .impl_Vip c.2.2.n c.2.2.f)]), .dead, .dead, .dead, .dead, .dead, .dead, .dead, .dead, .dead, .dead, .dead, .dead, .dead, .dead, .dead, .dead, .dead, .dead, .dead, .dead, .dead, .dead, .dead, .dead, .dead, .dead, .dead, .dead, .dead, .dead, .dead, .dead, .dead, .dead, .dead, .dead, .dead, .dead, .dead, .dead, .dead, .dead, .dead, .dead, .dead, .dead, .dead, .dead, .dead, .dead, .dead, .dead, .dead, .dead, .dead, .dead, .dead, .dead, .dead, .dead, .dead, .dead, .dead, .dead, .dead, .dead, .dead, .dead, .dead, .dead, .dead, .dead, .dead, .dead, .dead, .dead, .dead, .dead, .dead, .dead], []⟩) w go
def ps_spec_l5Fault_2 : List (Pat RT) := [.rptr [(.int .i64), (.rs .impl_Backend), (.rs .impl_Vip)], .flat .dead, .flat .dead, .flat .dead, .flat (.int .i64), .flat .dead, .flat .dead, .flat .dead, .flat .dead, .flat .dead, .flat .dead, .flat .dead, .flat .dead, .flat .dead, .flat .dead, .flat .dead, .flat .dead, .flat .dead, .flat .dead, .flat .dead, .flat .dead, .flat .dead, .flat .dead, .flat .dead, .flat .dead, .flat .dead, .flat .dead, .flat .dead, .flat .dead, .flat .dead, .flat .dead, .flat .dead, .flat .dead, .flat .dead, .flat .dead, .flat .dead, .flat .dead, .flat .dead, .flat .dead, .flat .dead, .flat .dead, .flat .dead, .flat .dead, .flat .dead, .flat .dead, .flat .dead, .flat .dead, .flat .dead, .flat .dead, .flat .dead, .flat .dead, .flat .dead, .flat .dead, .flat .dead, .flat .dead, .flat .dead, .flat .dead, .flat .dead, .flat .dead, .flat .dead, .flat .dead, .flat .dead, .flat .dead, .flat .dead, .flat .dead, .flat .dead, .flat .dead, .flat .dead, .flat .dead, .flat .dead, .flat .dead, .flat .dead, .flat .dead, .flat .dead, .flat .dead, .flat .dead, .flat .dead, .flat .dead, .flat .dead, .flat .dead, .flat .dead]
def os_spec_l5Fault_2 : List (OP RT) := []
def conv_spec_l5Fault_2 (r : Raw den ps_spec_l5Fault_2 os_spec_l5Fault_2) : (Int × (Sl S_impl_Backend) × (Sl S_impl_Vip)) × (Int) := ((r.1.1.1, r.1.1.2.1, r.1.1.2.2.1), r.1.2.2.2.2.1)
def back_spec_l5Fault_2 (c : Int × (Sl S_impl_Backend) × (Sl S_impl_Vip)) (w : Int) : St RT den := ⟨[(.rptr [(.int .i64 c.1), (.rs c.2.1.z .impl_Backend c.2.1.n c.2.1.f), (.rs c.2.2.z .impl_Vip c.2.2.n c.2.2.f)]), .dead, .dead, .dead, (.int .i64 w), .dead, .dead, .dead, .dead, .dead, .dead, .dead, .dead, .dead, .dead, .dead, .dead, .dead, .dead, .dead, .dead, .dead, .dead, .dead, .dead, .dead, .dead, .dead, .dead, .dead, .dead, .dead, .dead, .dead, .dead, .dead, .dead, .dead, .dead, .dead, .dead, .dead, .dead, .dead, .dead, .dead, .dead, .dead, .dead, .dead, .dead, .dead, .dead, .dead, .dead, .dead, .dead, .dead, .dead, .dead, .dead, .dead, .dead, .dead, .dead, .dead, .dead, .dead, .dead, .dead, .dead, .dead, .dead, .dead, .dead, .dead, .dead, .dead, .dead, .dead, .dead], []⟩
def Bk_spec_l5Fault_2 {ρ : Type} (fu : Nat) (c : Int × (Sl S_impl_Backend) × (Sl S_impl_Vip)) (k : Ex → St RT den → Option ρ) (w : Int) (go : (Int) → Option ρ) : Option ρ := F_spec_l5Fault_B2 fu c.1 c.2.1 c.2.2 (fun a0 => k .ret ⟨[.dead, .dead, (.int .i64 a0), .dead, .dead, .dead, .dead, .dead, .dead, .dead, .dead, .dead, .dead, .dead, .dead, .dead, .dead, .dead, .dead, .dead, .dead, .dead, .dead, .dead, .dead, .dead, .dead, .dead, .dead, .dead, .dead, .dead, .dead, .dead, .dead, .dead, .dead, .dead, .dead, .dead, .dead, .dead, .dead, .dead, .dead, .dead, .dead, .dead, .dead, .dead, .dead, .dead, .dead, .dead, .dead, .dead, .dead, .dead, .dead, .dead, .dead, .dead, .dead, .dead, .dead, .dead, .dead, .dead, .dead, .dead, .dead, .dead, .dead, .dead, .dead, .dead, .dead, .dead, .dead, .dead, .dead], []⟩) (k (.exit 2) ⟨[.dead, .dead, .dead, .dead, .dead, .dead, .dead, .dead, .dead, .dead, .dead, .dead, .dead, .dead, .dead, .dead, .dead, .dead, .dead, .dead, .dead, .dead, .dead, .dead, .dead, .dead, .dead, .dead, .dead, .dead, .dead, .dead, .dead, .dead, .dead, .dead, .dead, .dead, .dead, .dead, .dead, .dead, .dead, .dead, .dead, .dead, .dead, .dead, .dead, .dead, .dead, .dead, .dead, .dead, .dead, .dead, .dead, .dead, .dead, .dead, .dead, .dead, .dead, .dead, .dead, .dead, .dead, .dead, .dead, .dead, .dead, .dead, .dead, .dead, .dead, .dead, .dead, .dead, .dead, .dead, .dead], []⟩) w go
def lp_spec_l5Fault (fu : Nat) : Lp RT den (Int) := fun b s k => match b with | 0 => handle ps_spec_l5Fault_0 os_spec_l5Fault_0 conv_spec_l5Fault_0 (Bk_spec_l5Fault_0 fu) fu s k | 2 => handle ps_spec_l5Fault_2 os_spec_l5Fault_2 conv_spec_l5Fault_2 (Bk_spec_l5Fault_2 fu) fu s k | _ => none
theorem ev_spec_l5Fault (fu : Nat) (c_0 : S_impl_Config) : evFun E (pc_spec_l5Fault fu) msk_spec_l5Fault (lp_spec_l5Fault fu) out_i64 65 [(.rptr [(.int .i64 c_0.Version), (.rs c_0.Backends.z .impl_Backend c_0.Backends.n c_0.Backends.f), (.rs c_0.Vips.z .impl_Vip c_0.Vips.n c_0.Vips.f)])] = F_spec_l5Fault fu c_0 := by kernel_rfl
noncomputable def body_spec_l5Fault : Code := Tryz.f65.body.getD .skip
noncomputable def lc_spec_l5Fault_0 : Code := ((loops 0 body_spec_l5Fault).getD 0 (0, .skip)).2
theorem round_spec_l5Fault_0 (fu : Nat) (it : St RT den → Option (Int)) (k : Ex → St RT den → Option (Int)) c w : evCode E (pc_spec_l5Fault fu) msk_spec_l5Fault (lp_spec_l5Fault fu) 0 lc_spec_l5Fault_0 (back_spec_l5Fault_0 c w) (after (msk_spec_l5Fault 0) (msk_spec_l5Fault 100000) 0 it k) = Bk_spec_l5Fault_0 fu c k w (fun w => it (back_spec_l5Fault_0 c w)) := by kernel_rfl
theorem lpok_spec_l5Fault_0 (fu : Nat) : ∀ s k r, lp_spec_l5Fault fu 0 s k = some r → ∃ fuel, iter (msk_spec_l5Fault 0) (msk_spec_l5Fault 100000) s.objs.length (evCode E (pc_spec_l5Fault fu) msk_spec_l5Fault (lp_spec_l5Fault fu) 0 lc_spec_l5Fault_0) fuel s k = some r :=
  handle_ok (ps := ps_spec_l5Fault_0) (os := os_spec_l5Fault_0) (conv := conv_spec_l5Fault_0) (B := Bk_spec_l5Fault_0 fu) (fu := fu) back_spec_l5Fault_0 (fun raw => by kernel_rfl) 0 (fun c w => by kernel_rfl) (round_spec_l5Fault_0 fu)
noncomputable def lc_spec_l5Fault_2 : Code := ((loops 0 body_spec_l5Fault).getD 1 (0, .skip)).2
theorem round_spec_l5Fault_2 (fu : Nat) (it : St RT den → Option (Int)) (k : Ex → St RT den → Option (Int)) c w : evCode E (pc_spec_l5Fault fu) msk_spec_l5Fault (lp_spec_l5Fault fu) 2 lc_spec_l5Fault_2 (back_spec_l5Fault_2 c w) (after (msk_spec_l5Fault 2) (msk_spec_l5Fault 100002) 0 it k) = Bk_spec_l5Fault_2 fu c k w (fun w => it (back_spec_l5Fault_2 c w)) := by kernel_rfl
theorem lpok_spec_l5Fault_2 (fu : Nat) : ∀ s k r, lp_spec_l5Fault fu 2 s k = some r → ∃ fuel, iter (msk_spec_l5Fault 2) (msk_spec_l5Fault 100002) s.objs.length (evCode E (pc_spec_l5Fault fu) msk_spec_l5Fault (lp_spec_l5Fault fu) 2 lc_spec_l5Fault_2) fuel s k = some r :=
  handle_ok (ps := ps_spec_l5Fault_2) (os := os_spec_l5Fault_2) (conv := conv_spec_l5Fault_2) (B := Bk_spec_l5Fault_2 fu) (fu := fu) back_spec_l5Fault_2 (fun raw => by kernel_rfl) 0 (fun c w => by kernel_rfl) (round_spec_l5Fault_2 fu)
theorem lpok_spec_l5Fault (fu : Nat) : LpOk E (pc_spec_l5Fault fu) msk_spec_l5Fault (lp_spec_l5Fault fu) (loops 0 body_spec_l5Fault) := loop_all 2 (by kernel_rfl) fun i hi => match i, hi with
  | 0, _ => by
    have h : (loops 0 body_spec_l5Fault).getD 0 (0, .skip) = (0, lc_spec_l5Fault_0) := by kernel_rfl
    rw [h]; exact lpok_spec_l5Fault_0 fu
  | 1, _ => by
    have h : (loops 0 body_spec_l5Fault).getD 1 (0, .skip) = (2, lc_spec_l5Fault_2) := by kernel_rfl
    rw [h]; exact lpok_spec_l5Fault_2 fu
  | i + 2, hi => absurd hi (by omega)
def S_spec_l5Fault (fu : Nat) (xs : List (D RT den)) : Option (Out RT den) := match xs with | [.rptr (.int .i64 a0_1 :: .rs za0_2 .impl_Backend na0_2 fa0_2 :: .rs za0_3 .impl_Vip na0_3 fa0_3 :: ra0)] => some ⟨Int, F_spec_l5Fault fu (⟨a0_1, (⟨za0_2, na0_2, fa0_2⟩ : (Sl S_impl_Backend)), (⟨za0_3, na0_3, fa0_3⟩ : (Sl S_impl_Vip))⟩ : S_impl_Config), enc_i64, fun _ => true⟩ | _ => none
theorem hpc_spec_l5Fault (fu : Nat) : ∀ f xs o, pcf_spec_l5Fault fu f xs = some o → ∀ y, o.x = some y → Good E Tryz.prog f xs (o.g y) := by
  intro f xs o h
  unfold pcf_spec_l5Fault at h
  split at h
  · exact good_spec_l5Version fu xs o h
  · exact good_spec_l5Backend fu xs o h
  · exact good_spec_l5Vip fu xs o h
  · cases h
theorem hpx_spec_l5Fault (fu : Nat) : ∀ f xs ins o, pcx_spec_l5Fault fu f xs ins = some o → ∀ y, o.x = some y → GoodX E Tryz.prog f xs ins (o.g y).1 (o.g y).2 := by
  intro f xs ins o h
  cases h
theorem goodv_spec_l5Fault (fu : Nat) (c_0 : S_impl_Config) (y : Int) (hy : F_spec_l5Fault fu c_0 = some y) : Good E Tryz.prog 65 [(.rptr [(.int .i64 c_0.Version), (.rs c_0.Backends.z .impl_Backend c_0.Backends.n c_0.Backends.f), (.rs c_0.Vips.z .impl_Vip c_0.Vips.n c_0.Vips.f)])] (enc_i64 y) :=
  fun_good E_ok (pc_good (pc := pc_spec_l5Fault fu) (hpc_spec_l5Fault fu) (hpx_spec_l5Fault fu)) (fn := Tryz.f65) (c := body_spec_l5Fault) (out := out_i64) (y := y) (by kernel_rfl) (by kernel_rfl) (by kernel_rfl) (lpok_spec_l5Fault fu) (fun d hd => out_i64_enc d _ hd) ((ev_spec_l5Fault fu c_0).trans hy)
theorem good_spec_l5Fault (fu : Nat) : ∀ xs o, S_spec_l5Fault fu xs = some o → ∀ y, o.x = some y → Good E Tryz.prog 65 xs (o.g y) := by
  intro xs o h y hy
  unfold S_spec_l5Fault at h
  split at h
  · rename_i a0_1 za0_2 na0_2 fa0_2 za0_3 na0_3 fa0_3 ra0
    cases h
    exact (goodv_spec_l5Fault fu (⟨a0_1, (⟨za0_2, na0_2, fa0_2⟩ : (Sl S_impl_Backend)), (⟨za0_3, na0_3, fa0_3⟩ : (Sl S_impl_Vip))⟩ : S_impl_Config) y hy).sub ⟨Sub.of_eq ra0 rfl, trivial⟩
  · cases h

/-! spec.l13Empty -/
def F_spec_l13Empty (fu : Nat) (c_0 : S_impl_Config) : Option (Bool) :=
  (((bif (c_0.Version == 0) then (bif (((c_0.Backends.n : Nat) : Int) == 0) then (some (((c_0.Vips.n : Nat) : Int) == 0)) else (some false)) else (some false)) : Option Bool).bind fun m103 =>
    (some m103))
def pcf_spec_l13Empty (fu : Nat) (f : Nat) (xs : List (D RT den)) : Option (Out RT den) := none
def pcx_spec_l13Empty (fu : Nat) (f : Nat) (xs : List (D RT den)) (ins : List (Ob RT den)) : Option (OutX RT den) := none
def pc_spec_l13Empty (fu : Nat) : Pc RT den := ⟨pcf_spec_l13Empty fu, fun _ => false, fun _ => false, pcx_spec_l13Empty fu⟩
def msk_spec_l13Empty (b : Nat) : List Nat := match b with | 200001 => [2] | _ => []
def lp_spec_l13Empty (fu : Nat) : Lp RT den (Bool) := fun b s k => none
theorem ev_spec_l13Empty (fu : Nat) (c_0 : S_impl_Config) : evFun E (pc_spec_l13Empty fu) msk_spec_l13Empty (lp_spec_l13Empty fu) out_bo 66 [(.rptr [(.int .i64 c_0.Version), (.rs c_0.Backends.z .impl_Backend c_0.Backends.n c_0.Backends.f), (.rs c_0.Vips.z .impl_Vip c_0.Vips.n c_0.Vips.f)])] = F_spec_l13Empty fu c_0 := by kernel_rfl
noncomputable def body_spec_l13Empty : Code := Tryz.f66.body.getD .skip
theorem lpok_spec_l13Empty (fu : Nat) : LpOk E (pc_spec_l13Empty fu) msk_spec_l13Empty (lp_spec_l13Empty fu) (loops 0 body_spec_l13Empty) := by
  have h : loops 0 body_spec_l13Empty = [] := by kernel_rfl
  rw [h]; intro p hp; cases hp
def S_spec_l13Empty (fu : Nat) (xs : List (D RT den)) : Option (Out RT den) := match xs with | [.rptr (.int .i64 a0_1 :: .rs za0_2 .impl_Backend na0_2 fa0_2 :: .rs za0_3 .impl_Vip na0_3 fa0_3 :: ra0)] => some ⟨Bool, F_spec_l13Empty fu (⟨a0_1, (⟨za0_2, na0_2, fa0_2⟩ : (Sl S_impl_Backend)), (⟨za0_3, na0_3, fa0_3⟩ : (Sl S_impl_Vip))⟩ : S_impl_Config), enc_bo, fun _ => true⟩ | _ => none
theorem hpc_spec_l13Empty (fu : Nat) : ∀ f xs o, pcf_spec_l13Empty fu f xs = some o → ∀ y, o.x = some y → Good E Tryz.prog f xs (o.g y) := by
  intro f xs o h
  cases h
theorem hpx_spec_l13Empty (fu : Nat) : ∀ f xs ins o, pcx_spec_l13Empty fu f xs ins = some o → ∀ y, o.x = some y → GoodX E Tryz.prog f xs ins (o.g y).1 (o.g y).2 := by
  intro f xs ins o h
  cases h
theorem goodv_spec_l13Empty (fu : Nat) (c_0 : S_impl_Config) (y : Bool) (hy : F_spec_l13Empty fu c_0 = some y) : Good E Tryz.prog 66 [(.rptr [(.int .i64 c_0.Version), (.rs c_0.Backends.z .impl_Backend c_0.Backends.n c_0.Backends.f), (.rs c_0.Vips.z .impl_Vip c_0.Vips.n c_0.Vips.f)])] (enc_bo y) :=
  fun_good E_ok (pc_good (pc := pc_spec_l13Empty fu) (hpc_spec_l13Empty fu) (hpx_spec_l13Empty fu)) (fn := Tryz.f66) (c := body_spec_l13Empty) (out := out_bo) (y := y) (by kernel_rfl) (by kernel_rfl) (by kernel_rfl) (lpok_spec_l13Empty fu) (fun d hd => out_bo_enc d _ hd) ((ev_spec_l13Empty fu c_0).trans hy)
theorem good_spec_l13Empty (fu : Nat) : ∀ xs o, S_spec_l13Empty fu xs = some o → ∀ y, o.x = some y → Good E Tryz.prog 66 xs (o.g y) := by
  intro xs o h y hy
  unfold S_spec_l13Empty at h
  split at h
  · rename_i a0_1 za0_2 na0_2 fa0_2 za0_3 na0_3 fa0_3 ra0
    cases h
    exact (goodv_spec_l13Empty fu (⟨a0_1, (⟨za0_2, na0_2, fa0_2⟩ : (Sl S_impl_Backend)), (⟨za0_3, na0_3, fa0_3⟩ : (Sl S_impl_Vip))⟩ : S_impl_Config) y hy).sub ⟨Sub.of_eq ra0 rfl, trivial⟩
  · cases h

/-! spec.WatchFault -/
def F_spec_WatchFault (fu : Nat) (w_0 : S_impl_Watch) : Option (Int) :=
  ((F_spec_l5Fault fu w_0.Config).bind fun y77 => (bif (y77 != 0) then (some y77) else (((bif (!w_0.Ready) then ((F_spec_l13Empty fu w_0.Config).bind fun y78 => (some (!y78))) else
    (some false)) : Option Bool).bind fun m79 => (bif m79 then (some 1) else (some 0)))))
def pcf_spec_WatchFault (fu : Nat) (f : Nat) (xs : List (D RT den)) : Option (Out RT den) := match f with | 65 => S_spec_l5Fault fu xs | 66 => S_spec_l13Empty fu xs | _ => none
def pcx_spec_WatchFault (fu : Nat) (f : Nat) (xs : List (D RT den)) (ins : List (Ob RT den)) : Option (OutX RT den) := none
def pc_spec_WatchFault (fu : Nat) : Pc RT den := ⟨pcf_spec_WatchFault fu, fun _ => false, fun _ => false, pcx_spec_WatchFault fu⟩
def msk_spec_WatchFault (b : Nat) : List Nat := match b with | 200004 => [16] | _ => []
def lp_spec_WatchFault (fu : Nat) : Lp RT den (Int) := fun b s k => none
theorem ev_spec_WatchFault (fu : Nat) (w_0 : S_impl_Watch) : evFun E (pc_spec_WatchFault fu) msk_spec_WatchFault (lp_spec_WatchFault fu) out_i64 41 [(.agg [(.bool w_0.Ready), (.int .i64 w_0.Config.Version), (.rs w_0.Config.Backends.z .impl_Backend w_0.Config.Backends.n w_0.Config.Backends.f), (.rs w_0.Config.Vips.z .impl_Vip w_0.Config.Vips.n w_0.Config.Vips.f)])] = F_spec_WatchFault fu w_0 := by kernel_rfl
noncomputable def body_spec_WatchFault : Code := Tryz.f41.body.getD .skip
theorem lpok_spec_WatchFault (fu : Nat) : LpOk E (pc_spec_WatchFault fu) msk_spec_WatchFault (lp_spec_WatchFault fu) (loops 0 body_spec_WatchFault) := by
  have h : loops 0 body_spec_WatchFault = [] := by kernel_rfl
  rw [h]; intro p hp; cases hp
def S_spec_WatchFault (fu : Nat) (xs : List (D RT den)) : Option (Out RT den) := match xs with | [.agg [.bool a0_1, .int .i64 a0_3, .rs za0_4 .impl_Backend na0_4 fa0_4, .rs za0_5 .impl_Vip na0_5 fa0_5]] => some ⟨Int, F_spec_WatchFault fu (⟨a0_1, (⟨a0_3, (⟨za0_4, na0_4, fa0_4⟩ : (Sl S_impl_Backend)), (⟨za0_5, na0_5, fa0_5⟩ : (Sl S_impl_Vip))⟩ : S_impl_Config)⟩ : S_impl_Watch), enc_i64, fun _ => true⟩ | _ => none
theorem hpc_spec_WatchFault (fu : Nat) : ∀ f xs o, pcf_spec_WatchFault fu f xs = some o → ∀ y, o.x = some y → Good E Tryz.prog f xs (o.g y) := by
  intro f xs o h
  unfold pcf_spec_WatchFault at h
  split at h
  · exact good_spec_l5Fault fu xs o h
  · exact good_spec_l13Empty fu xs o h
  · cases h
theorem hpx_spec_WatchFault (fu : Nat) : ∀ f xs ins o, pcx_spec_WatchFault fu f xs ins = some o → ∀ y, o.x = some y → GoodX E Tryz.prog f xs ins (o.g y).1 (o.g y).2 := by
  intro f xs ins o h
  cases h
theorem goodv_spec_WatchFault (fu : Nat) (w_0 : S_impl_Watch) (y : Int) (hy : F_spec_WatchFault fu w_0 = some y) : Good E Tryz.prog 41 [(.agg [(.bool w_0.Ready), (.int .i64 w_0.Config.Version), (.rs w_0.Config.Backends.z .impl_Backend w_0.Config.Backends.n w_0.Config.Backends.f), (.rs w_0.Config.Vips.z .impl_Vip w_0.Config.Vips.n w_0.Config.Vips.f)])] (enc_i64 y) :=
  fun_good E_ok (pc_good (pc := pc_spec_WatchFault fu) (hpc_spec_WatchFault fu) (hpx_spec_WatchFault fu)) (fn := Tryz.f41) (c := body_spec_WatchFault) (out := out_i64) (y := y) (by kernel_rfl) (by kernel_rfl) (by kernel_rfl) (lpok_spec_WatchFault fu) (fun d hd => out_i64_enc d _ hd) ((ev_spec_WatchFault fu w_0).trans hy)
theorem good_spec_WatchFault (fu : Nat) : ∀ xs o, S_spec_WatchFault fu xs = some o → ∀ y, o.x = some y → Good E Tryz.prog 41 xs (o.g y) := by
  intro xs o h y hy
  unfold S_spec_WatchFault at h
  split at h
  · rename_i a0_1 a0_3 za0_4 na0_4 fa0_4 za0_5 na0_5 fa0_5
    cases h
    exact goodv_spec_WatchFault fu (⟨a0_1, (⟨a0_3, (⟨za0_4, na0_4, fa0_4⟩ : (Sl S_impl_Backend)), (⟨za0_5, na0_5, fa0_5⟩ : (Sl S_impl_Vip))⟩ : S_impl_Config)⟩ : S_impl_Watch) y hy
  · cases h
end Go.Proofs.YtmgndndkkeinfaaGreat.Pc
