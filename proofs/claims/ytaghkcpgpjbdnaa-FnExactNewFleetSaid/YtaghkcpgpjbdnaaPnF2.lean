/- The functions' evaluated forms, each a proved summary. Conditions: none. -/
import Derived.Test.YtaghkcpgpjbdnaaPnF1
namespace Go.Proofs.Ytaghkcpgpjbdnaa.Pn
open Go Go.RowKit Go.Proofs Vm
set_option linter.unusedVariables false
set_option linter.unusedSimpArgs false
set_option maxRecDepth 100000
/-! laws.eqHeldS -/
def F_laws_eqHeldS_B0 {ρ : Type} (fu : Nat) (a0_0 : (Sl S_impl_Held)) (b1_1 : (Sl S_impl_Held)) (k0 : Option ρ) (k1 : Option ρ) (i5_2 : Int) (go : Int → Option ρ) : Option ρ :=
  (bif (decide (i5_2 < ((a0_0.n : Nat) : Int))) then ((bif (decide (0 ≤ i5_2) && decide ((Int.toNat i5_2) < a0_0.n)) then some () else none : Option Unit).bind fun _ => ((bif (decide (0 ≤ i5_2) &&
    decide ((Int.toNat i5_2) < b1_1.n)) then some () else none : Option Unit).bind fun _ => ((F_laws_eqHeld fu (a0_0.f (Int.toNat i5_2)) (b1_1.f (Int.toNat i5_2))).bind fun y70 =>
    (bif (!y70) then k0 else (go (IntKind.wrap .i64 (i5_2 + 1))))))) else k1)
def F_laws_eqHeldS (fu : Nat) (a_0 : (Sl S_impl_Held)) (b_1 : (Sl S_impl_Held)) : Option (Bool) :=
  (bif (((a_0.n : Nat) : Int) != ((b_1.n : Nat) : Int)) then (some false) else (L (fun w0 go0 => F_laws_eqHeldS_B0 fu a_0 b_1 (some false) (some true) w0 go0) fu (0 : Int)))
def pcf_laws_eqHeldS (fu : Nat) (f : Nat) (xs : List (D RT den)) : Option (Out RT den) := match f with | 48 => S_laws_eqHeld fu xs | _ => none
def pcx_laws_eqHeldS (fu : Nat) (f : Nat) (xs : List (D RT den)) (ins : List (Ob RT den)) : Option (OutX RT den) := none
def pc_laws_eqHeldS (fu : Nat) : Pc RT den := ⟨pcf_laws_eqHeldS fu, fun _ => false, fun _ => false, pcx_laws_eqHeldS fu⟩
def msk_laws_eqHeldS (b : Nat) : List Nat := match b with | 0 => [2, 3, 4, 6, 7, 8, 9, 10, 11, 12, 13, 14, 15, 16, 17, 18, 19, 20, 21, 22, 23, 24, 25, 26] | 100000 => [0, 1, 2, 3, 5, 6, 7, 8, 9, 10, 11, 12, 13, 14, 15, 16, 17, 18, 19, 20, 21, 22, 23, 24, 25, 26] | _ => []
def ps_laws_eqHeldS_0 : List (Pat RT) := [.flat (.rs .impl_Held), .flat (.rs .impl_Held), .flat .dead, .flat .dead, .flat .dead, .flat (.int .i64), .flat .dead, .flat .dead, .flat .dead, .flat .dead, .flat .dead, .flat .dead, .flat .dead, .flat .dead, .flat .dead, .flat .dead, .flat .dead, .flat .dead, .flat .dead, .flat .dead, .flat .dead, .flat .dead, .flat .dead, .flat .dead, .flat .dead, .flat .dead, .flat .dead]
def os_laws_eqHeldS_0 : List (OP RT) := []
def conv_laws_eqHeldS_0 (r : Raw den ps_laws_eqHeldS_0 os_laws_eqHeldS_0) : ((Sl S_impl_Held) × (Sl S_impl_Held)) × (Int) := ((r.1.1, r.1.2.1), r.1.2.2.2.2.2.1)
def back_laws_eqHeldS_0 (c : (Sl S_impl_Held) × (Sl S_impl_Held)) (w : Int) : St RT den := ⟨[(.rs c.1.z .impl_Held c.1.n c.1.f), (.rs c.2.z .impl_Held c.2.n c.2.f), .dead, .dead, .dead, (.int .i64 w), .dead, .dead, .dead, .dead, .dead, .dead, .dead, .dead, .dead, .dead, .dead, .dead, .dead, .dead, .dead, .dead, .dead, .dead, .dead, .dead, .dead], []⟩
def Bk_laws_eqHeldS_0 {ρ : Type} (fu : Nat) (c : (Sl S_impl_Held) × (Sl S_impl_Held)) (k : Ex → St RT den → Option ρ) (w : Int) (go : (Int) → Option ρ) : Option ρ := F_laws_eqHeldS_B0 fu c.1 c.2 (k .ret ⟨[.dead, .dead, .dead, .dead, (.bool false), .dead, .dead, .dead, .dead, .dead, .dead, .dead, .dead, .dead, .dead, .dead, .dead, .dead, .dead, .dead, .dead, .dead, .dead, .dead, .dead, .dead, .dead], []⟩) (k (.exit 0) ⟨[.dead, .dead, .dead, .dead, .dead, .dead, .dead, .dead, .dead, .dead, .dead, .dead, .dead, .dead, .dead, .dead, .dead, .dead, .dead, .dead, .dead, .dead, .dead, .dead, .dead, .dead, .dead], []⟩) w go
def lp_laws_eqHeldS (fu : Nat) : Lp RT den (Bool) := fun b s k => match b with | 0 => handle ps_laws_eqHeldS_0 os_laws_eqHeldS_0 conv_laws_eqHeldS_0 (Bk_laws_eqHeldS_0 fu) fu s k | _ => none
theorem ev_laws_eqHeldS (fu : Nat) (a_0 : (Sl S_impl_Held)) (b_1 : (Sl S_impl_Held)) : evFun E (pc_laws_eqHeldS fu) msk_laws_eqHeldS (lp_laws_eqHeldS fu) out_bo 33 [(.rs a_0.z .impl_Held a_0.n a_0.f), (.rs b_1.z .impl_Held b_1.n b_1.f)] = F_laws_eqHeldS fu a_0 b_1 := by kernel_rfl
noncomputable def body_laws_eqHeldS : Code := Try.f33.body.getD .skip
noncomputable def lc_laws_eqHeldS_0 : Code := ((loops 0 body_laws_eqHeldS).getD 0 (0, .skip)).2
theorem round_laws_eqHeldS_0 (fu : Nat) (it : St RT den → Option (Bool)) (k : Ex → St RT den → Option (Bool)) c w : evCode E (pc_laws_eqHeldS fu) msk_laws_eqHeldS (lp_laws_eqHeldS fu) 0 lc_laws_eqHeldS_0 (back_laws_eqHeldS_0 c w) (after (msk_laws_eqHeldS 0) (msk_laws_eqHeldS 100000) 0 it k) = Bk_laws_eqHeldS_0 fu c k w (fun w => it (back_laws_eqHeldS_0 c w)) := by kernel_rfl
theorem lpok_laws_eqHeldS_0 (fu : Nat) : ∀ s k r, lp_laws_eqHeldS fu 0 s k = some r → ∃ fuel, iter (msk_laws_eqHeldS 0) (msk_laws_eqHeldS 100000) s.objs.length (evCode E (pc_laws_eqHeldS fu) msk_laws_eqHeldS (lp_laws_eqHeldS fu) 0 lc_laws_eqHeldS_0) fuel s k = some r :=
  handle_ok (ps := ps_laws_eqHeldS_0) (os := os_laws_eqHeldS_0) (conv := conv_laws_eqHeldS_0) (B := Bk_laws_eqHeldS_0 fu) (fu := fu) back_laws_eqHeldS_0 (fun raw => by kernel_rfl) 0 (fun c w => by kernel_rfl) (round_laws_eqHeldS_0 fu)
theorem lpok_laws_eqHeldS (fu : Nat) : LpOk E (pc_laws_eqHeldS fu) msk_laws_eqHeldS (lp_laws_eqHeldS fu) (loops 0 body_laws_eqHeldS) := loop_all 1 (by kernel_rfl) fun i hi => match i, hi with
  | 0, _ => by
    have h : (loops 0 body_laws_eqHeldS).getD 0 (0, .skip) = (0, lc_laws_eqHeldS_0) := by kernel_rfl
    rw [h]; exact lpok_laws_eqHeldS_0 fu
  | i + 1, hi => absurd hi (by omega)
def S_laws_eqHeldS (fu : Nat) (xs : List (D RT den)) : Option (Out RT den) := match xs with | [.rs za0_0 .impl_Held na0_0 fa0_0, .rs za1_0 .impl_Held na1_0 fa1_0] => some ⟨Bool, F_laws_eqHeldS fu (⟨za0_0, na0_0, fa0_0⟩ : (Sl S_impl_Held)) (⟨za1_0, na1_0, fa1_0⟩ : (Sl S_impl_Held)), enc_bo, fun _ => true⟩ | _ => none
theorem hpc_laws_eqHeldS (fu : Nat) : ∀ f xs o, pcf_laws_eqHeldS fu f xs = some o → ∀ y, o.x = some y → Good E Try.prog f xs (o.g y) := by
  intro f xs o h
  unfold pcf_laws_eqHeldS at h
  split at h
  · exact good_laws_eqHeld fu xs o h
  · cases h
theorem hpx_laws_eqHeldS (fu : Nat) : ∀ f xs ins o, pcx_laws_eqHeldS fu f xs ins = some o → ∀ y, o.x = some y → GoodX E Try.prog f xs ins (o.g y).1 (o.g y).2 := by
  intro f xs ins o h
  cases h
theorem goodv_laws_eqHeldS (fu : Nat) (a_0 : (Sl S_impl_Held)) (b_1 : (Sl S_impl_Held)) (y : Bool) (hy : F_laws_eqHeldS fu a_0 b_1 = some y) : Good E Try.prog 33 [(.rs a_0.z .impl_Held a_0.n a_0.f), (.rs b_1.z .impl_Held b_1.n b_1.f)] (enc_bo y) :=
  fun_good E_ok (pc_good (pc := pc_laws_eqHeldS fu) (hpc_laws_eqHeldS fu) (hpx_laws_eqHeldS fu)) (fn := Try.f33) (c := body_laws_eqHeldS) (out := out_bo) (y := y) (by kernel_rfl) (by kernel_rfl) (by kernel_rfl) (lpok_laws_eqHeldS fu) (fun d hd => out_bo_enc d _ hd) ((ev_laws_eqHeldS fu a_0 b_1).trans hy)
theorem good_laws_eqHeldS (fu : Nat) : ∀ xs o, S_laws_eqHeldS fu xs = some o → ∀ y, o.x = some y → Good E Try.prog 33 xs (o.g y) := by
  intro xs o h y hy
  unfold S_laws_eqHeldS at h
  split at h
  · rename_i za0_0 na0_0 fa0_0 za1_0 na1_0 fa1_0
    cases h
    exact goodv_laws_eqHeldS fu (⟨za0_0, na0_0, fa0_0⟩ : (Sl S_impl_Held)) (⟨za1_0, na1_0, fa1_0⟩ : (Sl S_impl_Held)) y hy
  · cases h

/-! laws.eqMux -/
def F_laws_eqMux (fu : Nat) (a_0 : S_impl_Mux) (b_1 : S_impl_Mux) : Option (Bool) :=
  (bif (a_0.Address != b_1.Address) then (some false) else (bif (a_0.Now != b_1.Now) then (some false) else ((F_laws_eqWatch fu a_0.Watch b_1.Watch).bind fun y60 => (bif (!y60) then
    (some false) else ((F_laws_eqInt64SS fu a_0.Tables b_1.Tables).bind fun y61 => (bif (!y61) then (some false) else ((F_laws_eqHeldS fu a_0.Cache b_1.Cache).bind fun y62 => (bif (!y62) then
    (some false) else (some true)))))))))
def pcf_laws_eqMux (fu : Nat) (f : Nat) (xs : List (D RT den)) : Option (Out RT den) := match f with | 31 => S_laws_eqWatch fu xs | 32 => S_laws_eqInt64SS fu xs | 33 => S_laws_eqHeldS fu xs | _ => none
def pcx_laws_eqMux (fu : Nat) (f : Nat) (xs : List (D RT den)) (ins : List (Ob RT den)) : Option (OutX RT den) := none
def pc_laws_eqMux (fu : Nat) : Pc RT den := ⟨pcf_laws_eqMux fu, fun _ => false, fun _ => false, pcx_laws_eqMux fu⟩
def msk_laws_eqMux (b : Nat) : List Nat := []
def lp_laws_eqMux (fu : Nat) : Lp RT den (Bool) := fun b s k => none
theorem ev_laws_eqMux (fu : Nat) (a_0 : S_impl_Mux) (b_1 : S_impl_Mux) : evFun E (pc_laws_eqMux fu) msk_laws_eqMux (lp_laws_eqMux fu) out_bo 19 [(.agg [(.int .i64 a_0.Address), (.int .i64 a_0.Now), (.bool a_0.Watch.Ready), (.int .i64 a_0.Watch.Config.Version), (.rs a_0.Watch.Config.Backends.z .impl_Backend a_0.Watch.Config.Backends.n a_0.Watch.Config.Backends.f), (.rs a_0.Watch.Config.Vips.z .impl_Vip a_0.Watch.Config.Vips.n a_0.Watch.Config.Vips.f), (.rs a_0.Tables.z .sl_i64 a_0.Tables.n a_0.Tables.f), (.rs a_0.Cache.z .impl_Held a_0.Cache.n a_0.Cache.f)]), (.agg [(.int .i64 b_1.Address), (.int .i64 b_1.Now), (.bool b_1.Watch.Ready), (.int .i64 b_1.Watch.Config.Version), (.rs b_1.Watch.Config.Backends.z .impl_Backend b_1.Watch.Config.Backends.n b_1.Watch.Config.Backends.f), (.rs b_1.Watch.Config.Vips.z .impl_Vip b_1.Watch.Config.Vips.n b_1.Watch.Config.Vips.f), (.rs b_1.Tables.z .sl_i64 b_1.Tables.n b_1.Tables.f), (.rs b_1.Cache.z .impl_Held b_1.Cache.n b_1.Cache.f)])] = F_laws_eqMux fu a_0 b_1 := by kernel_rfl
noncomputable def body_laws_eqMux : Code := Try.f19.body.getD .skip
theorem lpok_laws_eqMux (fu : Nat) : LpOk E (pc_laws_eqMux fu) msk_laws_eqMux (lp_laws_eqMux fu) (loops 0 body_laws_eqMux) := by
  have h : loops 0 body_laws_eqMux = [] := by kernel_rfl
  rw [h]; intro p hp; cases hp
def S_laws_eqMux (fu : Nat) (xs : List (D RT den)) : Option (Out RT den) := match xs with | [.agg [.int .i64 a0_1, .int .i64 a0_2, .bool a0_4, .int .i64 a0_6, .rs za0_7 .impl_Backend na0_7 fa0_7, .rs za0_8 .impl_Vip na0_8 fa0_8, .rs za0_9 .sl_i64 na0_9 fa0_9, .rs za0_10 .impl_Held na0_10 fa0_10], .agg [.int .i64 a1_1, .int .i64 a1_2, .bool a1_4, .int .i64 a1_6, .rs za1_7 .impl_Backend na1_7 fa1_7, .rs za1_8 .impl_Vip na1_8 fa1_8, .rs za1_9 .sl_i64 na1_9 fa1_9, .rs za1_10 .impl_Held na1_10 fa1_10]] => some ⟨Bool, F_laws_eqMux fu (⟨a0_1, a0_2, (⟨a0_4, (⟨a0_6, (⟨za0_7, na0_7, fa0_7⟩ : (Sl S_impl_Backend)), (⟨za0_8, na0_8, fa0_8⟩ : (Sl S_impl_Vip))⟩ : S_impl_Config)⟩ : S_impl_Watch), (⟨za0_9, na0_9, fa0_9⟩ : (Sl (Sl Int))), (⟨za0_10, na0_10, fa0_10⟩ : (Sl S_impl_Held))⟩ : S_impl_Mux) (⟨a1_1, a1_2, (⟨a1_4, (⟨a1_6, (⟨za1_7, na1_7, fa1_7⟩ : (Sl S_impl_Backend)), (⟨za1_8, na1_8, fa1_8⟩ : (Sl S_impl_Vip))⟩ : S_impl_Config)⟩ : S_impl_Watch), (⟨za1_9, na1_9, fa1_9⟩ : (Sl (Sl Int))), (⟨za1_10, na1_10, fa1_10⟩ : (Sl S_impl_Held))⟩ : S_impl_Mux), enc_bo, fun _ => true⟩ | _ => none
theorem hpc_laws_eqMux (fu : Nat) : ∀ f xs o, pcf_laws_eqMux fu f xs = some o → ∀ y, o.x = some y → Good E Try.prog f xs (o.g y) := by
  intro f xs o h
  unfold pcf_laws_eqMux at h
  split at h
  · exact good_laws_eqWatch fu xs o h
  · exact good_laws_eqInt64SS fu xs o h
  · exact good_laws_eqHeldS fu xs o h
  · cases h
theorem hpx_laws_eqMux (fu : Nat) : ∀ f xs ins o, pcx_laws_eqMux fu f xs ins = some o → ∀ y, o.x = some y → GoodX E Try.prog f xs ins (o.g y).1 (o.g y).2 := by
  intro f xs ins o h
  cases h
theorem goodv_laws_eqMux (fu : Nat) (a_0 : S_impl_Mux) (b_1 : S_impl_Mux) (y : Bool) (hy : F_laws_eqMux fu a_0 b_1 = some y) : Good E Try.prog 19 [(.agg [(.int .i64 a_0.Address), (.int .i64 a_0.Now), (.bool a_0.Watch.Ready), (.int .i64 a_0.Watch.Config.Version), (.rs a_0.Watch.Config.Backends.z .impl_Backend a_0.Watch.Config.Backends.n a_0.Watch.Config.Backends.f), (.rs a_0.Watch.Config.Vips.z .impl_Vip a_0.Watch.Config.Vips.n a_0.Watch.Config.Vips.f), (.rs a_0.Tables.z .sl_i64 a_0.Tables.n a_0.Tables.f), (.rs a_0.Cache.z .impl_Held a_0.Cache.n a_0.Cache.f)]), (.agg [(.int .i64 b_1.Address), (.int .i64 b_1.Now), (.bool b_1.Watch.Ready), (.int .i64 b_1.Watch.Config.Version), (.rs b_1.Watch.Config.Backends.z .impl_Backend b_1.Watch.Config.Backends.n b_1.Watch.Config.Backends.f), (.rs b_1.Watch.Config.Vips.z .impl_Vip b_1.Watch.Config.Vips.n b_1.Watch.Config.Vips.f), (.rs b_1.Tables.z .sl_i64 b_1.Tables.n b_1.Tables.f), (.rs b_1.Cache.z .impl_Held b_1.Cache.n b_1.Cache.f)])] (enc_bo y) :=
  fun_good E_ok (pc_good (pc := pc_laws_eqMux fu) (hpc_laws_eqMux fu) (hpx_laws_eqMux fu)) (fn := Try.f19) (c := body_laws_eqMux) (out := out_bo) (y := y) (by kernel_rfl) (by kernel_rfl) (by kernel_rfl) (lpok_laws_eqMux fu) (fun d hd => out_bo_enc d _ hd) ((ev_laws_eqMux fu a_0 b_1).trans hy)
theorem good_laws_eqMux (fu : Nat) : ∀ xs o, S_laws_eqMux fu xs = some o → ∀ y, o.x = some y → Good E Try.prog 19 xs (o.g y) := by
  intro xs o h y hy
  unfold S_laws_eqMux at h
  split at h
  · rename_i a0_1 a0_2 a0_4 a0_6 za0_7 na0_7 fa0_7 za0_8 na0_8 fa0_8 za0_9 na0_9 fa0_9 za0_10 na0_10 fa0_10 a1_1 a1_2 a1_4 a1_6 za1_7 na1_7 fa1_7 za1_8 na1_8 fa1_8 za1_9 na1_9 fa1_9 za1_10 na1_10 fa1_10
    cases h
    exact goodv_laws_eqMux fu (⟨a0_1, a0_2, (⟨a0_4, (⟨a0_6, (⟨za0_7, na0_7, fa0_7⟩ : (Sl S_impl_Backend)), (⟨za0_8, na0_8, fa0_8⟩ : (Sl S_impl_Vip))⟩ : S_impl_Config)⟩ : S_impl_Watch), (⟨za0_9, na0_9, fa0_9⟩ : (Sl (Sl Int))), (⟨za0_10, na0_10, fa0_10⟩ : (Sl S_impl_Held))⟩ : S_impl_Mux) (⟨a1_1, a1_2, (⟨a1_4, (⟨a1_6, (⟨za1_7, na1_7, fa1_7⟩ : (Sl S_impl_Backend)), (⟨za1_8, na1_8, fa1_8⟩ : (Sl S_impl_Vip))⟩ : S_impl_Config)⟩ : S_impl_Watch), (⟨za1_9, na1_9, fa1_9⟩ : (Sl (Sl Int))), (⟨za1_10, na1_10, fa1_10⟩ : (Sl S_impl_Held))⟩ : S_impl_Mux) y hy
  · cases h

/-! laws.eqMuxS -/
def F_laws_eqMuxS_B0 {ρ : Type} (fu : Nat) (a0_0 : (Sl S_impl_Mux_0)) (b1_1 : (Sl S_impl_Mux_0)) (k0 : Option ρ) (k1 : Option ρ) (i5_2 : Int) (go : Int → Option ρ) : Option ρ :=
  (bif (decide (i5_2 < ((a0_0.n : Nat) : Int))) then ((bif (decide (0 ≤ i5_2) && decide ((Int.toNat i5_2) < a0_0.n)) then some () else none : Option Unit).bind fun _ => ((bif (decide (0 ≤ i5_2) &&
    decide ((Int.toNat i5_2) < b1_1.n)) then some () else none : Option Unit).bind fun _ => ((F_laws_eqMux fu (⟨(a0_0.f (Int.toNat i5_2)).Address, (a0_0.f (Int.toNat i5_2)).Now,
    (⟨(a0_0.f (Int.toNat i5_2)).Watch_Ready, (⟨(a0_0.f (Int.toNat i5_2)).Watch_Config_Version, (⟨(some true), 0, (fun _ => dflt .impl_Backend)⟩ : (Sl S_impl_Backend)), (⟨(some true),
    0, (fun _ => dflt .impl_Vip)⟩ : (Sl S_impl_Vip))⟩ : S_impl_Config)⟩ : S_impl_Watch), (⟨(some true), 0, (fun _ => dflt .sl_i64)⟩ : (Sl (Sl Int))), (⟨(some true), 0, (fun _ =>
    dflt .impl_Held)⟩ : (Sl S_impl_Held))⟩ : S_impl_Mux) (⟨(b1_1.f (Int.toNat i5_2)).Address, (b1_1.f (Int.toNat i5_2)).Now, (⟨(b1_1.f (Int.toNat i5_2)).Watch_Ready, (⟨(b1_1.f (Int.toNat i5_2)).Watch_Config_Version,
    (⟨(some true), 0, (fun _ => dflt .impl_Backend)⟩ : (Sl S_impl_Backend)), (⟨(some true), 0, (fun _ => dflt .impl_Vip)⟩ : (Sl S_impl_Vip))⟩ : S_impl_Config)⟩ : S_impl_Watch),
    (⟨(some true), 0, (fun _ => dflt .sl_i64)⟩ : (Sl (Sl Int))), (⟨(some true), 0, (fun _ => dflt .impl_Held)⟩ : (Sl S_impl_Held))⟩ : S_impl_Mux)).bind fun y59 => (bif (!y59) then
    k0 else (go (IntKind.wrap .i64 (i5_2 + 1))))))) else k1)
def F_laws_eqMuxS (fu : Nat) (a_0 : (Sl S_impl_Mux_0)) (b_1 : (Sl S_impl_Mux_0)) : Option (Bool) :=
  (bif (((a_0.n : Nat) : Int) != ((b_1.n : Nat) : Int)) then (some false) else (L (fun w0 go0 => F_laws_eqMuxS_B0 fu a_0 b_1 (some false) (some true) w0 go0) fu (0 : Int)))
def pcf_laws_eqMuxS (fu : Nat) (f : Nat) (xs : List (D RT den)) : Option (Out RT den) := match f with | 19 => S_laws_eqMux fu xs | _ => none
def pcx_laws_eqMuxS (fu : Nat) (f : Nat) (xs : List (D RT den)) (ins : List (Ob RT den)) : Option (OutX RT den) := none
def pc_laws_eqMuxS (fu : Nat) : Pc RT den := ⟨pcf_laws_eqMuxS fu, fun _ => false, fun _ => false, pcx_laws_eqMuxS fu⟩
def msk_laws_eqMuxS (b : Nat) : List Nat := match b with | 0 => [2, 3, 4, 6, 7, 8, 9, 10, 11, 12, 13, 14, 15, 16, 17, 18, 19, 20, 21, 22, 23, 24, 25, 26] | 100000 => [0, 1, 2, 3, 5, 6, 7, 8, 9, 10, 11, 12, 13, 14, 15, 16, 17, 18, 19, 20, 21, 22, 23, 24, 25, 26] | _ => []
def ps_laws_eqMuxS_0 : List (Pat RT) := [.flat (.rs .impl_Mux), .flat (.rs .impl_Mux), .flat .dead, .flat .dead, .flat .dead, .flat (.int .i64), .flat .dead, .flat .dead, .flat .dead, .flat .dead, .flat .dead, .flat .dead, .flat .dead, .flat .dead, .flat .dead, .flat .dead, .flat .dead, .flat .dead, .flat .dead, .flat .dead, .flat .dead, .flat .dead, .flat .dead, .flat .dead, .flat .dead, .flat .dead, .flat .dead]
def os_laws_eqMuxS_0 : List (OP RT) := []
def conv_laws_eqMuxS_0 (r : Raw den ps_laws_eqMuxS_0 os_laws_eqMuxS_0) : ((Sl S_impl_Mux_0) × (Sl S_impl_Mux_0)) × (Int) := ((r.1.1, r.1.2.1), r.1.2.2.2.2.2.1)
def back_laws_eqMuxS_0 (c : (Sl S_impl_Mux_0) × (Sl S_impl_Mux_0)) (w : Int) : St RT den := ⟨[(.rs c.1.z .impl_Mux c.1.n c.1.f), (.rs c.2.z .impl_Mux c.2.n c.2.f), .dead, .dead, .dead, (.int .i64 w), .dead, .dead, .dead, .dead, .dead, .dead, .dead, .dead, .dead, .dead, .dead, .dead, .dead, .dead, .dead, .dead, .dead, .dead, .dead, .dead, .dead], []⟩
def Bk_laws_eqMuxS_0 {ρ : Type} (fu : Nat) (c : (Sl S_impl_Mux_0) × (Sl S_impl_Mux_0)) (k : Ex → St RT den → Option ρ) (w : Int) (go : (Int) → Option ρ) : Option ρ := F_laws_eqMuxS_B0 fu c.1 c.2 (k .ret ⟨[.dead, .dead, .dead, .dead, (.bool false), .dead, .dead, .dead, .dead, .dead, .dead, .dead, .dead, .dead, .dead, .dead, .dead, .dead, .dead, .dead, .dead, .dead, .dead, .dead, .dead, .dead, .dead], []⟩) (k (.exit 0) ⟨[.dead, .dead, .dead, .dead, .dead, .dead, .dead, .dead, .dead, .dead, .dead, .dead, .dead, .dead, .dead, .dead, .dead, .dead, .dead, .dead, .dead, .dead, .dead, .dead, .dead, .dead, .dead], []⟩) w go
def lp_laws_eqMuxS (fu : Nat) : Lp RT den (Bool) := fun b s k => match b with | 0 => handle ps_laws_eqMuxS_0 os_laws_eqMuxS_0 conv_laws_eqMuxS_0 (Bk_laws_eqMuxS_0 fu) fu s k | _ => none
theorem ev_laws_eqMuxS (fu : Nat) (a_0 : (Sl S_impl_Mux_0)) (b_1 : (Sl S_impl_Mux_0)) : evFun E (pc_laws_eqMuxS fu) msk_laws_eqMuxS (lp_laws_eqMuxS fu) out_bo 41 [(.rs a_0.z .impl_Mux a_0.n a_0.f), (.rs b_1.z .impl_Mux b_1.n b_1.f)] = F_laws_eqMuxS fu a_0 b_1 := by kernel_rfl
noncomputable def body_laws_eqMuxS : Code := Try.f41.body.getD .skip
noncomputable def lc_laws_eqMuxS_0 : Code := ((loops 0 body_laws_eqMuxS).getD 0 (0, .skip)).2
theorem round_laws_eqMuxS_0 (fu : Nat) (it : St RT den → Option (Bool)) (k : Ex → St RT den → Option (Bool)) c w : evCode E (pc_laws_eqMuxS fu) msk_laws_eqMuxS (lp_laws_eqMuxS fu) 0 lc_laws_eqMuxS_0 (back_laws_eqMuxS_0 c w) (after (msk_laws_eqMuxS 0) (msk_laws_eqMuxS 100000) 0 it k) = Bk_laws_eqMuxS_0 fu c k w (fun w => it (back_laws_eqMuxS_0 c w)) := by kernel_rfl
theorem lpok_laws_eqMuxS_0 (fu : Nat) : ∀ s k r, lp_laws_eqMuxS fu 0 s k = some r → ∃ fuel, iter (msk_laws_eqMuxS 0) (msk_laws_eqMuxS 100000) s.objs.length (evCode E (pc_laws_eqMuxS fu) msk_laws_eqMuxS (lp_laws_eqMuxS fu) 0 lc_laws_eqMuxS_0) fuel s k = some r :=
  handle_ok (ps := ps_laws_eqMuxS_0) (os := os_laws_eqMuxS_0) (conv := conv_laws_eqMuxS_0) (B := Bk_laws_eqMuxS_0 fu) (fu := fu) back_laws_eqMuxS_0 (fun raw => by kernel_rfl) 0 (fun c w => by kernel_rfl) (round_laws_eqMuxS_0 fu)
theorem lpok_laws_eqMuxS (fu : Nat) : LpOk E (pc_laws_eqMuxS fu) msk_laws_eqMuxS (lp_laws_eqMuxS fu) (loops 0 body_laws_eqMuxS) := loop_all 1 (by kernel_rfl) fun i hi => match i, hi with
  | 0, _ => by
    have h : (loops 0 body_laws_eqMuxS).getD 0 (0, .skip) = (0, lc_laws_eqMuxS_0) := by kernel_rfl
    rw [h]; exact lpok_laws_eqMuxS_0 fu
  | i + 1, hi => absurd hi (by omega)
def S_laws_eqMuxS (fu : Nat) (xs : List (D RT den)) : Option (Out RT den) := match xs with | [.rs za0_0 .impl_Mux na0_0 fa0_0, .rs za1_0 .impl_Mux na1_0 fa1_0] => some ⟨Bool, F_laws_eqMuxS fu (⟨za0_0, na0_0, fa0_0⟩ : (Sl S_impl_Mux_0)) (⟨za1_0, na1_0, fa1_0⟩ : (Sl S_impl_Mux_0)), enc_bo, fun _ => true⟩ | _ => none
theorem hpc_laws_eqMuxS (fu : Nat) : ∀ f xs o, pcf_laws_eqMuxS fu f xs = some o → ∀ y, o.x = some y → Good E Try.prog f xs (o.g y) := by
  intro f xs o h
  unfold pcf_laws_eqMuxS at h
  split at h
  · exact good_laws_eqMux fu xs o h
  · cases h
theorem hpx_laws_eqMuxS (fu : Nat) : ∀ f xs ins o, pcx_laws_eqMuxS fu f xs ins = some o → ∀ y, o.x = some y → GoodX E Try.prog f xs ins (o.g y).1 (o.g y).2 := by
  intro f xs ins o h
  cases h
theorem goodv_laws_eqMuxS (fu : Nat) (a_0 : (Sl S_impl_Mux_0)) (b_1 : (Sl S_impl_Mux_0)) (y : Bool) (hy : F_laws_eqMuxS fu a_0 b_1 = some y) : Good E Try.prog 41 [(.rs a_0.z .impl_Mux a_0.n a_0.f), (.rs b_1.z .impl_Mux b_1.n b_1.f)] (enc_bo y) :=
  fun_good E_ok (pc_good (pc := pc_laws_eqMuxS fu) (hpc_laws_eqMuxS fu) (hpx_laws_eqMuxS fu)) (fn := Try.f41) (c := body_laws_eqMuxS) (out := out_bo) (y := y) (by kernel_rfl) (by kernel_rfl) (by kernel_rfl) (lpok_laws_eqMuxS fu) (fun d hd => out_bo_enc d _ hd) ((ev_laws_eqMuxS fu a_0 b_1).trans hy)
theorem good_laws_eqMuxS (fu : Nat) : ∀ xs o, S_laws_eqMuxS fu xs = some o → ∀ y, o.x = some y → Good E Try.prog 41 xs (o.g y) := by
  intro xs o h y hy
  unfold S_laws_eqMuxS at h
  split at h
  · rename_i za0_0 na0_0 fa0_0 za1_0 na1_0 fa1_0
    cases h
    exact goodv_laws_eqMuxS fu (⟨za0_0, na0_0, fa0_0⟩ : (Sl S_impl_Mux_0)) (⟨za1_0, na1_0, fa1_0⟩ : (Sl S_impl_Mux_0)) y hy
  · cases h

/-! laws.eqFleet -/
def F_laws_eqFleet (fu : Nat) (a_0 : S_impl_Fleet) (b_1 : S_impl_Fleet) : Option (Bool) :=
  ((F_laws_eqEntryS fu a_0.Agreed b_1.Agreed).bind fun y55 => (bif (!y55) then (some false) else ((F_laws_eqMuxS fu a_0.Muxes b_1.Muxes).bind fun y56 => (bif (!y56) then (some false) else
    (some true)))))
def pcf_laws_eqFleet (fu : Nat) (f : Nat) (xs : List (D RT den)) : Option (Out RT den) := match f with | 40 => S_laws_eqEntryS fu xs | 41 => S_laws_eqMuxS fu xs | _ => none
def pcx_laws_eqFleet (fu : Nat) (f : Nat) (xs : List (D RT den)) (ins : List (Ob RT den)) : Option (OutX RT den) := none
def pc_laws_eqFleet (fu : Nat) : Pc RT den := ⟨pcf_laws_eqFleet fu, fun _ => false, fun _ => false, pcx_laws_eqFleet fu⟩
def msk_laws_eqFleet (b : Nat) : List Nat := []
def lp_laws_eqFleet (fu : Nat) : Lp RT den (Bool) := fun b s k => none
theorem ev_laws_eqFleet (fu : Nat) (a_0 : S_impl_Fleet) (b_1 : S_impl_Fleet) : evFun E (pc_laws_eqFleet fu) msk_laws_eqFleet (lp_laws_eqFleet fu) out_bo 28 [(.agg [(.rs a_0.Agreed.z .impl_Entry a_0.Agreed.n a_0.Agreed.f), (.rs a_0.Muxes.z .impl_Mux a_0.Muxes.n a_0.Muxes.f)]), (.agg [(.rs b_1.Agreed.z .impl_Entry b_1.Agreed.n b_1.Agreed.f), (.rs b_1.Muxes.z .impl_Mux b_1.Muxes.n b_1.Muxes.f)])] = F_laws_eqFleet fu a_0 b_1 := by kernel_rfl
noncomputable def body_laws_eqFleet : Code := Try.f28.body.getD .skip
theorem lpok_laws_eqFleet (fu : Nat) : LpOk E (pc_laws_eqFleet fu) msk_laws_eqFleet (lp_laws_eqFleet fu) (loops 0 body_laws_eqFleet) := by
  have h : loops 0 body_laws_eqFleet = [] := by kernel_rfl
  rw [h]; intro p hp; cases hp
def S_laws_eqFleet (fu : Nat) (xs : List (D RT den)) : Option (Out RT den) := match xs with | [.agg [.rs za0_1 .impl_Entry na0_1 fa0_1, .rs za0_2 .impl_Mux na0_2 fa0_2], .agg [.rs za1_1 .impl_Entry na1_1 fa1_1, .rs za1_2 .impl_Mux na1_2 fa1_2]] => some ⟨Bool, F_laws_eqFleet fu (⟨(⟨za0_1, na0_1, fa0_1⟩ : (Sl S_impl_Entry)), (⟨za0_2, na0_2, fa0_2⟩ : (Sl S_impl_Mux_0))⟩ : S_impl_Fleet) (⟨(⟨za1_1, na1_1, fa1_1⟩ : (Sl S_impl_Entry)), (⟨za1_2, na1_2, fa1_2⟩ : (Sl S_impl_Mux_0))⟩ : S_impl_Fleet), enc_bo, fun _ => true⟩ | _ => none
theorem hpc_laws_eqFleet (fu : Nat) : ∀ f xs o, pcf_laws_eqFleet fu f xs = some o → ∀ y, o.x = some y → Good E Try.prog f xs (o.g y) := by
  intro f xs o h
  unfold pcf_laws_eqFleet at h
  split at h
  · exact good_laws_eqEntryS fu xs o h
  · exact good_laws_eqMuxS fu xs o h
  · cases h
theorem hpx_laws_eqFleet (fu : Nat) : ∀ f xs ins o, pcx_laws_eqFleet fu f xs ins = some o → ∀ y, o.x = some y → GoodX E Try.prog f xs ins (o.g y).1 (o.g y).2 := by
  intro f xs ins o h
  cases h
theorem goodv_laws_eqFleet (fu : Nat) (a_0 : S_impl_Fleet) (b_1 : S_impl_Fleet) (y : Bool) (hy : F_laws_eqFleet fu a_0 b_1 = some y) : Good E Try.prog 28 [(.agg [(.rs a_0.Agreed.z .impl_Entry a_0.Agreed.n a_0.Agreed.f), (.rs a_0.Muxes.z .impl_Mux a_0.Muxes.n a_0.Muxes.f)]), (.agg [(.rs b_1.Agreed.z .impl_Entry b_1.Agreed.n b_1.Agreed.f), (.rs b_1.Muxes.z .impl_Mux b_1.Muxes.n b_1.Muxes.f)])] (enc_bo y) :=
  fun_good E_ok (pc_good (pc := pc_laws_eqFleet fu) (hpc_laws_eqFleet fu) (hpx_laws_eqFleet fu)) (fn := Try.f28) (c := body_laws_eqFleet) (out := out_bo) (y := y) (by kernel_rfl) (by kernel_rfl) (by kernel_rfl) (lpok_laws_eqFleet fu) (fun d hd => out_bo_enc d _ hd) ((ev_laws_eqFleet fu a_0 b_1).trans hy)
theorem good_laws_eqFleet (fu : Nat) : ∀ xs o, S_laws_eqFleet fu xs = some o → ∀ y, o.x = some y → Good E Try.prog 28 xs (o.g y) := by
  intro xs o h y hy
  unfold S_laws_eqFleet at h
  split at h
  · rename_i za0_1 na0_1 fa0_1 za0_2 na0_2 fa0_2 za1_1 na1_1 fa1_1 za1_2 na1_2 fa1_2
    cases h
    exact goodv_laws_eqFleet fu (⟨(⟨za0_1, na0_1, fa0_1⟩ : (Sl S_impl_Entry)), (⟨za0_2, na0_2, fa0_2⟩ : (Sl S_impl_Mux_0))⟩ : S_impl_Fleet) (⟨(⟨za1_1, na1_1, fa1_1⟩ : (Sl S_impl_Entry)), (⟨za1_2, na1_2, fa1_2⟩ : (Sl S_impl_Mux_0))⟩ : S_impl_Fleet) y hy
  · cases h

/-! laws.eqFleetResult -/
def F_laws_eqFleetResult (fu : Nat) (a_0 : S_impl_FleetResult) (b_1 : S_impl_FleetResult) : Option (Bool) :=
  (bif (a_0.Code != b_1.Code) then (some false) else (bif (a_0.Why != b_1.Why) then (some false) else (bif (a_0.Name != b_1.Name) then (some false) else ((F_laws_eqByteS fu a_0.Out b_1.Out).bind fun y53 =>
    (bif (!y53) then (some false) else ((F_laws_eqFleet fu a_0.Fleet b_1.Fleet).bind fun y54 => (bif (!y54) then (some false) else (some true))))))))
def pcf_laws_eqFleetResult (fu : Nat) (f : Nat) (xs : List (D RT den)) : Option (Out RT den) := match f with | 18 => S_laws_eqByteS fu xs | 28 => S_laws_eqFleet fu xs | _ => none
def pcx_laws_eqFleetResult (fu : Nat) (f : Nat) (xs : List (D RT den)) (ins : List (Ob RT den)) : Option (OutX RT den) := none
def pc_laws_eqFleetResult (fu : Nat) : Pc RT den := ⟨pcf_laws_eqFleetResult fu, fun _ => false, fun _ => false, pcx_laws_eqFleetResult fu⟩
def msk_laws_eqFleetResult (b : Nat) : List Nat := []
def lp_laws_eqFleetResult (fu : Nat) : Lp RT den (Bool) := fun b s k => none
theorem ev_laws_eqFleetResult (fu : Nat) (a_0 : S_impl_FleetResult) (b_1 : S_impl_FleetResult) : evFun E (pc_laws_eqFleetResult fu) msk_laws_eqFleetResult (lp_laws_eqFleetResult fu) out_bo 12 [(.agg [(.int .i64 a_0.Code), (.int .i64 a_0.Why), (.int .i64 a_0.Name), (.rs a_0.Out.z .u8 a_0.Out.n a_0.Out.f), (.rs a_0.Fleet.Agreed.z .impl_Entry a_0.Fleet.Agreed.n a_0.Fleet.Agreed.f), (.rs a_0.Fleet.Muxes.z .impl_Mux a_0.Fleet.Muxes.n a_0.Fleet.Muxes.f)]), (.agg [(.int .i64 b_1.Code), (.int .i64 b_1.Why), (.int .i64 b_1.Name), (.rs b_1.Out.z .u8 b_1.Out.n b_1.Out.f), (.rs b_1.Fleet.Agreed.z .impl_Entry b_1.Fleet.Agreed.n b_1.Fleet.Agreed.f), (.rs b_1.Fleet.Muxes.z .impl_Mux b_1.Fleet.Muxes.n b_1.Fleet.Muxes.f)])] = F_laws_eqFleetResult fu a_0 b_1 := by kernel_rfl
noncomputable def body_laws_eqFleetResult : Code := Try.f12.body.getD .skip
theorem lpok_laws_eqFleetResult (fu : Nat) : LpOk E (pc_laws_eqFleetResult fu) msk_laws_eqFleetResult (lp_laws_eqFleetResult fu) (loops 0 body_laws_eqFleetResult) := by
  have h : loops 0 body_laws_eqFleetResult = [] := by kernel_rfl
  rw [h]; intro p hp; cases hp
def S_laws_eqFleetResult (fu : Nat) (xs : List (D RT den)) : Option (Out RT den) := match xs with | [.agg [.int .i64 a0_1, .int .i64 a0_2, .int .i64 a0_3, .rs za0_4 .u8 na0_4 fa0_4, .rs za0_6 .impl_Entry na0_6 fa0_6, .rs za0_7 .impl_Mux na0_7 fa0_7], .agg [.int .i64 a1_1, .int .i64 a1_2, .int .i64 a1_3, .rs za1_4 .u8 na1_4 fa1_4, .rs za1_6 .impl_Entry na1_6 fa1_6, .rs za1_7 .impl_Mux na1_7 fa1_7]] => some ⟨Bool, F_laws_eqFleetResult fu (⟨a0_1, a0_2, a0_3, (⟨za0_4, na0_4, fa0_4⟩ : (Sl Int)), (⟨(⟨za0_6, na0_6, fa0_6⟩ : (Sl S_impl_Entry)), (⟨za0_7, na0_7, fa0_7⟩ : (Sl S_impl_Mux_0))⟩ : S_impl_Fleet)⟩ : S_impl_FleetResult) (⟨a1_1, a1_2, a1_3, (⟨za1_4, na1_4, fa1_4⟩ : (Sl Int)), (⟨(⟨za1_6, na1_6, fa1_6⟩ : (Sl S_impl_Entry)), (⟨za1_7, na1_7, fa1_7⟩ : (Sl S_impl_Mux_0))⟩ : S_impl_Fleet)⟩ : S_impl_FleetResult), enc_bo, fun _ => true⟩ | _ => none
theorem hpc_laws_eqFleetResult (fu : Nat) : ∀ f xs o, pcf_laws_eqFleetResult fu f xs = some o → ∀ y, o.x = some y → Good E Try.prog f xs (o.g y) := by
  intro f xs o h
  unfold pcf_laws_eqFleetResult at h
  split at h
  · exact good_laws_eqByteS fu xs o h
  · exact good_laws_eqFleet fu xs o h
  · cases h
theorem hpx_laws_eqFleetResult (fu : Nat) : ∀ f xs ins o, pcx_laws_eqFleetResult fu f xs ins = some o → ∀ y, o.x = some y → GoodX E Try.prog f xs ins (o.g y).1 (o.g y).2 := by
  intro f xs ins o h
  cases h
theorem goodv_laws_eqFleetResult (fu : Nat) (a_0 : S_impl_FleetResult) (b_1 : S_impl_FleetResult) (y : Bool) (hy : F_laws_eqFleetResult fu a_0 b_1 = some y) : Good E Try.prog 12 [(.agg [(.int .i64 a_0.Code), (.int .i64 a_0.Why), (.int .i64 a_0.Name), (.rs a_0.Out.z .u8 a_0.Out.n a_0.Out.f), (.rs a_0.Fleet.Agreed.z .impl_Entry a_0.Fleet.Agreed.n a_0.Fleet.Agreed.f), (.rs a_0.Fleet.Muxes.z .impl_Mux a_0.Fleet.Muxes.n a_0.Fleet.Muxes.f)]), (.agg [(.int .i64 b_1.Code), (.int .i64 b_1.Why), (.int .i64 b_1.Name), (.rs b_1.Out.z .u8 b_1.Out.n b_1.Out.f), (.rs b_1.Fleet.Agreed.z .impl_Entry b_1.Fleet.Agreed.n b_1.Fleet.Agreed.f), (.rs b_1.Fleet.Muxes.z .impl_Mux b_1.Fleet.Muxes.n b_1.Fleet.Muxes.f)])] (enc_bo y) :=
  fun_good E_ok (pc_good (pc := pc_laws_eqFleetResult fu) (hpc_laws_eqFleetResult fu) (hpx_laws_eqFleetResult fu)) (fn := Try.f12) (c := body_laws_eqFleetResult) (out := out_bo) (y := y) (by kernel_rfl) (by kernel_rfl) (by kernel_rfl) (lpok_laws_eqFleetResult fu) (fun d hd => out_bo_enc d _ hd) ((ev_laws_eqFleetResult fu a_0 b_1).trans hy)
theorem good_laws_eqFleetResult (fu : Nat) : ∀ xs o, S_laws_eqFleetResult fu xs = some o → ∀ y, o.x = some y → Good E Try.prog 12 xs (o.g y) := by
  intro xs o h y hy
  unfold S_laws_eqFleetResult at h
  split at h
  · rename_i a0_1 a0_2 a0_3 za0_4 na0_4 fa0_4 za0_6 na0_6 fa0_6 za0_7 na0_7 fa0_7 a1_1 a1_2 a1_3 za1_4 na1_4 fa1_4 za1_6 na1_6 fa1_6 za1_7 na1_7 fa1_7
    cases h
    exact goodv_laws_eqFleetResult fu (⟨a0_1, a0_2, a0_3, (⟨za0_4, na0_4, fa0_4⟩ : (Sl Int)), (⟨(⟨za0_6, na0_6, fa0_6⟩ : (Sl S_impl_Entry)), (⟨za0_7, na0_7, fa0_7⟩ : (Sl S_impl_Mux_0))⟩ : S_impl_Fleet)⟩ : S_impl_FleetResult) (⟨a1_1, a1_2, a1_3, (⟨za1_4, na1_4, fa1_4⟩ : (Sl Int)), (⟨(⟨za1_6, na1_6, fa1_6⟩ : (Sl S_impl_Entry)), (⟨za1_7, na1_7, fa1_7⟩ : (Sl S_impl_Mux_0))⟩ : S_impl_Fleet)⟩ : S_impl_FleetResult) y hy
  · cases h

/-! laws.heldByteS -/
def F_laws_heldByteS_B0 {ρ : Type} (fu : Nat) (a0_0 : (Sl Int)) (k0 : Int → Option ρ) (k1 : Int → Option ρ) (k1_1 : Int) (i5_2 : Int) (go : Int → Int → Option ρ) : Option ρ :=
  (bif (decide (i5_2 < ((a0_0.n : Nat) : Int))) then ((bif (decide (0 ≤ i5_2) && decide ((Int.toNat i5_2) < a0_0.n)) then some () else none : Option Unit).bind fun _ => (bif ((a0_0.f (Int.toNat i5_2)) != (IntKind.wrap .u8 k1_1)) then
    (k0 k1_1) else (go (IntKind.wrap .i64 (k1_1 + 1)) (IntKind.wrap .i64 (i5_2 + 1))))) else (k1 k1_1))
def F_laws_heldByteS (fu : Nat) (a_0 : (Sl Int)) (k_1 : Int) : Option (Int) :=
  (L (fun w0 go0 => F_laws_heldByteS_B0 fu a_0 (fun z74 => (some (-1))) (fun z75 => (some z75)) w0.1 w0.2 (fun q0 q1 => go0 (q0, q1))) fu ((k_1, 0) : Int × Int))
def pcf_laws_heldByteS (fu : Nat) (f : Nat) (xs : List (D RT den)) : Option (Out RT den) := none
def pcx_laws_heldByteS (fu : Nat) (f : Nat) (xs : List (D RT den)) (ins : List (Ob RT den)) : Option (OutX RT den) := none
def pc_laws_heldByteS (fu : Nat) : Pc RT den := ⟨pcf_laws_heldByteS fu, fun _ => false, fun _ => false, pcx_laws_heldByteS fu⟩
def msk_laws_heldByteS (b : Nat) : List Nat := match b with | 0 => [2, 3, 4, 6, 7, 8, 9, 10, 11, 12, 13, 14, 15, 16, 17, 18, 19, 20, 21] | 100000 => [0, 2, 3, 5, 6, 7, 8, 9, 10, 11, 12, 13, 14, 15, 16, 17, 18, 19, 20, 21] | _ => []
def ps_laws_heldByteS_0 : List (Pat RT) := [.flat (.rs .u8), .flat (.int .i64), .flat .dead, .flat .dead, .flat .dead, .flat (.int .i64), .flat .dead, .flat .dead, .flat .dead, .flat .dead, .flat .dead, .flat .dead, .flat .dead, .flat .dead, .flat .dead, .flat .dead, .flat .dead, .flat .dead, .flat .dead, .flat .dead, .flat .dead, .flat .dead]
def os_laws_heldByteS_0 : List (OP RT) := []
def conv_laws_heldByteS_0 (r : Raw den ps_laws_heldByteS_0 os_laws_heldByteS_0) : ((Sl Int)) × (Int × Int) := (r.1.1, (r.1.2.1, r.1.2.2.2.2.2.1))
def back_laws_heldByteS_0 (c : (Sl Int)) (w : Int × Int) : St RT den := ⟨[(.rs c.z .u8 c.n c.f), (.int .i64 w.1), .dead, .dead, .dead, (.int .i64 w.2), .dead, .dead, .dead, .dead, .dead, .dead, .dead, .dead, .dead, .dead, .dead, .dead, .dead, .dead, .dead, .dead], []⟩
def Bk_laws_heldByteS_0 {ρ : Type} (fu : Nat) (c : (Sl Int)) (k : Ex → St RT den → Option ρ) (w : Int × Int) (go : (Int × Int) → Option ρ) : Option ρ := F_laws_heldByteS_B0 fu c (fun a0 => k .ret ⟨[.dead, (.int .i64 a0), .dead, .dead, (.int .i64 (-1)), .dead, .dead, .dead, .dead, .dead, .dead, .dead, .dead, .dead, .dead, .dead, .dead, .dead, .dead, .dead, .dead, .dead], []⟩) (fun a0 => k (.exit 0) ⟨[.dead, (.int .i64 a0), .dead, .dead, .dead, .dead, .dead, .dead, .dead, .dead, .dead, .dead, .dead, .dead, .dead, .dead, .dead, .dead, .dead, .dead, .dead, .dead], []⟩) w.1 w.2 (fun q0 q1 => go (q0, q1))
def lp_laws_heldByteS (fu : Nat) : Lp RT den (Int) := fun b s k => match b with | 0 => handle ps_laws_heldByteS_0 os_laws_heldByteS_0 conv_laws_heldByteS_0 (Bk_laws_heldByteS_0 fu) fu s k | _ => none
theorem ev_laws_heldByteS (fu : Nat) (a_0 : (Sl Int)) (k_1 : Int) : evFun E (pc_laws_heldByteS fu) msk_laws_heldByteS (lp_laws_heldByteS fu) out_i64 22 [(.rs a_0.z .u8 a_0.n a_0.f), (.int .i64 k_1)] = F_laws_heldByteS fu a_0 k_1 := by kernel_rfl
noncomputable def body_laws_heldByteS : Code := Try.f22.body.getD .skip
noncomputable def lc_laws_heldByteS_0 : Code := ((loops 0 body_laws_heldByteS).getD 0 (0, .skip)).2
theorem round_laws_heldByteS_0 (fu : Nat) (it : St RT den → Option (Int)) (k : Ex → St RT den → Option (Int)) c w : evCode E (pc_laws_heldByteS fu) msk_laws_heldByteS (lp_laws_heldByteS fu) 0 lc_laws_heldByteS_0 (back_laws_heldByteS_0 c w) (after (msk_laws_heldByteS 0) (msk_laws_heldByteS 100000) 0 it k) = Bk_laws_heldByteS_0 fu c k w (fun w => it (back_laws_heldByteS_0 c w)) := by kernel_rfl
theorem lpok_laws_heldByteS_0 (fu : Nat) : ∀ s k r, lp_laws_heldByteS fu 0 s k = some r → ∃ fuel, iter (msk_laws_heldByteS 0) (msk_laws_heldByteS 100000) s.objs.length (evCode E (pc_laws_heldByteS fu) msk_laws_heldByteS (lp_laws_heldByteS fu) 0 lc_laws_heldByteS_0) fuel s k = some r :=
  handle_ok (ps := ps_laws_heldByteS_0) (os := os_laws_heldByteS_0) (conv := conv_laws_heldByteS_0) (B := Bk_laws_heldByteS_0 fu) (fu := fu) back_laws_heldByteS_0 (fun raw => by kernel_rfl) 0 (fun c w => by kernel_rfl) (round_laws_heldByteS_0 fu)
theorem lpok_laws_heldByteS (fu : Nat) : LpOk E (pc_laws_heldByteS fu) msk_laws_heldByteS (lp_laws_heldByteS fu) (loops 0 body_laws_heldByteS) := loop_all 1 (by kernel_rfl) fun i hi => match i, hi with
  | 0, _ => by
    have h : (loops 0 body_laws_heldByteS).getD 0 (0, .skip) = (0, lc_laws_heldByteS_0) := by kernel_rfl
    rw [h]; exact lpok_laws_heldByteS_0 fu
  | i + 1, hi => absurd hi (by omega)
def S_laws_heldByteS (fu : Nat) (xs : List (D RT den)) : Option (Out RT den) := match xs with | [.rs za0_0 .u8 na0_0 fa0_0, .int .i64 a1_0] => some ⟨Int, F_laws_heldByteS fu (⟨za0_0, na0_0, fa0_0⟩ : (Sl Int)) a1_0, enc_i64, fun _ => true⟩ | _ => none
theorem hpc_laws_heldByteS (fu : Nat) : ∀ f xs o, pcf_laws_heldByteS fu f xs = some o → ∀ y, o.x = some y → Good E Try.prog f xs (o.g y) := by
  intro f xs o h
  cases h
theorem hpx_laws_heldByteS (fu : Nat) : ∀ f xs ins o, pcx_laws_heldByteS fu f xs ins = some o → ∀ y, o.x = some y → GoodX E Try.prog f xs ins (o.g y).1 (o.g y).2 := by
  intro f xs ins o h
  cases h
theorem goodv_laws_heldByteS (fu : Nat) (a_0 : (Sl Int)) (k_1 : Int) (y : Int) (hy : F_laws_heldByteS fu a_0 k_1 = some y) : Good E Try.prog 22 [(.rs a_0.z .u8 a_0.n a_0.f), (.int .i64 k_1)] (enc_i64 y) :=
  fun_good E_ok (pc_good (pc := pc_laws_heldByteS fu) (hpc_laws_heldByteS fu) (hpx_laws_heldByteS fu)) (fn := Try.f22) (c := body_laws_heldByteS) (out := out_i64) (y := y) (by kernel_rfl) (by kernel_rfl) (by kernel_rfl) (lpok_laws_heldByteS fu) (fun d hd => out_i64_enc d _ hd) ((ev_laws_heldByteS fu a_0 k_1).trans hy)
theorem good_laws_heldByteS (fu : Nat) : ∀ xs o, S_laws_heldByteS fu xs = some o → ∀ y, o.x = some y → Good E Try.prog 22 xs (o.g y) := by
  intro xs o h y hy
  unfold S_laws_heldByteS at h
  split at h
  · rename_i za0_0 na0_0 fa0_0 a1_0
    cases h
    exact goodv_laws_heldByteS fu (⟨za0_0, na0_0, fa0_0⟩ : (Sl Int)) a1_0 y hy
  · cases h

/-! laws.heldEntryS -/
def F_laws_heldEntryS_B0 {ρ : Type} (fu : Nat) (a0_0 : (Sl S_impl_Entry)) (k0 : Int → Option ρ) (k1 : Int → Option ρ) (k1_1 : Int) (i5_2 : Int) (go : Int → Int → Option ρ) : Option ρ :=
  (bif (decide (i5_2 < ((a0_0.n : Nat) : Int))) then ((bif (decide (0 ≤ i5_2) && decide ((Int.toNat i5_2) < a0_0.n)) then some () else none : Option Unit).bind fun _ => (bif ((a0_0.f (Int.toNat i5_2)).Term != k1_1) then
    (k0 k1_1) else ((bif (decide (0 ≤ i5_2) && decide ((Int.toNat i5_2) < a0_0.n)) then some () else none : Option Unit).bind fun _ => (bif ((a0_0.f (Int.toNat i5_2)).Client != (IntKind.wrap .i64 (k1_1 + 1))) then
    (k0 (IntKind.wrap .i64 (k1_1 + 1))) else ((bif (decide (0 ≤ i5_2) && decide ((Int.toNat i5_2) < a0_0.n)) then some () else none : Option Unit).bind fun _ => (bif ((a0_0.f (Int.toNat i5_2)).Seq != (IntKind.wrap .i64 ((IntKind.wrap .i64 (k1_1 + 1)) + 1))) then
    (k0 (IntKind.wrap .i64 ((IntKind.wrap .i64 (k1_1 + 1)) + 1))) else ((bif (decide (0 ≤ i5_2) && decide ((Int.toNat i5_2) < a0_0.n)) then some () else none : Option Unit).bind fun _ =>
    (bif ((a0_0.f (Int.toNat i5_2)).Cmd.Kind != (IntKind.wrap .i64 ((IntKind.wrap .i64 ((IntKind.wrap .i64 (k1_1 + 1)) + 1)) + 1))) then (k0 (IntKind.wrap .i64 ((IntKind.wrap .i64 ((IntKind.wrap .i64 (k1_1 + 1)) + 1)) + 1))) else
    ((bif (decide (0 ≤ i5_2) && decide ((Int.toNat i5_2) < a0_0.n)) then some () else none : Option Unit).bind fun _ => (bif ((a0_0.f (Int.toNat i5_2)).Cmd.Expect != (IntKind.wrap .i64 ((IntKind.wrap .i64 ((IntKind.wrap .i64 ((IntKind.wrap .i64 (k1_1 + 1)) + 1)) + 1)) + 1))) then
    (k0 (IntKind.wrap .i64 ((IntKind.wrap .i64 ((IntKind.wrap .i64 ((IntKind.wrap .i64 (k1_1 + 1)) + 1)) + 1)) + 1))) else ((bif (decide (0 ≤ i5_2) && decide ((Int.toNat i5_2) < a0_0.n)) then
    some () else none : Option Unit).bind fun _ => (bif ((a0_0.f (Int.toNat i5_2)).Cmd.Name != (IntKind.wrap .i64 ((IntKind.wrap .i64 ((IntKind.wrap .i64 ((IntKind.wrap .i64 ((IntKind.wrap .i64 (k1_1 + 1)) + 1)) + 1)) + 1)) + 1))) then
    (k0 (IntKind.wrap .i64 ((IntKind.wrap .i64 ((IntKind.wrap .i64 ((IntKind.wrap .i64 ((IntKind.wrap .i64 (k1_1 + 1)) + 1)) + 1)) + 1)) + 1))) else ((bif (decide (0 ≤ i5_2) &&
    decide ((Int.toNat i5_2) < a0_0.n)) then some () else none : Option Unit).bind fun _ => (bif ((a0_0.f (Int.toNat i5_2)).Cmd.Addr != (IntKind.wrap .i64 ((IntKind.wrap .i64 ((IntKind.wrap .i64 ((IntKind.wrap .i64 ((IntKind.wrap .i64 ((IntKind.wrap .i64 (k1_1 + 1)) + 1)) + 1)) + 1)) + 1)) + 1))) then
    (k0 (IntKind.wrap .i64 ((IntKind.wrap .i64 ((IntKind.wrap .i64 ((IntKind.wrap .i64 ((IntKind.wrap .i64 ((IntKind.wrap .i64 (k1_1 + 1)) + 1)) + 1)) + 1)) + 1)) + 1))) else ((bif (decide (0 ≤ i5_2) &&
    decide ((Int.toNat i5_2) < a0_0.n)) then some () else none : Option Unit).bind fun _ => (bif ((a0_0.f (Int.toNat i5_2)).Cmd.Number != (IntKind.wrap .i64 ((IntKind.wrap .i64 ((IntKind.wrap .i64 ((IntKind.wrap .i64 ((IntKind.wrap .i64 ((IntKind.wrap .i64 ((IntKind.wrap .i64 (k1_1 + 1)) + 1)) + 1)) + 1)) + 1)) + 1)) + 1))) then
    (k0 (IntKind.wrap .i64 ((IntKind.wrap .i64 ((IntKind.wrap .i64 ((IntKind.wrap .i64 ((IntKind.wrap .i64 ((IntKind.wrap .i64 ((IntKind.wrap .i64 (k1_1 + 1)) + 1)) + 1)) + 1)) + 1)) + 1)) + 1))) else
    ((bif (decide (0 ≤ i5_2) && decide ((Int.toNat i5_2) < a0_0.n)) then some () else none : Option Unit).bind fun _ => (bif ((a0_0.f (Int.toNat i5_2)).Cmd.Proto != (IntKind.wrap .i64 ((IntKind.wrap .i64 ((IntKind.wrap .i64 ((IntKind.wrap .i64 ((IntKind.wrap .i64 ((IntKind.wrap .i64 ((IntKind.wrap .i64 ((IntKind.wrap .i64 (k1_1 + 1)) + 1)) + 1)) + 1)) + 1)) + 1)) + 1)) + 1))) then
    (k0 (IntKind.wrap .i64 ((IntKind.wrap .i64 ((IntKind.wrap .i64 ((IntKind.wrap .i64 ((IntKind.wrap .i64 ((IntKind.wrap .i64 ((IntKind.wrap .i64 ((IntKind.wrap .i64 (k1_1 + 1)) + 1)) + 1)) + 1)) + 1)) + 1)) + 1)) + 1))) else
    (go (IntKind.wrap .i64 ((IntKind.wrap .i64 ((IntKind.wrap .i64 ((IntKind.wrap .i64 ((IntKind.wrap .i64 ((IntKind.wrap .i64 ((IntKind.wrap .i64 ((IntKind.wrap .i64 ((IntKind.wrap .i64 (k1_1 + 1)) + 1)) + 1)) + 1)) + 1)) + 1)) + 1)) + 1)) + 1)) (IntKind.wrap .i64 (i5_2 + 1))))))))))))))))))))) else
    (k1 k1_1))
def F_laws_heldEntryS (fu : Nat) (a_0 : (Sl S_impl_Entry)) (k_1 : Int) : Option (Int) :=
  (L (fun w0 go0 => F_laws_heldEntryS_B0 fu a_0 (fun z78 => (some (-1))) (fun z79 => (some z79)) w0.1 w0.2 (fun q0 q1 => go0 (q0, q1))) fu ((k_1, 0) : Int × Int))
def pcf_laws_heldEntryS (fu : Nat) (f : Nat) (xs : List (D RT den)) : Option (Out RT den) := none
def pcx_laws_heldEntryS (fu : Nat) (f : Nat) (xs : List (D RT den)) (ins : List (Ob RT den)) : Option (OutX RT den) := none
def pc_laws_heldEntryS (fu : Nat) : Pc RT den := ⟨pcf_laws_heldEntryS fu, fun _ => false, fun _ => false, pcx_laws_heldEntryS fu⟩
def msk_laws_heldEntryS (b : Nat) : List Nat := match b with | 0 => [2, 3, 4, 6, 7, 8, 9, 10, 11, 12, 13, 14, 15, 16, 17, 18, 19, 20, 21, 22, 23, 24, 25, 26, 27, 28, 29, 30, 31, 32, 33, 34, 35, 36, 37, 38, 39, 40, 41, 42, 43, 44, 45, 46, 47, 48, 49, 50, 51, 52, 53, 54, 55, 56, 57, 58, 59, 60, 61, 62, 63, 64, 65, 66, 67, 68, 69, 70, 71, 72, 73, 74, 75, 76, 77, 78, 79, 80, 81, 82, 83, 84, 85, 86, 87, 88, 89, 90, 91, 92, 93, 94, 95, 96, 97, 98, 99] | 100000 => [0, 2, 3, 5, 6, 7, 8, 9, 10, 11, 12, 13, 14, 15, 16, 17, 18, 19, 20, 21, 22, 23, 24, 25, 26, 27, 28, 29, 30, 31, 32, 33, 34, 35, 36, 37, 38, 39, 40, 41, 42, 43, 44, 45, 46, 47, 48, 49, 50, 51, 52, 53, 54, 55, 56, 57, 58, 59, 60, 61, 62, 63, 64, 65, 66, 67, 68, 69, 70, 71, 72, 73, 74, 75, 76, 77, 78, 79, 80, 81, 82, 83, 84, 85, 86, 87, 88, 89, 90, 91, 92, 93, 94, 95, 96, 97, 98, 99] | _ => []
def ps_laws_heldEntryS_0 : List (Pat RT) := [.flat (.rs .impl_Entry), .flat (.int .i64), .flat .dead, .flat .dead, .flat .dead, .flat (.int .i64), .flat .dead, .flat .dead, .flat .dead, .flat .dead, .flat .dead, .flat .dead, .flat .dead, .flat .dead, .flat .dead, .flat .dead, .flat .dead, .flat .dead, .flat .dead, .flat .dead, .flat .dead, .flat .dead, .flat .dead, .flat .dead, .flat .dead, .flat .dead, .flat .dead, .flat .dead, .flat .dead, .flat .dead, .flat .dead, .flat .dead, .flat .dead, .flat .dead, .flat .dead, .flat .dead, .flat .dead, .flat .dead, .flat .dead, .flat .dead, .flat .dead, .flat .dead, .flat .dead, .flat .dead, .flat .dead, .flat .dead, .flat .dead, .flat .dead, .flat .dead, .flat .dead, .flat .dead, .flat .dead, .flat .dead, .flat .dead, .flat .dead, .flat .dead, .flat .dead, .flat .dead, .flat .dead, .flat .dead, .flat .dead, .flat .dead, .flat .dead, .flat .dead, .flat .dead, .flat .dead, .flat .dead, .flat .dead, .flat .dead, .flat .dead, .flat .dead, .flat .dead, .flat .dead, .flat .dead, .flat .dead, .flat .dead, .flat .dead, .flat .dead, .flat .dead, .flat .dead, .flat .dead, .flat .dead, .flat .dead, .flat .dead, .flat .dead, .flat .dead, .flat .dead, .flat .dead, .flat .dead, .flat .dead, .flat .dead, .flat .dead, .flat .dead, .flat .dead, .flat .dead, .flat .dead, .flat .dead, .flat .dead, .flat .dead, .flat .dead]
def os_laws_heldEntryS_0 : List (OP RT) := []
def conv_laws_heldEntryS_0 (r : Raw den ps_laws_heldEntryS_0 os_laws_heldEntryS_0) : ((Sl S_impl_Entry)) × (Int × Int) := (r.1.1, (r.1.2.1, r.1.2.2.2.2.2.1))
def back_laws_heldEntryS_0 (c : (Sl S_impl_Entry)) (w : Int × Int) : St RT den := ⟨[(.rs c.z .impl_Entry c.n c.f), (.int .i64 w.1), .dead, .dead, .dead, (.int .i64 w.2), .dead, .dead, .dead, .dead, .dead, .dead, .dead, .dead, .dead, .dead, .dead, .dead, .dead, .dead, .dead, .dead, .dead, .dead, .dead, .dead, .dead, .dead, .dead, .dead, .dead, .dead, .dead, .dead, .dead, .dead, .dead, .dead, .dead, .dead, .dead, .dead, .dead, .dead, .dead, .dead, .dead, .dead, .dead, .dead, .dead, .dead, .dead, .dead, .dead, .dead, .dead, .dead, .dead, .dead, .dead, .dead, .dead, .dead, .dead, .dead, .dead, .dead, .dead, .dead, .dead, .dead, .dead, .dead, .dead, .dead, .dead, .dead, .dead, .dead, .dead, .dead, .dead, .dead, .dead, .dead, .dead, .dead, .dead, .dead, .dead, .dead, .dead, .dead, .dead, .dead, .dead, .dead, .dead, .dead], []⟩
def Bk_laws_heldEntryS_0 {ρ : Type} (fu : Nat) (c : (Sl S_impl_Entry)) (k : Ex → St RT den → Option ρ) (w : Int × Int) (go : (Int × Int) → Option ρ) : Option ρ := F_laws_heldEntryS_B0 fu c (fun a0 => k .ret ⟨[.dead, (.int .i64 a0), .dead, .dead, (.int .i64 (-1)), .dead, .dead, .dead, .dead, .dead, .dead, .dead, .dead, .dead, .dead, .dead, .dead, .dead, .dead, .dead, .dead, .dead, .dead, .dead, .dead, .dead, .dead, .dead, .dead, .dead, .dead, .dead, .dead, .dead, .dead, .dead, .dead, .dead, .dead, .dead, .dead, .dead, .dead, .dead, .dead, .dead, .dead, .dead, .dead, .dead, .dead, .dead, .dead, .dead, .dead, .dead, .dead, .dead, .dead, .dead, .dead, .dead, .dead, .dead, .dead, .dead, .dead, .dead, .dead, .dead, .dead, .dead, .dead, .dead, .dead, .dead, .dead, .dead, .dead, .dead, .dead, .dead, .dead, .dead, .dead, .dead, .dead, .dead, .dead, .dead, .dead, .dead, .dead, .dead, .dead, .dead, .dead, .dead, .dead, .dead], []⟩) (fun a0 => k (.exit 0) ⟨[.dead, (.int .i64 a0), .dead, .dead, .dead, .dead, .dead, .dead, .dead, .dead, .dead, .dead, .dead, .dead, .dead, .dead, .dead, .dead, .dead, .dead, .dead, .dead, .dead, .dead, .dead, .dead, .dead, .dead, .dead, .dead, .dead, .dead, .dead, .dead, .dead, .dead, .dead, .dead, .dead, .dead, .dead, .dead, .dead, .dead, .dead, .dead, .dead, .dead, .dead, .dead, .dead, .dead, .dead, .dead, .dead, .dead, .dead, .dead, .dead, .dead, .dead, .dead, .dead, .dead, .dead, .dead, .dead, .dead, .dead, .dead, .dead, .dead, .dead, .dead, .dead, .dead, .dead, .dead, .dead, .dead, .dead, .dead, .dead, .dead, .dead, .dead, .dead, .dead, .dead, .dead, .dead, .dead, .dead, .dead, .dead, .dead, .dead, .dead, .dead, .dead], []⟩) w.1 w.2 (fun q0 q1 => go (q0, q1))
def lp_laws_heldEntryS (fu : Nat) : Lp RT den (Int) := fun b s k => match b with | 0 => handle ps_laws_heldEntryS_0 os_laws_heldEntryS_0 conv_laws_heldEntryS_0 (Bk_laws_heldEntryS_0 fu) fu s k | _ => none
theorem ev_laws_heldEntryS (fu : Nat) (a_0 : (Sl S_impl_Entry)) (k_1 : Int) : evFun E (pc_laws_heldEntryS fu) msk_laws_heldEntryS (lp_laws_heldEntryS fu) out_i64 44 [(.rs a_0.z .impl_Entry a_0.n a_0.f), (.int .i64 k_1)] = F_laws_heldEntryS fu a_0 k_1 := by kernel_rfl
noncomputable def body_laws_heldEntryS : Code := Try.f44.body.getD .skip
noncomputable def lc_laws_heldEntryS_0 : Code := ((loops 0 body_laws_heldEntryS).getD 0 (0, .skip)).2
theorem round_laws_heldEntryS_0 (fu : Nat) (it : St RT den → Option (Int)) (k : Ex → St RT den → Option (Int)) c w : evCode E (pc_laws_heldEntryS fu) msk_laws_heldEntryS (lp_laws_heldEntryS fu) 0 lc_laws_heldEntryS_0 (back_laws_heldEntryS_0 c w) (after (msk_laws_heldEntryS 0) (msk_laws_heldEntryS 100000) 0 it k) = Bk_laws_heldEntryS_0 fu c k w (fun w => it (back_laws_heldEntryS_0 c w)) := by kernel_rfl
theorem lpok_laws_heldEntryS_0 (fu : Nat) : ∀ s k r, lp_laws_heldEntryS fu 0 s k = some r → ∃ fuel, iter (msk_laws_heldEntryS 0) (msk_laws_heldEntryS 100000) s.objs.length (evCode E (pc_laws_heldEntryS fu) msk_laws_heldEntryS (lp_laws_heldEntryS fu) 0 lc_laws_heldEntryS_0) fuel s k = some r :=
  handle_ok (ps := ps_laws_heldEntryS_0) (os := os_laws_heldEntryS_0) (conv := conv_laws_heldEntryS_0) (B := Bk_laws_heldEntryS_0 fu) (fu := fu) back_laws_heldEntryS_0 (fun raw => by kernel_rfl) 0 (fun c w => by kernel_rfl) (round_laws_heldEntryS_0 fu)
theorem lpok_laws_heldEntryS (fu : Nat) : LpOk E (pc_laws_heldEntryS fu) msk_laws_heldEntryS (lp_laws_heldEntryS fu) (loops 0 body_laws_heldEntryS) := loop_all 1 (by kernel_rfl) fun i hi => match i, hi with
  | 0, _ => by
    have h : (loops 0 body_laws_heldEntryS).getD 0 (0, .skip) = (0, lc_laws_heldEntryS_0) := by kernel_rfl
    rw [h]; exact lpok_laws_heldEntryS_0 fu
  | i + 1, hi => absurd hi (by omega)
def S_laws_heldEntryS (fu : Nat) (xs : List (D RT den)) : Option (Out RT den) := match xs with | [.rs za0_0 .impl_Entry na0_0 fa0_0, .int .i64 a1_0] => some ⟨Int, F_laws_heldEntryS fu (⟨za0_0, na0_0, fa0_0⟩ : (Sl S_impl_Entry)) a1_0, enc_i64, fun _ => true⟩ | _ => none
theorem hpc_laws_heldEntryS (fu : Nat) : ∀ f xs o, pcf_laws_heldEntryS fu f xs = some o → ∀ y, o.x = some y → Good E Try.prog f xs (o.g y) := by
  intro f xs o h
  cases h
theorem hpx_laws_heldEntryS (fu : Nat) : ∀ f xs ins o, pcx_laws_heldEntryS fu f xs ins = some o → ∀ y, o.x = some y → GoodX E Try.prog f xs ins (o.g y).1 (o.g y).2 := by
  intro f xs ins o h
  cases h
theorem goodv_laws_heldEntryS (fu : Nat) (a_0 : (Sl S_impl_Entry)) (k_1 : Int) (y : Int) (hy : F_laws_heldEntryS fu a_0 k_1 = some y) : Good E Try.prog 44 [(.rs a_0.z .impl_Entry a_0.n a_0.f), (.int .i64 k_1)] (enc_i64 y) :=
  fun_good E_ok (pc_good (pc := pc_laws_heldEntryS fu) (hpc_laws_heldEntryS fu) (hpx_laws_heldEntryS fu)) (fn := Try.f44) (c := body_laws_heldEntryS) (out := out_i64) (y := y) (by kernel_rfl) (by kernel_rfl) (by kernel_rfl) (lpok_laws_heldEntryS fu) (fun d hd => out_i64_enc d _ hd) ((ev_laws_heldEntryS fu a_0 k_1).trans hy)
theorem good_laws_heldEntryS (fu : Nat) : ∀ xs o, S_laws_heldEntryS fu xs = some o → ∀ y, o.x = some y → Good E Try.prog 44 xs (o.g y) := by
  intro xs o h y hy
  unfold S_laws_heldEntryS at h
  split at h
  · rename_i za0_0 na0_0 fa0_0 a1_0
    cases h
    exact goodv_laws_heldEntryS fu (⟨za0_0, na0_0, fa0_0⟩ : (Sl S_impl_Entry)) a1_0 y hy
  · cases h

/-! laws.heldBackendS -/
def F_laws_heldBackendS_B0 {ρ : Type} (fu : Nat) (a0_0 : (Sl S_impl_Backend)) (k0 : Int → Option ρ) (k1 : Int → Option ρ) (k1_1 : Int) (i5_2 : Int) (go : Int → Int → Option ρ) : Option ρ :=
  (bif (decide (i5_2 < ((a0_0.n : Nat) : Int))) then ((bif (decide (0 ≤ i5_2) && decide ((Int.toNat i5_2) < a0_0.n)) then some () else none : Option Unit).bind fun _ => (bif ((a0_0.f (Int.toNat i5_2)).Name != k1_1) then
    (k0 k1_1) else ((bif (decide (0 ≤ i5_2) && decide ((Int.toNat i5_2) < a0_0.n)) then some () else none : Option Unit).bind fun _ => (bif ((a0_0.f (Int.toNat i5_2)).Address != (IntKind.wrap .i64 (k1_1 + 1))) then
    (k0 (IntKind.wrap .i64 (k1_1 + 1))) else ((bif (decide (0 ≤ i5_2) && decide ((Int.toNat i5_2) < a0_0.n)) then some () else none : Option Unit).bind fun _ => (bif ((a0_0.f (Int.toNat i5_2)).Weight != (IntKind.wrap .i64 ((IntKind.wrap .i64 (k1_1 + 1)) + 1))) then
    (k0 (IntKind.wrap .i64 ((IntKind.wrap .i64 (k1_1 + 1)) + 1))) else ((bif (decide (0 ≤ i5_2) && decide ((Int.toNat i5_2) < a0_0.n)) then some () else none : Option Unit).bind fun _ =>
    (bif ((a0_0.f (Int.toNat i5_2)).Stage != (IntKind.wrap .i64 ((IntKind.wrap .i64 ((IntKind.wrap .i64 (k1_1 + 1)) + 1)) + 1))) then (k0 (IntKind.wrap .i64 ((IntKind.wrap .i64 ((IntKind.wrap .i64 (k1_1 + 1)) + 1)) + 1))) else
    ((bif (decide (0 ≤ i5_2) && decide ((Int.toNat i5_2) < a0_0.n)) then some () else none : Option Unit).bind fun _ => (bif (!((a0_0.f (Int.toNat i5_2)).Up == ((Int.tmod (IntKind.wrap .i64 ((IntKind.wrap .i64 ((IntKind.wrap .i64 ((IntKind.wrap .i64 (k1_1 + 1)) + 1)) + 1)) + 1)) 3) == 0))) then
    (k0 (IntKind.wrap .i64 ((IntKind.wrap .i64 ((IntKind.wrap .i64 ((IntKind.wrap .i64 (k1_1 + 1)) + 1)) + 1)) + 1))) else (go (IntKind.wrap .i64 ((IntKind.wrap .i64 ((IntKind.wrap .i64 ((IntKind.wrap .i64 ((IntKind.wrap .i64 (k1_1 + 1)) + 1)) + 1)) + 1)) + 1)) (IntKind.wrap .i64 (i5_2 + 1))))))))))))) else
    (k1 k1_1))
def F_laws_heldBackendS (fu : Nat) (a_0 : (Sl S_impl_Backend)) (k_1 : Int) : Option (Int) :=
  (L (fun w0 go0 => F_laws_heldBackendS_B0 fu a_0 (fun z86 => (some (-1))) (fun z87 => (some z87)) w0.1 w0.2 (fun q0 q1 => go0 (q0, q1))) fu ((k_1, 0) : Int × Int))
def pcf_laws_heldBackendS (fu : Nat) (f : Nat) (xs : List (D RT den)) : Option (Out RT den) := none
def pcx_laws_heldBackendS (fu : Nat) (f : Nat) (xs : List (D RT den)) (ins : List (Ob RT den)) : Option (OutX RT den) := none
def pc_laws_heldBackendS (fu : Nat) : Pc RT den := ⟨pcf_laws_heldBackendS fu, fun _ => false, fun _ => false, pcx_laws_heldBackendS fu⟩
def msk_laws_heldBackendS (b : Nat) : List Nat := match b with | 0 => [2, 3, 4, 6, 7, 8, 9, 10, 11, 12, 13, 14, 15, 16, 17, 18, 19, 20, 21, 22, 23, 24, 25, 26, 27, 28, 29, 30, 31, 32, 33, 34, 35, 36, 37, 38, 39, 40, 41, 42, 43, 44, 45, 46, 47, 48, 49, 50, 51, 52, 53, 54, 55, 56, 57, 58, 59] | 100000 => [0, 2, 3, 5, 6, 7, 8, 9, 10, 11, 12, 13, 14, 15, 16, 17, 18, 19, 20, 21, 22, 23, 24, 25, 26, 27, 28, 29, 30, 31, 32, 33, 34, 35, 36, 37, 38, 39, 40, 41, 42, 43, 44, 45, 46, 47, 48, 49, 50, 51, 52, 53, 54, 55, 56, 57, 58, 59] | _ => []
def ps_laws_heldBackendS_0 : List (Pat RT) := [.flat (.rs .impl_Backend), .flat (.int .i64), .flat .dead, .flat .dead, .flat .dead, .flat (.int .i64), .flat .dead, .flat .dead, .flat .dead, .flat .dead, .flat .dead, .flat .dead, .flat .dead, .flat .dead, .flat .dead, .flat .dead, .flat .dead, .flat .dead, .flat .dead, .flat .dead, .flat .dead, .flat .dead, .flat .dead, .flat .dead, .flat .dead, .flat .dead, .flat .dead, .flat .dead, .flat .dead, .flat .dead, .flat .dead, .flat .dead, .flat .dead, .flat .dead, .flat .dead, .flat .dead, .flat .dead, .flat .dead, .flat .dead, .flat .dead, .flat .dead, .flat .dead, .flat .dead, .flat .dead, .flat .dead, .flat .dead, .flat .dead, .flat .dead, .flat .dead, .flat .dead, .flat .dead, .flat .dead, .flat .dead, .flat .dead, .flat .dead, .flat .dead, .flat .dead, .flat .dead, .flat .dead, .flat .dead]
def os_laws_heldBackendS_0 : List (OP RT) := []
def conv_laws_heldBackendS_0 (r : Raw den ps_laws_heldBackendS_0 os_laws_heldBackendS_0) : ((Sl S_impl_Backend)) × (Int × Int) := (r.1.1, (r.1.2.1, r.1.2.2.2.2.2.1))
def back_laws_heldBackendS_0 (c : (Sl S_impl_Backend)) (w : Int × Int) : St RT den := ⟨[(.rs c.z .impl_Backend c.n c.f), (.int .i64 w.1), .dead, .dead, .dead, (.int .i64 w.2), .dead, .dead, .dead, .dead, .dead, .dead, .dead, .dead, .dead, .dead, .dead, .dead, .dead, .dead, .dead, .dead, .dead, .dead, .dead, .dead, .dead, .dead, .dead, .dead, .dead, .dead, .dead, .dead, .dead, .dead, .dead, .dead, .dead, .dead, .dead, .dead, .dead, .dead, .dead, .dead, .dead, .dead, .dead, .dead, .dead, .dead, .dead, .dead, .dead, .dead, .dead, .dead, .dead, .dead], []⟩
def Bk_laws_heldBackendS_0 {ρ : Type} (fu : Nat) (c : (Sl S_impl_Backend)) (k : Ex → St RT den → Option ρ) (w : Int × Int) (go : (Int × Int) → Option ρ) : Option ρ := F_laws_heldBackendS_B0 fu c (fun a0 => k .ret ⟨[.dead, (.int .i64 a0), .dead, .dead, (.int .i64 (-1)), .dead, .dead, .dead, .dead, .dead, .dead, .dead, .dead, .dead, .dead, .dead, .dead, .dead, .dead, .dead, .dead, .dead, .dead, .dead, .dead, .dead, .dead, .dead, .dead, .dead, .dead, .dead, .dead, .dead, .dead, .dead, .dead, .dead, .dead, .dead, .dead, .dead, .dead, .dead, .dead, .dead, .dead, .dead, .dead, .dead, .dead, .dead, .dead, .dead, .dead, .dead, .dead, .dead, .dead, .dead], []⟩) (fun a0 => k (.exit 0) ⟨[.dead, (.int .i64 a0), .dead, .dead, .dead, .dead, .dead, .dead, .dead, .dead, .dead, .dead, .dead, .dead, .dead, .dead, .dead, .dead, .dead, .dead, .dead, .dead, .dead, .dead, .dead, .dead, .dead, .dead, .dead, .dead, .dead, .dead, .dead, .dead, .dead, .dead, .dead, .dead, .dead, .dead, .dead, .dead, .dead, .dead, .dead, .dead, .dead, .dead, .dead, .dead, .dead, .dead, .dead, .dead, .dead, .dead, .dead, .dead, .dead, .dead], []⟩) w.1 w.2 (fun q0 q1 => go (q0, q1))
def lp_laws_heldBackendS (fu : Nat) : Lp RT den (Int) := fun b s k => match b with | 0 => handle ps_laws_heldBackendS_0 os_laws_heldBackendS_0 conv_laws_heldBackendS_0 (Bk_laws_heldBackendS_0 fu) fu s k | _ => none
theorem ev_laws_heldBackendS (fu : Nat) (a_0 : (Sl S_impl_Backend)) (k_1 : Int) : evFun E (pc_laws_heldBackendS fu) msk_laws_heldBackendS (lp_laws_heldBackendS fu) out_i64 56 [(.rs a_0.z .impl_Backend a_0.n a_0.f), (.int .i64 k_1)] = F_laws_heldBackendS fu a_0 k_1 := by kernel_rfl
noncomputable def body_laws_heldBackendS : Code := Try.f56.body.getD .skip
noncomputable def lc_laws_heldBackendS_0 : Code := ((loops 0 body_laws_heldBackendS).getD 0 (0, .skip)).2
theorem round_laws_heldBackendS_0 (fu : Nat) (it : St RT den → Option (Int)) (k : Ex → St RT den → Option (Int)) c w : evCode E (pc_laws_heldBackendS fu) msk_laws_heldBackendS (lp_laws_heldBackendS fu) 0 lc_laws_heldBackendS_0 (back_laws_heldBackendS_0 c w) (after (msk_laws_heldBackendS 0) (msk_laws_heldBackendS 100000) 0 it k) = Bk_laws_heldBackendS_0 fu c k w (fun w => it (back_laws_heldBackendS_0 c w)) := by kernel_rfl
theorem lpok_laws_heldBackendS_0 (fu : Nat) : ∀ s k r, lp_laws_heldBackendS fu 0 s k = some r → ∃ fuel, iter (msk_laws_heldBackendS 0) (msk_laws_heldBackendS 100000) s.objs.length (evCode E (pc_laws_heldBackendS fu) msk_laws_heldBackendS (lp_laws_heldBackendS fu) 0 lc_laws_heldBackendS_0) fuel s k = some r :=
  handle_ok (ps := ps_laws_heldBackendS_0) (os := os_laws_heldBackendS_0) (conv := conv_laws_heldBackendS_0) (B := Bk_laws_heldBackendS_0 fu) (fu := fu) back_laws_heldBackendS_0 (fun raw => by kernel_rfl) 0 (fun c w => by kernel_rfl) (round_laws_heldBackendS_0 fu)
theorem lpok_laws_heldBackendS (fu : Nat) : LpOk E (pc_laws_heldBackendS fu) msk_laws_heldBackendS (lp_laws_heldBackendS fu) (loops 0 body_laws_heldBackendS) := loop_all 1 (by kernel_rfl) fun i hi => match i, hi with
  | 0, _ => by
    have h : (loops 0 body_laws_heldBackendS).getD 0 (0, .skip) = (0, lc_laws_heldBackendS_0) := by kernel_rfl
    rw [h]; exact lpok_laws_heldBackendS_0 fu
  | i + 1, hi => absurd hi (by omega)
def S_laws_heldBackendS (fu : Nat) (xs : List (D RT den)) : Option (Out RT den) := match xs with | [.rs za0_0 .impl_Backend na0_0 fa0_0, .int .i64 a1_0] => some ⟨Int, F_laws_heldBackendS fu (⟨za0_0, na0_0, fa0_0⟩ : (Sl S_impl_Backend)) a1_0, enc_i64, fun _ => true⟩ | _ => none
theorem hpc_laws_heldBackendS (fu : Nat) : ∀ f xs o, pcf_laws_heldBackendS fu f xs = some o → ∀ y, o.x = some y → Good E Try.prog f xs (o.g y) := by
  intro f xs o h
  cases h
theorem hpx_laws_heldBackendS (fu : Nat) : ∀ f xs ins o, pcx_laws_heldBackendS fu f xs ins = some o → ∀ y, o.x = some y → GoodX E Try.prog f xs ins (o.g y).1 (o.g y).2 := by
  intro f xs ins o h
  cases h
theorem goodv_laws_heldBackendS (fu : Nat) (a_0 : (Sl S_impl_Backend)) (k_1 : Int) (y : Int) (hy : F_laws_heldBackendS fu a_0 k_1 = some y) : Good E Try.prog 56 [(.rs a_0.z .impl_Backend a_0.n a_0.f), (.int .i64 k_1)] (enc_i64 y) :=
  fun_good E_ok (pc_good (pc := pc_laws_heldBackendS fu) (hpc_laws_heldBackendS fu) (hpx_laws_heldBackendS fu)) (fn := Try.f56) (c := body_laws_heldBackendS) (out := out_i64) (y := y) (by kernel_rfl) (by kernel_rfl) (by kernel_rfl) (lpok_laws_heldBackendS fu) (fun d hd => out_i64_enc d _ hd) ((ev_laws_heldBackendS fu a_0 k_1).trans hy)
theorem good_laws_heldBackendS (fu : Nat) : ∀ xs o, S_laws_heldBackendS fu xs = some o → ∀ y, o.x = some y → Good E Try.prog 56 xs (o.g y) := by
  intro xs o h y hy
  unfold S_laws_heldBackendS at h
  split at h
  · rename_i za0_0 na0_0 fa0_0 a1_0
    cases h
    exact goodv_laws_heldBackendS fu (⟨za0_0, na0_0, fa0_0⟩ : (Sl S_impl_Backend)) a1_0 y hy
  · cases h

/-! laws.heldInt64S -/
def F_laws_heldInt64S_B0 {ρ : Type} (fu : Nat) (a0_0 : (Sl Int)) (k0 : Int → Option ρ) (k1 : Int → Option ρ) (k1_1 : Int) (i5_2 : Int) (go : Int → Int → Option ρ) : Option ρ :=
  (bif (decide (i5_2 < ((a0_0.n : Nat) : Int))) then ((bif (decide (0 ≤ i5_2) && decide ((Int.toNat i5_2) < a0_0.n)) then some () else none : Option Unit).bind fun _ => (bif ((a0_0.f (Int.toNat i5_2)) != k1_1) then
    (k0 k1_1) else (go (IntKind.wrap .i64 (k1_1 + 1)) (IntKind.wrap .i64 (i5_2 + 1))))) else (k1 k1_1))
def F_laws_heldInt64S (fu : Nat) (a_0 : (Sl Int)) (k_1 : Int) : Option (Int) :=
  (L (fun w0 go0 => F_laws_heldInt64S_B0 fu a_0 (fun z91 => (some (-1))) (fun z92 => (some z92)) w0.1 w0.2 (fun q0 q1 => go0 (q0, q1))) fu ((k_1, 0) : Int × Int))
def pcf_laws_heldInt64S (fu : Nat) (f : Nat) (xs : List (D RT den)) : Option (Out RT den) := none
def pcx_laws_heldInt64S (fu : Nat) (f : Nat) (xs : List (D RT den)) (ins : List (Ob RT den)) : Option (OutX RT den) := none
def pc_laws_heldInt64S (fu : Nat) : Pc RT den := ⟨pcf_laws_heldInt64S fu, fun _ => false, fun _ => false, pcx_laws_heldInt64S fu⟩
def msk_laws_heldInt64S (b : Nat) : List Nat := match b with | 0 => [2, 3, 4, 6, 7, 8, 9, 10, 11, 12, 13, 14, 15, 16, 17, 18, 19, 20] | 100000 => [0, 2, 3, 5, 6, 7, 8, 9, 10, 11, 12, 13, 14, 15, 16, 17, 18, 19, 20] | _ => []
def ps_laws_heldInt64S_0 : List (Pat RT) := [.flat (.rs .i64), .flat (.int .i64), .flat .dead, .flat .dead, .flat .dead, .flat (.int .i64), .flat .dead, .flat .dead, .flat .dead, .flat .dead, .flat .dead, .flat .dead, .flat .dead, .flat .dead, .flat .dead, .flat .dead, .flat .dead, .flat .dead, .flat .dead, .flat .dead, .flat .dead]
def os_laws_heldInt64S_0 : List (OP RT) := []
def conv_laws_heldInt64S_0 (r : Raw den ps_laws_heldInt64S_0 os_laws_heldInt64S_0) : ((Sl Int)) × (Int × Int) := (r.1.1, (r.1.2.1, r.1.2.2.2.2.2.1))
def back_laws_heldInt64S_0 (c : (Sl Int)) (w : Int × Int) : St RT den := ⟨[(.rs c.z .i64 c.n c.f), (.int .i64 w.1), .dead, .dead, .dead, (.int .i64 w.2), .dead, .dead, .dead, .dead, .dead, .dead, .dead, .dead, .dead, .dead, .dead, .dead, .dead, .dead, .dead], []⟩
def Bk_laws_heldInt64S_0 {ρ : Type} (fu : Nat) (c : (Sl Int)) (k : Ex → St RT den → Option ρ) (w : Int × Int) (go : (Int × Int) → Option ρ) : Option ρ := F_laws_heldInt64S_B0 fu c (fun a0 => k .ret ⟨[.dead, (.int .i64 a0), .dead, .dead, (.int .i64 (-1)), .dead, .dead, .dead, .dead, .dead, .dead, .dead, .dead, .dead, .dead, .dead, .dead, .dead, .dead, .dead, .dead], []⟩) (fun a0 => k (.exit 0) ⟨[.dead, (.int .i64 a0), .dead, .dead, .dead, .dead, .dead, .dead, .dead, .dead, .dead, .dead, .dead, .dead, .dead, .dead, .dead, .dead, .dead, .dead, .dead], []⟩) w.1 w.2 (fun q0 q1 => go (q0, q1))
def lp_laws_heldInt64S (fu : Nat) : Lp RT den (Int) := fun b s k => match b with | 0 => handle ps_laws_heldInt64S_0 os_laws_heldInt64S_0 conv_laws_heldInt64S_0 (Bk_laws_heldInt64S_0 fu) fu s k | _ => none
theorem ev_laws_heldInt64S (fu : Nat) (a_0 : (Sl Int)) (k_1 : Int) : evFun E (pc_laws_heldInt64S fu) msk_laws_heldInt64S (lp_laws_heldInt64S fu) out_i64 52 [(.rs a_0.z .i64 a_0.n a_0.f), (.int .i64 k_1)] = F_laws_heldInt64S fu a_0 k_1 := by kernel_rfl
noncomputable def body_laws_heldInt64S : Code := Try.f52.body.getD .skip
noncomputable def lc_laws_heldInt64S_0 : Code := ((loops 0 body_laws_heldInt64S).getD 0 (0, .skip)).2
theorem round_laws_heldInt64S_0 (fu : Nat) (it : St RT den → Option (Int)) (k : Ex → St RT den → Option (Int)) c w : evCode E (pc_laws_heldInt64S fu) msk_laws_heldInt64S (lp_laws_heldInt64S fu) 0 lc_laws_heldInt64S_0 (back_laws_heldInt64S_0 c w) (after (msk_laws_heldInt64S 0) (msk_laws_heldInt64S 100000) 0 it k) = Bk_laws_heldInt64S_0 fu c k w (fun w => it (back_laws_heldInt64S_0 c w)) := by kernel_rfl
theorem lpok_laws_heldInt64S_0 (fu : Nat) : ∀ s k r, lp_laws_heldInt64S fu 0 s k = some r → ∃ fuel, iter (msk_laws_heldInt64S 0) (msk_laws_heldInt64S 100000) s.objs.length (evCode E (pc_laws_heldInt64S fu) msk_laws_heldInt64S (lp_laws_heldInt64S fu) 0 lc_laws_heldInt64S_0) fuel s k = some r :=
  handle_ok (ps := ps_laws_heldInt64S_0) (os := os_laws_heldInt64S_0) (conv := conv_laws_heldInt64S_0) (B := Bk_laws_heldInt64S_0 fu) (fu := fu) back_laws_heldInt64S_0 (fun raw => by kernel_rfl) 0 (fun c w => by kernel_rfl) (round_laws_heldInt64S_0 fu)
theorem lpok_laws_heldInt64S (fu : Nat) : LpOk E (pc_laws_heldInt64S fu) msk_laws_heldInt64S (lp_laws_heldInt64S fu) (loops 0 body_laws_heldInt64S) := loop_all 1 (by kernel_rfl) fun i hi => match i, hi with
  | 0, _ => by
    have h : (loops 0 body_laws_heldInt64S).getD 0 (0, .skip) = (0, lc_laws_heldInt64S_0) := by kernel_rfl
    rw [h]; exact lpok_laws_heldInt64S_0 fu
  | i + 1, hi => absurd hi (by omega)
def S_laws_heldInt64S (fu : Nat) (xs : List (D RT den)) : Option (Out RT den) := match xs with | [.rs za0_0 .i64 na0_0 fa0_0, .int .i64 a1_0] => some ⟨Int, F_laws_heldInt64S fu (⟨za0_0, na0_0, fa0_0⟩ : (Sl Int)) a1_0, enc_i64, fun _ => true⟩ | _ => none
theorem hpc_laws_heldInt64S (fu : Nat) : ∀ f xs o, pcf_laws_heldInt64S fu f xs = some o → ∀ y, o.x = some y → Good E Try.prog f xs (o.g y) := by
  intro f xs o h
  cases h
theorem hpx_laws_heldInt64S (fu : Nat) : ∀ f xs ins o, pcx_laws_heldInt64S fu f xs ins = some o → ∀ y, o.x = some y → GoodX E Try.prog f xs ins (o.g y).1 (o.g y).2 := by
  intro f xs ins o h
  cases h
theorem goodv_laws_heldInt64S (fu : Nat) (a_0 : (Sl Int)) (k_1 : Int) (y : Int) (hy : F_laws_heldInt64S fu a_0 k_1 = some y) : Good E Try.prog 52 [(.rs a_0.z .i64 a_0.n a_0.f), (.int .i64 k_1)] (enc_i64 y) :=
  fun_good E_ok (pc_good (pc := pc_laws_heldInt64S fu) (hpc_laws_heldInt64S fu) (hpx_laws_heldInt64S fu)) (fn := Try.f52) (c := body_laws_heldInt64S) (out := out_i64) (y := y) (by kernel_rfl) (by kernel_rfl) (by kernel_rfl) (lpok_laws_heldInt64S fu) (fun d hd => out_i64_enc d _ hd) ((ev_laws_heldInt64S fu a_0 k_1).trans hy)
theorem good_laws_heldInt64S (fu : Nat) : ∀ xs o, S_laws_heldInt64S fu xs = some o → ∀ y, o.x = some y → Good E Try.prog 52 xs (o.g y) := by
  intro xs o h y hy
  unfold S_laws_heldInt64S at h
  split at h
  · rename_i za0_0 na0_0 fa0_0 a1_0
    cases h
    exact goodv_laws_heldInt64S fu (⟨za0_0, na0_0, fa0_0⟩ : (Sl Int)) a1_0 y hy
  · cases h

/-! laws.heldVipS -/
def F_laws_heldVipS_B0 {ρ : Type} (fu : Nat) (a0_0 : (Sl S_impl_Vip)) (k0 : Int → Option ρ) (k1 : Int → Option ρ) (k1_1 : Int) (i5_2 : Int) (go : Int → Int → Option ρ) : Option ρ :=
  (bif (decide (i5_2 < ((a0_0.n : Nat) : Int))) then ((bif (decide (0 ≤ i5_2) && decide ((Int.toNat i5_2) < a0_0.n)) then some () else none : Option Unit).bind fun _ => (bif ((a0_0.f (Int.toNat i5_2)).Address != k1_1) then
    (k0 k1_1) else ((bif (decide (0 ≤ i5_2) && decide ((Int.toNat i5_2) < a0_0.n)) then some () else none : Option Unit).bind fun _ => (bif ((a0_0.f (Int.toNat i5_2)).Port != (IntKind.wrap .i64 (k1_1 + 1))) then
    (k0 (IntKind.wrap .i64 (k1_1 + 1))) else ((bif (decide (0 ≤ i5_2) && decide ((Int.toNat i5_2) < a0_0.n)) then some () else none : Option Unit).bind fun _ => (bif ((a0_0.f (Int.toNat i5_2)).Proto != (IntKind.wrap .i64 ((IntKind.wrap .i64 (k1_1 + 1)) + 1))) then
    (k0 (IntKind.wrap .i64 ((IntKind.wrap .i64 (k1_1 + 1)) + 1))) else ((bif (decide (0 ≤ i5_2) && decide ((Int.toNat i5_2) < a0_0.n)) then some () else none : Option Unit).bind fun _ =>
    ((F_laws_heldInt64S fu (a0_0.f (Int.toNat i5_2)).Names (IntKind.wrap .i64 ((IntKind.wrap .i64 ((IntKind.wrap .i64 (k1_1 + 1)) + 1)) + 1))).bind fun y88 => (bif (decide (y88 < 0)) then
    (k0 y88) else (go y88 (IntKind.wrap .i64 (i5_2 + 1)))))))))))) else (k1 k1_1))
def F_laws_heldVipS (fu : Nat) (a_0 : (Sl S_impl_Vip)) (k_1 : Int) : Option (Int) :=
  (L (fun w0 go0 => F_laws_heldVipS_B0 fu a_0 (fun z89 => (some (-1))) (fun z90 => (some z90)) w0.1 w0.2 (fun q0 q1 => go0 (q0, q1))) fu ((k_1, 0) : Int × Int))
def pcf_laws_heldVipS (fu : Nat) (f : Nat) (xs : List (D RT den)) : Option (Out RT den) := match f with | 52 => S_laws_heldInt64S fu xs | _ => none
def pcx_laws_heldVipS (fu : Nat) (f : Nat) (xs : List (D RT den)) (ins : List (Ob RT den)) : Option (OutX RT den) := none
def pc_laws_heldVipS (fu : Nat) : Pc RT den := ⟨pcf_laws_heldVipS fu, fun _ => false, fun _ => false, pcx_laws_heldVipS fu⟩
def msk_laws_heldVipS (b : Nat) : List Nat := match b with | 0 => [2, 3, 4, 6, 7, 8, 9, 10, 11, 12, 13, 14, 15, 16, 17, 18, 19, 20, 21, 22, 23, 24, 25, 26, 27, 28, 29, 30, 31, 32, 33, 34, 35, 36, 37, 38, 39, 40, 41, 42, 43, 44, 45, 46, 47, 48] | 100000 => [0, 2, 3, 5, 6, 7, 8, 9, 10, 11, 12, 13, 14, 15, 16, 17, 18, 19, 20, 21, 22, 23, 24, 25, 26, 27, 28, 29, 30, 31, 32, 33, 34, 35, 36, 37, 38, 39, 40, 41, 42, 43, 44, 45, 46, 47, 48] | _ => []
def ps_laws_heldVipS_0 : List (Pat RT) := [.flat (.rs .impl_Vip), .flat (.int .i64), .flat .dead, .flat .dead, .flat .dead, .flat (.int .i64), .flat .dead, .flat .dead, .flat .dead, .flat .dead, .flat .dead, .flat .dead, .flat .dead, .flat .dead, .flat .dead, .flat .dead, .flat .dead, .flat .dead, .flat .dead, .flat .dead, .flat .dead, .flat .dead, .flat .dead, .flat .dead, .flat .dead, .flat .dead, .flat .dead, .flat .dead, .flat .dead, .flat .dead, .flat .dead, .flat .dead, .flat .dead, .flat .dead, .flat .dead, .flat .dead, .flat .dead, .flat .dead, .flat .dead, .flat .dead, .flat .dead, .flat .dead, .flat .dead, .flat .dead, .flat .dead, .flat .dead, .flat .dead, .flat .dead, .flat .dead]
def os_laws_heldVipS_0 : List (OP RT) := []
def conv_laws_heldVipS_0 (r : Raw den ps_laws_heldVipS_0 os_laws_heldVipS_0) : ((Sl S_impl_Vip)) × (Int × Int) := (r.1.1, (r.1.2.1, r.1.2.2.2.2.2.1))
def back_laws_heldVipS_0 (c : (Sl S_impl_Vip)) (w : Int × Int) : St RT den := ⟨[(.rs c.z .impl_Vip c.n c.f), (.int .i64 w.1), .dead, .dead, .dead, (.int .i64 w.2), .dead, .dead, .dead, .dead, .dead, .dead, .dead, .dead, .dead, .dead, .dead, .dead, .dead, .dead, .dead, .dead, .dead, .dead, .dead, .dead, .dead, .dead, .dead, .dead, .dead, .dead, .dead, .dead, .dead, .dead, .dead, .dead, .dead, .dead, .dead, .dead, .dead, .dead, .dead, .dead, .dead, .dead, .dead], []⟩
def Bk_laws_heldVipS_0 {ρ : Type} (fu : Nat) (c : (Sl S_impl_Vip)) (k : Ex → St RT den → Option ρ) (w : Int × Int) (go : (Int × Int) → Option ρ) : Option ρ := F_laws_heldVipS_B0 fu c (fun a0 => k .ret ⟨[.dead, (.int .i64 a0), .dead, .dead, (.int .i64 (-1)), .dead, .dead, .dead, .dead, .dead, .dead, .dead, .dead, .dead, .dead, .dead, .dead, .dead, .dead, .dead, .dead, .dead, .dead, .dead, .dead, .dead, .dead, .dead, .dead, .dead, .dead, .dead, .dead, .dead, .dead, .dead, .dead, .dead, .dead, .dead, .dead, .dead, .dead, .dead, .dead, .dead, .dead, .dead, .dead], []⟩) (fun a0 => k (.exit 0) ⟨[.dead, (.int .i64 a0), .dead, .dead, .dead, .dead, .dead, .dead, .dead, .dead, .dead, .dead, .dead, .dead, .dead, .dead, .dead, .dead, .dead, .dead, .dead, .dead, .dead, .dead, .dead, .dead, .dead, .dead, .dead, .dead, .dead, .dead, .dead, .dead, .dead, .dead, .dead, .dead, .dead, .dead, .dead, .dead, .dead, .dead, .dead, .dead, .dead, .dead, .dead], []⟩) w.1 w.2 (fun q0 q1 => go (q0, q1))
def lp_laws_heldVipS (fu : Nat) : Lp RT den (Int) := fun b s k => match b with | 0 => handle ps_laws_heldVipS_0 os_laws_heldVipS_0 conv_laws_heldVipS_0 (Bk_laws_heldVipS_0 fu) fu s k | _ => none
theorem ev_laws_heldVipS (fu : Nat) (a_0 : (Sl S_impl_Vip)) (k_1 : Int) : evFun E (pc_laws_heldVipS fu) msk_laws_heldVipS (lp_laws_heldVipS fu) out_i64 57 [(.rs a_0.z .impl_Vip a_0.n a_0.f), (.int .i64 k_1)] = F_laws_heldVipS fu a_0 k_1 := by kernel_rfl
noncomputable def body_laws_heldVipS : Code := Try.f57.body.getD .skip
noncomputable def lc_laws_heldVipS_0 : Code := ((loops 0 body_laws_heldVipS).getD 0 (0, .skip)).2
theorem round_laws_heldVipS_0 (fu : Nat) (it : St RT den → Option (Int)) (k : Ex → St RT den → Option (Int)) c w : evCode E (pc_laws_heldVipS fu) msk_laws_heldVipS (lp_laws_heldVipS fu) 0 lc_laws_heldVipS_0 (back_laws_heldVipS_0 c w) (after (msk_laws_heldVipS 0) (msk_laws_heldVipS 100000) 0 it k) = Bk_laws_heldVipS_0 fu c k w (fun w => it (back_laws_heldVipS_0 c w)) := by kernel_rfl
theorem lpok_laws_heldVipS_0 (fu : Nat) : ∀ s k r, lp_laws_heldVipS fu 0 s k = some r → ∃ fuel, iter (msk_laws_heldVipS 0) (msk_laws_heldVipS 100000) s.objs.length (evCode E (pc_laws_heldVipS fu) msk_laws_heldVipS (lp_laws_heldVipS fu) 0 lc_laws_heldVipS_0) fuel s k = some r :=
  handle_ok (ps := ps_laws_heldVipS_0) (os := os_laws_heldVipS_0) (conv := conv_laws_heldVipS_0) (B := Bk_laws_heldVipS_0 fu) (fu := fu) back_laws_heldVipS_0 (fun raw => by kernel_rfl) 0 (fun c w => by kernel_rfl) (round_laws_heldVipS_0 fu)
theorem lpok_laws_heldVipS (fu : Nat) : LpOk E (pc_laws_heldVipS fu) msk_laws_heldVipS (lp_laws_heldVipS fu) (loops 0 body_laws_heldVipS) := loop_all 1 (by kernel_rfl) fun i hi => match i, hi with
  | 0, _ => by
    have h : (loops 0 body_laws_heldVipS).getD 0 (0, .skip) = (0, lc_laws_heldVipS_0) := by kernel_rfl
    rw [h]; exact lpok_laws_heldVipS_0 fu
  | i + 1, hi => absurd hi (by omega)
def S_laws_heldVipS (fu : Nat) (xs : List (D RT den)) : Option (Out RT den) := match xs with | [.rs za0_0 .impl_Vip na0_0 fa0_0, .int .i64 a1_0] => some ⟨Int, F_laws_heldVipS fu (⟨za0_0, na0_0, fa0_0⟩ : (Sl S_impl_Vip)) a1_0, enc_i64, fun _ => true⟩ | _ => none
theorem hpc_laws_heldVipS (fu : Nat) : ∀ f xs o, pcf_laws_heldVipS fu f xs = some o → ∀ y, o.x = some y → Good E Try.prog f xs (o.g y) := by
  intro f xs o h
  unfold pcf_laws_heldVipS at h
  split at h
  · exact good_laws_heldInt64S fu xs o h
  · cases h
theorem hpx_laws_heldVipS (fu : Nat) : ∀ f xs ins o, pcx_laws_heldVipS fu f xs ins = some o → ∀ y, o.x = some y → GoodX E Try.prog f xs ins (o.g y).1 (o.g y).2 := by
  intro f xs ins o h
  cases h
theorem goodv_laws_heldVipS (fu : Nat) (a_0 : (Sl S_impl_Vip)) (k_1 : Int) (y : Int) (hy : F_laws_heldVipS fu a_0 k_1 = some y) : Good E Try.prog 57 [(.rs a_0.z .impl_Vip a_0.n a_0.f), (.int .i64 k_1)] (enc_i64 y) :=
  fun_good E_ok (pc_good (pc := pc_laws_heldVipS fu) (hpc_laws_heldVipS fu) (hpx_laws_heldVipS fu)) (fn := Try.f57) (c := body_laws_heldVipS) (out := out_i64) (y := y) (by kernel_rfl) (by kernel_rfl) (by kernel_rfl) (lpok_laws_heldVipS fu) (fun d hd => out_i64_enc d _ hd) ((ev_laws_heldVipS fu a_0 k_1).trans hy)
theorem good_laws_heldVipS (fu : Nat) : ∀ xs o, S_laws_heldVipS fu xs = some o → ∀ y, o.x = some y → Good E Try.prog 57 xs (o.g y) := by
  intro xs o h y hy
  unfold S_laws_heldVipS at h
  split at h
  · rename_i za0_0 na0_0 fa0_0 a1_0
    cases h
    exact goodv_laws_heldVipS fu (⟨za0_0, na0_0, fa0_0⟩ : (Sl S_impl_Vip)) a1_0 y hy
  · cases h

/-! laws.heldInt64SS -/
def F_laws_heldInt64SS_B0 {ρ : Type} (fu : Nat) (a0_0 : (Sl (Sl Int))) (k0 : Int → Option ρ) (k1 : Int → Option ρ) (k1_1 : Int) (i5_2 : Int) (go : Int → Int → Option ρ) : Option ρ :=
  (bif (decide (i5_2 < ((a0_0.n : Nat) : Int))) then ((bif (decide (0 ≤ i5_2) && decide ((Int.toNat i5_2) < a0_0.n)) then some () else none : Option Unit).bind fun _ =>
    ((F_laws_heldInt64S fu (a0_0.f (Int.toNat i5_2)) k1_1).bind fun y93 => (bif (decide (y93 < 0)) then (k0 y93) else (go y93 (IntKind.wrap .i64 (i5_2 + 1)))))) else (k1 k1_1))
def F_laws_heldInt64SS (fu : Nat) (a_0 : (Sl (Sl Int))) (k_1 : Int) : Option (Int) :=
  (L (fun w0 go0 => F_laws_heldInt64SS_B0 fu a_0 (fun z94 => (some (-1))) (fun z95 => (some z95)) w0.1 w0.2 (fun q0 q1 => go0 (q0, q1))) fu ((k_1, 0) : Int × Int))
def pcf_laws_heldInt64SS (fu : Nat) (f : Nat) (xs : List (D RT den)) : Option (Out RT den) := match f with | 52 => S_laws_heldInt64S fu xs | _ => none
def pcx_laws_heldInt64SS (fu : Nat) (f : Nat) (xs : List (D RT den)) (ins : List (Ob RT den)) : Option (OutX RT den) := none
def pc_laws_heldInt64SS (fu : Nat) : Pc RT den := ⟨pcf_laws_heldInt64SS fu, fun _ => false, fun _ => false, pcx_laws_heldInt64SS fu⟩
def msk_laws_heldInt64SS (b : Nat) : List Nat := match b with | 0 => [2, 3, 4, 6, 7, 8, 9, 10, 11, 12, 13, 14, 15, 16, 17, 18, 19, 20] | 100000 => [0, 2, 3, 5, 6, 7, 8, 9, 10, 11, 12, 13, 14, 15, 16, 17, 18, 19, 20] | _ => []
def ps_laws_heldInt64SS_0 : List (Pat RT) := [.flat (.rs .sl_i64), .flat (.int .i64), .flat .dead, .flat .dead, .flat .dead, .flat (.int .i64), .flat .dead, .flat .dead, .flat .dead, .flat .dead, .flat .dead, .flat .dead, .flat .dead, .flat .dead, .flat .dead, .flat .dead, .flat .dead, .flat .dead, .flat .dead, .flat .dead, .flat .dead]
def os_laws_heldInt64SS_0 : List (OP RT) := []
def conv_laws_heldInt64SS_0 (r : Raw den ps_laws_heldInt64SS_0 os_laws_heldInt64SS_0) : ((Sl (Sl Int))) × (Int × Int) := (r.1.1, (r.1.2.1, r.1.2.2.2.2.2.1))
def back_laws_heldInt64SS_0 (c : (Sl (Sl Int))) (w : Int × Int) : St RT den := ⟨[(.rs c.z .sl_i64 c.n c.f), (.int .i64 w.1), .dead, .dead, .dead, (.int .i64 w.2), .dead, .dead, .dead, .dead, .dead, .dead, .dead, .dead, .dead, .dead, .dead, .dead, .dead, .dead, .dead], []⟩
def Bk_laws_heldInt64SS_0 {ρ : Type} (fu : Nat) (c : (Sl (Sl Int))) (k : Ex → St RT den → Option ρ) (w : Int × Int) (go : (Int × Int) → Option ρ) : Option ρ := F_laws_heldInt64SS_B0 fu c (fun a0 => k .ret ⟨[.dead, (.int .i64 a0), .dead, .dead, (.int .i64 (-1)), .dead, .dead, .dead, .dead, .dead, .dead, .dead, .dead, .dead, .dead, .dead, .dead, .dead, .dead, .dead, .dead], []⟩) (fun a0 => k (.exit 0) ⟨[.dead, (.int .i64 a0), .dead, .dead, .dead, .dead, .dead, .dead, .dead, .dead, .dead, .dead, .dead, .dead, .dead, .dead, .dead, .dead, .dead, .dead, .dead], []⟩) w.1 w.2 (fun q0 q1 => go (q0, q1))
def lp_laws_heldInt64SS (fu : Nat) : Lp RT den (Int) := fun b s k => match b with | 0 => handle ps_laws_heldInt64SS_0 os_laws_heldInt64SS_0 conv_laws_heldInt64SS_0 (Bk_laws_heldInt64SS_0 fu) fu s k | _ => none
theorem ev_laws_heldInt64SS (fu : Nat) (a_0 : (Sl (Sl Int))) (k_1 : Int) : evFun E (pc_laws_heldInt64SS fu) msk_laws_heldInt64SS (lp_laws_heldInt64SS fu) out_i64 38 [(.rs a_0.z .sl_i64 a_0.n a_0.f), (.int .i64 k_1)] = F_laws_heldInt64SS fu a_0 k_1 := by kernel_rfl
noncomputable def body_laws_heldInt64SS : Code := Try.f38.body.getD .skip
noncomputable def lc_laws_heldInt64SS_0 : Code := ((loops 0 body_laws_heldInt64SS).getD 0 (0, .skip)).2
theorem round_laws_heldInt64SS_0 (fu : Nat) (it : St RT den → Option (Int)) (k : Ex → St RT den → Option (Int)) c w : evCode E (pc_laws_heldInt64SS fu) msk_laws_heldInt64SS (lp_laws_heldInt64SS fu) 0 lc_laws_heldInt64SS_0 (back_laws_heldInt64SS_0 c w) (after (msk_laws_heldInt64SS 0) (msk_laws_heldInt64SS 100000) 0 it k) = Bk_laws_heldInt64SS_0 fu c k w (fun w => it (back_laws_heldInt64SS_0 c w)) := by kernel_rfl
theorem lpok_laws_heldInt64SS_0 (fu : Nat) : ∀ s k r, lp_laws_heldInt64SS fu 0 s k = some r → ∃ fuel, iter (msk_laws_heldInt64SS 0) (msk_laws_heldInt64SS 100000) s.objs.length (evCode E (pc_laws_heldInt64SS fu) msk_laws_heldInt64SS (lp_laws_heldInt64SS fu) 0 lc_laws_heldInt64SS_0) fuel s k = some r :=
  handle_ok (ps := ps_laws_heldInt64SS_0) (os := os_laws_heldInt64SS_0) (conv := conv_laws_heldInt64SS_0) (B := Bk_laws_heldInt64SS_0 fu) (fu := fu) back_laws_heldInt64SS_0 (fun raw => by kernel_rfl) 0 (fun c w => by kernel_rfl) (round_laws_heldInt64SS_0 fu)
theorem lpok_laws_heldInt64SS (fu : Nat) : LpOk E (pc_laws_heldInt64SS fu) msk_laws_heldInt64SS (lp_laws_heldInt64SS fu) (loops 0 body_laws_heldInt64SS) := loop_all 1 (by kernel_rfl) fun i hi => match i, hi with
  | 0, _ => by
    have h : (loops 0 body_laws_heldInt64SS).getD 0 (0, .skip) = (0, lc_laws_heldInt64SS_0) := by kernel_rfl
    rw [h]; exact lpok_laws_heldInt64SS_0 fu
  | i + 1, hi => absurd hi (by omega)
def S_laws_heldInt64SS (fu : Nat) (xs : List (D RT den)) : Option (Out RT den) := match xs with | [.rs za0_0 .sl_i64 na0_0 fa0_0, .int .i64 a1_0] => some ⟨Int, F_laws_heldInt64SS fu (⟨za0_0, na0_0, fa0_0⟩ : (Sl (Sl Int))) a1_0, enc_i64, fun _ => true⟩ | _ => none
theorem hpc_laws_heldInt64SS (fu : Nat) : ∀ f xs o, pcf_laws_heldInt64SS fu f xs = some o → ∀ y, o.x = some y → Good E Try.prog f xs (o.g y) := by
  intro f xs o h
  unfold pcf_laws_heldInt64SS at h
  split at h
  · exact good_laws_heldInt64S fu xs o h
  · cases h
theorem hpx_laws_heldInt64SS (fu : Nat) : ∀ f xs ins o, pcx_laws_heldInt64SS fu f xs ins = some o → ∀ y, o.x = some y → GoodX E Try.prog f xs ins (o.g y).1 (o.g y).2 := by
  intro f xs ins o h
  cases h
theorem goodv_laws_heldInt64SS (fu : Nat) (a_0 : (Sl (Sl Int))) (k_1 : Int) (y : Int) (hy : F_laws_heldInt64SS fu a_0 k_1 = some y) : Good E Try.prog 38 [(.rs a_0.z .sl_i64 a_0.n a_0.f), (.int .i64 k_1)] (enc_i64 y) :=
  fun_good E_ok (pc_good (pc := pc_laws_heldInt64SS fu) (hpc_laws_heldInt64SS fu) (hpx_laws_heldInt64SS fu)) (fn := Try.f38) (c := body_laws_heldInt64SS) (out := out_i64) (y := y) (by kernel_rfl) (by kernel_rfl) (by kernel_rfl) (lpok_laws_heldInt64SS fu) (fun d hd => out_i64_enc d _ hd) ((ev_laws_heldInt64SS fu a_0 k_1).trans hy)
theorem good_laws_heldInt64SS (fu : Nat) : ∀ xs o, S_laws_heldInt64SS fu xs = some o → ∀ y, o.x = some y → Good E Try.prog 38 xs (o.g y) := by
  intro xs o h y hy
  unfold S_laws_heldInt64SS at h
  split at h
  · rename_i za0_0 na0_0 fa0_0 a1_0
    cases h
    exact goodv_laws_heldInt64SS fu (⟨za0_0, na0_0, fa0_0⟩ : (Sl (Sl Int))) a1_0 y hy
  · cases h
end Go.Proofs.Ytaghkcpgpjbdnaa.Pn
