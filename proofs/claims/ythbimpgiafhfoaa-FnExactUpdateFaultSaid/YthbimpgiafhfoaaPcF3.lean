/- The functions' evaluated forms, each a proved summary. Conditions: none. -/
import Derived.Test.YthbimpgiafhfoaaPcF2
namespace Go.Proofs.Ythbimpgiafhfoaa.Pc
open Go Go.RowKit Go.Proofs Vm
set_option linter.unusedVariables false
set_option linter.unusedSimpArgs false
set_option maxRecDepth 100000
/-! laws.eqVipS -/
def F_laws_eqVipS_B0 {ρ : Type} (fu : Nat) (a0_0 : (Sl S_impl_Vip)) (b1_1 : (Sl S_impl_Vip)) (k0 : Option ρ) (k1 : Option ρ) (i5_2 : Int) (go : Int → Option ρ) : Option ρ :=
  (bif (decide (i5_2 < ((a0_0.n : Nat) : Int))) then ((bif (decide (0 ≤ i5_2) && decide ((Int.toNat i5_2) < a0_0.n)) then some () else none : Option Unit).bind fun _ => ((bif (decide (0 ≤ i5_2) &&
    decide ((Int.toNat i5_2) < b1_1.n)) then some () else none : Option Unit).bind fun _ => ((F_laws_eqVip fu (a0_0.f (Int.toNat i5_2)) (b1_1.f (Int.toNat i5_2))).bind fun y140 =>
    (bif (!y140) then k0 else (go (IntKind.wrap .i64 (i5_2 + 1))))))) else k1)
def F_laws_eqVipS (fu : Nat) (a_0 : (Sl S_impl_Vip)) (b_1 : (Sl S_impl_Vip)) : Option (Bool) :=
  (bif (((a_0.n : Nat) : Int) != ((b_1.n : Nat) : Int)) then (some false) else (L (fun w0 go0 => F_laws_eqVipS_B0 fu a_0 b_1 (some false) (some true) w0 go0) fu (0 : Int)))
def pc_laws_eqVipS (fu : Nat) : Pc RT den := fun f xs => match f with | 124 => S_laws_eqVip fu xs | _ => none
def msk_laws_eqVipS (b : Nat) : List Nat := match b with | 0 => [2, 3, 4, 6, 7, 8, 9, 10, 11, 12, 13, 14, 15, 16, 17, 18, 19, 20, 21, 22, 23, 24, 25, 26] | 100000 => [0, 1, 2, 3, 5, 6, 7, 8, 9, 10, 11, 12, 13, 14, 15, 16, 17, 18, 19, 20, 21, 22, 23, 24, 25, 26] | _ => []
def ps_laws_eqVipS_0 : List (Pat RT) := [.flat (.rs .impl_Vip), .flat (.rs .impl_Vip), .flat .dead, .flat .dead, .flat .dead, .flat (.int .i64), .flat .dead, .flat .dead, .flat .dead, .flat .dead, .flat .dead, .flat .dead, .flat .dead, .flat .dead, .flat .dead, .flat .dead, .flat .dead, .flat .dead, .flat .dead, .flat .dead, .flat .dead, .flat .dead, .flat .dead, .flat .dead, .flat .dead, .flat .dead, .flat .dead]
def os_laws_eqVipS_0 : List (OP RT) := []
def conv_laws_eqVipS_0 (r : Raw den ps_laws_eqVipS_0 os_laws_eqVipS_0) : ((Sl S_impl_Vip) × (Sl S_impl_Vip)) × (Int) := ((r.1.1, r.1.2.1), r.1.2.2.2.2.2.1)
def back_laws_eqVipS_0 (c : (Sl S_impl_Vip) × (Sl S_impl_Vip)) (w : Int) : St RT den := ⟨[(.rs c.1.z .impl_Vip c.1.n c.1.f), (.rs c.2.z .impl_Vip c.2.n c.2.f), .dead, .dead, .dead, (.int .i64 w), .dead, .dead, .dead, .dead, .dead, .dead, .dead, .dead, .dead, .dead, .dead, .dead, .dead, .dead, .dead, .dead, .dead, .dead, .dead, .dead, .dead], []⟩
def Bk_laws_eqVipS_0 {ρ : Type} (fu : Nat) (c : (Sl S_impl_Vip) × (Sl S_impl_Vip)) (k : Ex → St RT den → Option ρ) (w : Int) (go : (Int) → Option ρ) : Option ρ := F_laws_eqVipS_B0 fu c.1 c.2 (k .ret ⟨[.dead, .dead, .dead, .dead, (.bool false), .dead, .dead, .dead, .dead, .dead, .dead, .dead, .dead, .dead, .dead, .dead, .dead, .dead, .dead, .dead, .dead, .dead, .dead, .dead, .dead, .dead, .dead], []⟩) (k (.exit 0) ⟨[.dead, .dead, .dead, .dead, .dead, .dead, .dead, .dead, .dead, .dead, .dead, .dead, .dead, .dead, .dead, .dead, .dead, .dead, .dead, .dead, .dead, .dead, .dead, .dead, .dead, .dead, .dead], []⟩) w go
def lp_laws_eqVipS (fu : Nat) : Lp RT den (Bool) := fun b s k => match b with | 0 => handle ps_laws_eqVipS_0 os_laws_eqVipS_0 conv_laws_eqVipS_0 (Bk_laws_eqVipS_0 fu) fu s k | _ => none
theorem ev_laws_eqVipS (fu : Nat) (a_0 : (Sl S_impl_Vip)) (b_1 : (Sl S_impl_Vip)) : evFun E (pc_laws_eqVipS fu) msk_laws_eqVipS (lp_laws_eqVipS fu) out_bo 70 [(.rs a_0.z .impl_Vip a_0.n a_0.f), (.rs b_1.z .impl_Vip b_1.n b_1.f)] = F_laws_eqVipS fu a_0 b_1 := by kernel_rfl
noncomputable def body_laws_eqVipS : Code := Try.f70.body.getD .skip
noncomputable def lc_laws_eqVipS_0 : Code := ((loops 0 body_laws_eqVipS).getD 0 (0, .skip)).2
theorem round_laws_eqVipS_0 (fu : Nat) (it : St RT den → Option (Bool)) (k : Ex → St RT den → Option (Bool)) c w : evCode E (pc_laws_eqVipS fu) msk_laws_eqVipS (lp_laws_eqVipS fu) 0 lc_laws_eqVipS_0 (back_laws_eqVipS_0 c w) (after (msk_laws_eqVipS 0) (msk_laws_eqVipS 100000) 0 it k) = Bk_laws_eqVipS_0 fu c k w (fun w => it (back_laws_eqVipS_0 c w)) := by kernel_rfl
theorem lpok_laws_eqVipS_0 (fu : Nat) : ∀ s k r, lp_laws_eqVipS fu 0 s k = some r → ∃ fuel, iter (msk_laws_eqVipS 0) (msk_laws_eqVipS 100000) s.objs.length (evCode E (pc_laws_eqVipS fu) msk_laws_eqVipS (lp_laws_eqVipS fu) 0 lc_laws_eqVipS_0) fuel s k = some r :=
  handle_ok (ps := ps_laws_eqVipS_0) (os := os_laws_eqVipS_0) (conv := conv_laws_eqVipS_0) (B := Bk_laws_eqVipS_0 fu) (fu := fu) back_laws_eqVipS_0 (fun raw => by kernel_rfl) 0 (fun c w => by kernel_rfl) (round_laws_eqVipS_0 fu)
theorem lpok_laws_eqVipS (fu : Nat) : LpOk E (pc_laws_eqVipS fu) msk_laws_eqVipS (lp_laws_eqVipS fu) (loops 0 body_laws_eqVipS) := loop_all 1 (by kernel_rfl) fun i hi => match i, hi with
  | 0, _ => by
    have h : (loops 0 body_laws_eqVipS).getD 0 (0, .skip) = (0, lc_laws_eqVipS_0) := by kernel_rfl
    rw [h]; exact lpok_laws_eqVipS_0 fu
  | i + 1, hi => absurd hi (by omega)
def S_laws_eqVipS (fu : Nat) (xs : List (D RT den)) : Option (Out RT den) := match xs with | [.rs za0_0 .impl_Vip na0_0 fa0_0, .rs za1_0 .impl_Vip na1_0 fa1_0] => some ⟨Bool, F_laws_eqVipS fu (⟨za0_0, na0_0, fa0_0⟩ : (Sl S_impl_Vip)) (⟨za1_0, na1_0, fa1_0⟩ : (Sl S_impl_Vip)), enc_bo, fun _ => true⟩ | _ => none
theorem hpc_laws_eqVipS (fu : Nat) : ∀ f xs o, pc_laws_eqVipS fu f xs = some o → ∀ y, o.x = some y → Good E Try.prog f xs (o.g y) := by
  intro f xs o h
  unfold pc_laws_eqVipS at h
  split at h
  · exact good_laws_eqVip fu xs o h
  · cases h
theorem goodv_laws_eqVipS (fu : Nat) (a_0 : (Sl S_impl_Vip)) (b_1 : (Sl S_impl_Vip)) (y : Bool) (hy : F_laws_eqVipS fu a_0 b_1 = some y) : Good E Try.prog 70 [(.rs a_0.z .impl_Vip a_0.n a_0.f), (.rs b_1.z .impl_Vip b_1.n b_1.f)] (enc_bo y) :=
  fun_good E_ok (pc_good (hpc_laws_eqVipS fu)) (fn := Try.f70) (c := body_laws_eqVipS) (out := out_bo) (y := y) (by kernel_rfl) (by kernel_rfl) (by kernel_rfl) (lpok_laws_eqVipS fu) (fun d hd => out_bo_enc d _ hd) ((ev_laws_eqVipS fu a_0 b_1).trans hy)
theorem good_laws_eqVipS (fu : Nat) : ∀ xs o, S_laws_eqVipS fu xs = some o → ∀ y, o.x = some y → Good E Try.prog 70 xs (o.g y) := by
  intro xs o h y hy
  unfold S_laws_eqVipS at h
  split at h
  · rename_i za0_0 na0_0 fa0_0 za1_0 na1_0 fa1_0
    cases h
    exact goodv_laws_eqVipS fu (⟨za0_0, na0_0, fa0_0⟩ : (Sl S_impl_Vip)) (⟨za1_0, na1_0, fa1_0⟩ : (Sl S_impl_Vip)) y hy
  · cases h

/-! laws.eqConfig -/
def F_laws_eqConfig (fu : Nat) (a_0 : S_impl_Config) (b_1 : S_impl_Config) : Option (Bool) :=
  (bif (a_0.Version != b_1.Version) then (some false) else ((F_laws_eqBackendS fu a_0.Backends b_1.Backends).bind fun y137 => (bif (!y137) then (some false) else ((F_laws_eqVipS fu a_0.Vips b_1.Vips).bind fun y138 =>
    (bif (!y138) then (some false) else (some true))))))
def pc_laws_eqConfig (fu : Nat) : Pc RT den := fun f xs => match f with | 69 => S_laws_eqBackendS fu xs | 70 => S_laws_eqVipS fu xs | _ => none
def msk_laws_eqConfig (b : Nat) : List Nat := []
def lp_laws_eqConfig (fu : Nat) : Lp RT den (Bool) := fun b s k => none
theorem ev_laws_eqConfig (fu : Nat) (a_0 : S_impl_Config) (b_1 : S_impl_Config) : evFun E (pc_laws_eqConfig fu) msk_laws_eqConfig (lp_laws_eqConfig fu) out_bo 27 [(.agg [(.int .i64 a_0.Version), (.rs a_0.Backends.z .impl_Backend a_0.Backends.n a_0.Backends.f), (.rs a_0.Vips.z .impl_Vip a_0.Vips.n a_0.Vips.f)]), (.agg [(.int .i64 b_1.Version), (.rs b_1.Backends.z .impl_Backend b_1.Backends.n b_1.Backends.f), (.rs b_1.Vips.z .impl_Vip b_1.Vips.n b_1.Vips.f)])] = F_laws_eqConfig fu a_0 b_1 := by kernel_rfl
noncomputable def body_laws_eqConfig : Code := Try.f27.body.getD .skip
theorem lpok_laws_eqConfig (fu : Nat) : LpOk E (pc_laws_eqConfig fu) msk_laws_eqConfig (lp_laws_eqConfig fu) (loops 0 body_laws_eqConfig) := by
  have h : loops 0 body_laws_eqConfig = [] := by kernel_rfl
  rw [h]; intro p hp; cases hp
def S_laws_eqConfig (fu : Nat) (xs : List (D RT den)) : Option (Out RT den) := match xs with | [.agg [.int .i64 a0_1, .rs za0_2 .impl_Backend na0_2 fa0_2, .rs za0_3 .impl_Vip na0_3 fa0_3], .agg [.int .i64 a1_1, .rs za1_2 .impl_Backend na1_2 fa1_2, .rs za1_3 .impl_Vip na1_3 fa1_3]] => some ⟨Bool, F_laws_eqConfig fu (⟨a0_1, (⟨za0_2, na0_2, fa0_2⟩ : (Sl S_impl_Backend)), (⟨za0_3, na0_3, fa0_3⟩ : (Sl S_impl_Vip))⟩ : S_impl_Config) (⟨a1_1, (⟨za1_2, na1_2, fa1_2⟩ : (Sl S_impl_Backend)), (⟨za1_3, na1_3, fa1_3⟩ : (Sl S_impl_Vip))⟩ : S_impl_Config), enc_bo, fun _ => true⟩ | _ => none
theorem hpc_laws_eqConfig (fu : Nat) : ∀ f xs o, pc_laws_eqConfig fu f xs = some o → ∀ y, o.x = some y → Good E Try.prog f xs (o.g y) := by
  intro f xs o h
  unfold pc_laws_eqConfig at h
  split at h
  · exact good_laws_eqBackendS fu xs o h
  · exact good_laws_eqVipS fu xs o h
  · cases h
theorem goodv_laws_eqConfig (fu : Nat) (a_0 : S_impl_Config) (b_1 : S_impl_Config) (y : Bool) (hy : F_laws_eqConfig fu a_0 b_1 = some y) : Good E Try.prog 27 [(.agg [(.int .i64 a_0.Version), (.rs a_0.Backends.z .impl_Backend a_0.Backends.n a_0.Backends.f), (.rs a_0.Vips.z .impl_Vip a_0.Vips.n a_0.Vips.f)]), (.agg [(.int .i64 b_1.Version), (.rs b_1.Backends.z .impl_Backend b_1.Backends.n b_1.Backends.f), (.rs b_1.Vips.z .impl_Vip b_1.Vips.n b_1.Vips.f)])] (enc_bo y) :=
  fun_good E_ok (pc_good (hpc_laws_eqConfig fu)) (fn := Try.f27) (c := body_laws_eqConfig) (out := out_bo) (y := y) (by kernel_rfl) (by kernel_rfl) (by kernel_rfl) (lpok_laws_eqConfig fu) (fun d hd => out_bo_enc d _ hd) ((ev_laws_eqConfig fu a_0 b_1).trans hy)
theorem good_laws_eqConfig (fu : Nat) : ∀ xs o, S_laws_eqConfig fu xs = some o → ∀ y, o.x = some y → Good E Try.prog 27 xs (o.g y) := by
  intro xs o h y hy
  unfold S_laws_eqConfig at h
  split at h
  · rename_i a0_1 za0_2 na0_2 fa0_2 za0_3 na0_3 fa0_3 a1_1 za1_2 na1_2 fa1_2 za1_3 na1_3 fa1_3
    cases h
    exact goodv_laws_eqConfig fu (⟨a0_1, (⟨za0_2, na0_2, fa0_2⟩ : (Sl S_impl_Backend)), (⟨za0_3, na0_3, fa0_3⟩ : (Sl S_impl_Vip))⟩ : S_impl_Config) (⟨a1_1, (⟨za1_2, na1_2, fa1_2⟩ : (Sl S_impl_Backend)), (⟨za1_3, na1_3, fa1_3⟩ : (Sl S_impl_Vip))⟩ : S_impl_Config) y hy
  · cases h

/-! laws.eqSession -/
def F_laws_eqSession (fu : Nat) (a_0 : S_impl_Session) (b_1 : S_impl_Session) : Option (Bool) :=
  (bif (a_0.Client != b_1.Client) then (some false) else (bif (a_0.Seq != b_1.Seq) then (some false) else (bif (a_0.Code != b_1.Code) then (some false) else (some true))))
def pc_laws_eqSession (fu : Nat) : Pc RT den := fun f xs => none
def msk_laws_eqSession (b : Nat) : List Nat := []
def lp_laws_eqSession (fu : Nat) : Lp RT den (Bool) := fun b s k => none
theorem ev_laws_eqSession (fu : Nat) (a_0 : S_impl_Session) (b_1 : S_impl_Session) : evFun E (pc_laws_eqSession fu) msk_laws_eqSession (lp_laws_eqSession fu) out_bo 105 [(.agg [(.int .i64 a_0.Client), (.int .i64 a_0.Seq), (.int .i64 a_0.Code)]), (.agg [(.int .i64 b_1.Client), (.int .i64 b_1.Seq), (.int .i64 b_1.Code)])] = F_laws_eqSession fu a_0 b_1 := by kernel_rfl
noncomputable def body_laws_eqSession : Code := Try.f105.body.getD .skip
theorem lpok_laws_eqSession (fu : Nat) : LpOk E (pc_laws_eqSession fu) msk_laws_eqSession (lp_laws_eqSession fu) (loops 0 body_laws_eqSession) := by
  have h : loops 0 body_laws_eqSession = [] := by kernel_rfl
  rw [h]; intro p hp; cases hp
def S_laws_eqSession (fu : Nat) (xs : List (D RT den)) : Option (Out RT den) := match xs with | [.agg [.int .i64 a0_1, .int .i64 a0_2, .int .i64 a0_3], .agg [.int .i64 a1_1, .int .i64 a1_2, .int .i64 a1_3]] => some ⟨Bool, F_laws_eqSession fu (⟨a0_1, a0_2, a0_3⟩ : S_impl_Session) (⟨a1_1, a1_2, a1_3⟩ : S_impl_Session), enc_bo, fun _ => true⟩ | _ => none
theorem hpc_laws_eqSession (fu : Nat) : ∀ f xs o, pc_laws_eqSession fu f xs = some o → ∀ y, o.x = some y → Good E Try.prog f xs (o.g y) := by
  intro f xs o h
  cases h
theorem goodv_laws_eqSession (fu : Nat) (a_0 : S_impl_Session) (b_1 : S_impl_Session) (y : Bool) (hy : F_laws_eqSession fu a_0 b_1 = some y) : Good E Try.prog 105 [(.agg [(.int .i64 a_0.Client), (.int .i64 a_0.Seq), (.int .i64 a_0.Code)]), (.agg [(.int .i64 b_1.Client), (.int .i64 b_1.Seq), (.int .i64 b_1.Code)])] (enc_bo y) :=
  fun_good E_ok (pc_good (hpc_laws_eqSession fu)) (fn := Try.f105) (c := body_laws_eqSession) (out := out_bo) (y := y) (by kernel_rfl) (by kernel_rfl) (by kernel_rfl) (lpok_laws_eqSession fu) (fun d hd => out_bo_enc d _ hd) ((ev_laws_eqSession fu a_0 b_1).trans hy)
theorem good_laws_eqSession (fu : Nat) : ∀ xs o, S_laws_eqSession fu xs = some o → ∀ y, o.x = some y → Good E Try.prog 105 xs (o.g y) := by
  intro xs o h y hy
  unfold S_laws_eqSession at h
  split at h
  · rename_i a0_1 a0_2 a0_3 a1_1 a1_2 a1_3
    cases h
    exact goodv_laws_eqSession fu (⟨a0_1, a0_2, a0_3⟩ : S_impl_Session) (⟨a1_1, a1_2, a1_3⟩ : S_impl_Session) y hy
  · cases h

/-! laws.eqSessionS -/
def F_laws_eqSessionS_B0 {ρ : Type} (fu : Nat) (a0_0 : (Sl S_impl_Session)) (b1_1 : (Sl S_impl_Session)) (k0 : Option ρ) (k1 : Option ρ) (i5_2 : Int) (go : Int → Option ρ) : Option ρ :=
  (bif (decide (i5_2 < ((a0_0.n : Nat) : Int))) then ((bif (decide (0 ≤ i5_2) && decide ((Int.toNat i5_2) < a0_0.n)) then some () else none : Option Unit).bind fun _ => ((bif (decide (0 ≤ i5_2) &&
    decide ((Int.toNat i5_2) < b1_1.n)) then some () else none : Option Unit).bind fun _ => ((F_laws_eqSession fu (a0_0.f (Int.toNat i5_2)) (b1_1.f (Int.toNat i5_2))).bind fun y142 =>
    (bif (!y142) then k0 else (go (IntKind.wrap .i64 (i5_2 + 1))))))) else k1)
def F_laws_eqSessionS (fu : Nat) (a_0 : (Sl S_impl_Session)) (b_1 : (Sl S_impl_Session)) : Option (Bool) :=
  (bif (((a_0.n : Nat) : Int) != ((b_1.n : Nat) : Int)) then (some false) else (L (fun w0 go0 => F_laws_eqSessionS_B0 fu a_0 b_1 (some false) (some true) w0 go0) fu (0 : Int)))
def pc_laws_eqSessionS (fu : Nat) : Pc RT den := fun f xs => match f with | 105 => S_laws_eqSession fu xs | _ => none
def msk_laws_eqSessionS (b : Nat) : List Nat := match b with | 0 => [2, 3, 4, 6, 7, 8, 9, 10, 11, 12, 13, 14, 15, 16, 17, 18, 19, 20, 21, 22, 23, 24, 25, 26] | 100000 => [0, 1, 2, 3, 5, 6, 7, 8, 9, 10, 11, 12, 13, 14, 15, 16, 17, 18, 19, 20, 21, 22, 23, 24, 25, 26] | _ => []
def ps_laws_eqSessionS_0 : List (Pat RT) := [.flat (.rs .impl_Session), .flat (.rs .impl_Session), .flat .dead, .flat .dead, .flat .dead, .flat (.int .i64), .flat .dead, .flat .dead, .flat .dead, .flat .dead, .flat .dead, .flat .dead, .flat .dead, .flat .dead, .flat .dead, .flat .dead, .flat .dead, .flat .dead, .flat .dead, .flat .dead, .flat .dead, .flat .dead, .flat .dead, .flat .dead, .flat .dead, .flat .dead, .flat .dead]
def os_laws_eqSessionS_0 : List (OP RT) := []
def conv_laws_eqSessionS_0 (r : Raw den ps_laws_eqSessionS_0 os_laws_eqSessionS_0) : ((Sl S_impl_Session) × (Sl S_impl_Session)) × (Int) := ((r.1.1, r.1.2.1), r.1.2.2.2.2.2.1)
def back_laws_eqSessionS_0 (c : (Sl S_impl_Session) × (Sl S_impl_Session)) (w : Int) : St RT den := ⟨[(.rs c.1.z .impl_Session c.1.n c.1.f), (.rs c.2.z .impl_Session c.2.n c.2.f), .dead, .dead, .dead, (.int .i64 w), .dead, .dead, .dead, .dead, .dead, .dead, .dead, .dead, .dead, .dead, .dead, .dead, .dead, .dead, .dead, .dead, .dead, .dead, .dead, .dead, .dead], []⟩
def Bk_laws_eqSessionS_0 {ρ : Type} (fu : Nat) (c : (Sl S_impl_Session) × (Sl S_impl_Session)) (k : Ex → St RT den → Option ρ) (w : Int) (go : (Int) → Option ρ) : Option ρ := F_laws_eqSessionS_B0 fu c.1 c.2 (k .ret ⟨[.dead, .dead, .dead, .dead, (.bool false), .dead, .dead, .dead, .dead, .dead, .dead, .dead, .dead, .dead, .dead, .dead, .dead, .dead, .dead, .dead, .dead, .dead, .dead, .dead, .dead, .dead, .dead], []⟩) (k (.exit 0) ⟨[.dead, .dead, .dead, .dead, .dead, .dead, .dead, .dead, .dead, .dead, .dead, .dead, .dead, .dead, .dead, .dead, .dead, .dead, .dead, .dead, .dead, .dead, .dead, .dead, .dead, .dead, .dead], []⟩) w go
def lp_laws_eqSessionS (fu : Nat) : Lp RT den (Bool) := fun b s k => match b with | 0 => handle ps_laws_eqSessionS_0 os_laws_eqSessionS_0 conv_laws_eqSessionS_0 (Bk_laws_eqSessionS_0 fu) fu s k | _ => none
theorem ev_laws_eqSessionS (fu : Nat) (a_0 : (Sl S_impl_Session)) (b_1 : (Sl S_impl_Session)) : evFun E (pc_laws_eqSessionS fu) msk_laws_eqSessionS (lp_laws_eqSessionS fu) out_bo 50 [(.rs a_0.z .impl_Session a_0.n a_0.f), (.rs b_1.z .impl_Session b_1.n b_1.f)] = F_laws_eqSessionS fu a_0 b_1 := by kernel_rfl
noncomputable def body_laws_eqSessionS : Code := Try.f50.body.getD .skip
noncomputable def lc_laws_eqSessionS_0 : Code := ((loops 0 body_laws_eqSessionS).getD 0 (0, .skip)).2
theorem round_laws_eqSessionS_0 (fu : Nat) (it : St RT den → Option (Bool)) (k : Ex → St RT den → Option (Bool)) c w : evCode E (pc_laws_eqSessionS fu) msk_laws_eqSessionS (lp_laws_eqSessionS fu) 0 lc_laws_eqSessionS_0 (back_laws_eqSessionS_0 c w) (after (msk_laws_eqSessionS 0) (msk_laws_eqSessionS 100000) 0 it k) = Bk_laws_eqSessionS_0 fu c k w (fun w => it (back_laws_eqSessionS_0 c w)) := by kernel_rfl
theorem lpok_laws_eqSessionS_0 (fu : Nat) : ∀ s k r, lp_laws_eqSessionS fu 0 s k = some r → ∃ fuel, iter (msk_laws_eqSessionS 0) (msk_laws_eqSessionS 100000) s.objs.length (evCode E (pc_laws_eqSessionS fu) msk_laws_eqSessionS (lp_laws_eqSessionS fu) 0 lc_laws_eqSessionS_0) fuel s k = some r :=
  handle_ok (ps := ps_laws_eqSessionS_0) (os := os_laws_eqSessionS_0) (conv := conv_laws_eqSessionS_0) (B := Bk_laws_eqSessionS_0 fu) (fu := fu) back_laws_eqSessionS_0 (fun raw => by kernel_rfl) 0 (fun c w => by kernel_rfl) (round_laws_eqSessionS_0 fu)
theorem lpok_laws_eqSessionS (fu : Nat) : LpOk E (pc_laws_eqSessionS fu) msk_laws_eqSessionS (lp_laws_eqSessionS fu) (loops 0 body_laws_eqSessionS) := loop_all 1 (by kernel_rfl) fun i hi => match i, hi with
  | 0, _ => by
    have h : (loops 0 body_laws_eqSessionS).getD 0 (0, .skip) = (0, lc_laws_eqSessionS_0) := by kernel_rfl
    rw [h]; exact lpok_laws_eqSessionS_0 fu
  | i + 1, hi => absurd hi (by omega)
def S_laws_eqSessionS (fu : Nat) (xs : List (D RT den)) : Option (Out RT den) := match xs with | [.rs za0_0 .impl_Session na0_0 fa0_0, .rs za1_0 .impl_Session na1_0 fa1_0] => some ⟨Bool, F_laws_eqSessionS fu (⟨za0_0, na0_0, fa0_0⟩ : (Sl S_impl_Session)) (⟨za1_0, na1_0, fa1_0⟩ : (Sl S_impl_Session)), enc_bo, fun _ => true⟩ | _ => none
theorem hpc_laws_eqSessionS (fu : Nat) : ∀ f xs o, pc_laws_eqSessionS fu f xs = some o → ∀ y, o.x = some y → Good E Try.prog f xs (o.g y) := by
  intro f xs o h
  unfold pc_laws_eqSessionS at h
  split at h
  · exact good_laws_eqSession fu xs o h
  · cases h
theorem goodv_laws_eqSessionS (fu : Nat) (a_0 : (Sl S_impl_Session)) (b_1 : (Sl S_impl_Session)) (y : Bool) (hy : F_laws_eqSessionS fu a_0 b_1 = some y) : Good E Try.prog 50 [(.rs a_0.z .impl_Session a_0.n a_0.f), (.rs b_1.z .impl_Session b_1.n b_1.f)] (enc_bo y) :=
  fun_good E_ok (pc_good (hpc_laws_eqSessionS fu)) (fn := Try.f50) (c := body_laws_eqSessionS) (out := out_bo) (y := y) (by kernel_rfl) (by kernel_rfl) (by kernel_rfl) (lpok_laws_eqSessionS fu) (fun d hd => out_bo_enc d _ hd) ((ev_laws_eqSessionS fu a_0 b_1).trans hy)
theorem good_laws_eqSessionS (fu : Nat) : ∀ xs o, S_laws_eqSessionS fu xs = some o → ∀ y, o.x = some y → Good E Try.prog 50 xs (o.g y) := by
  intro xs o h y hy
  unfold S_laws_eqSessionS at h
  split at h
  · rename_i za0_0 na0_0 fa0_0 za1_0 na1_0 fa1_0
    cases h
    exact goodv_laws_eqSessionS fu (⟨za0_0, na0_0, fa0_0⟩ : (Sl S_impl_Session)) (⟨za1_0, na1_0, fa1_0⟩ : (Sl S_impl_Session)) y hy
  · cases h

/-! laws.eqMachine -/
def F_laws_eqMachine (fu : Nat) (a_0 : S_impl_Machine) (b_1 : S_impl_Machine) : Option (Bool) :=
  ((F_laws_eqConfig fu a_0.Config b_1.Config).bind fun y135 => (bif (!y135) then (some false) else ((F_laws_eqSessionS fu a_0.Sessions b_1.Sessions).bind fun y136 => (bif (!y136) then
    (some false) else (some true)))))
def pc_laws_eqMachine (fu : Nat) : Pc RT den := fun f xs => match f with | 27 => S_laws_eqConfig fu xs | 50 => S_laws_eqSessionS fu xs | _ => none
def msk_laws_eqMachine (b : Nat) : List Nat := []
def lp_laws_eqMachine (fu : Nat) : Lp RT den (Bool) := fun b s k => none
theorem ev_laws_eqMachine (fu : Nat) (a_0 : S_impl_Machine) (b_1 : S_impl_Machine) : evFun E (pc_laws_eqMachine fu) msk_laws_eqMachine (lp_laws_eqMachine fu) out_bo 13 [(.agg [(.int .i64 a_0.Config.Version), (.rs a_0.Config.Backends.z .impl_Backend a_0.Config.Backends.n a_0.Config.Backends.f), (.rs a_0.Config.Vips.z .impl_Vip a_0.Config.Vips.n a_0.Config.Vips.f), (.rs a_0.Sessions.z .impl_Session a_0.Sessions.n a_0.Sessions.f)]), (.agg [(.int .i64 b_1.Config.Version), (.rs b_1.Config.Backends.z .impl_Backend b_1.Config.Backends.n b_1.Config.Backends.f), (.rs b_1.Config.Vips.z .impl_Vip b_1.Config.Vips.n b_1.Config.Vips.f), (.rs b_1.Sessions.z .impl_Session b_1.Sessions.n b_1.Sessions.f)])] = F_laws_eqMachine fu a_0 b_1 := by kernel_rfl
noncomputable def body_laws_eqMachine : Code := Try.f13.body.getD .skip
theorem lpok_laws_eqMachine (fu : Nat) : LpOk E (pc_laws_eqMachine fu) msk_laws_eqMachine (lp_laws_eqMachine fu) (loops 0 body_laws_eqMachine) := by
  have h : loops 0 body_laws_eqMachine = [] := by kernel_rfl
  rw [h]; intro p hp; cases hp
def S_laws_eqMachine (fu : Nat) (xs : List (D RT den)) : Option (Out RT den) := match xs with | [.agg [.int .i64 a0_2, .rs za0_3 .impl_Backend na0_3 fa0_3, .rs za0_4 .impl_Vip na0_4 fa0_4, .rs za0_5 .impl_Session na0_5 fa0_5], .agg [.int .i64 a1_2, .rs za1_3 .impl_Backend na1_3 fa1_3, .rs za1_4 .impl_Vip na1_4 fa1_4, .rs za1_5 .impl_Session na1_5 fa1_5]] => some ⟨Bool, F_laws_eqMachine fu (⟨(⟨a0_2, (⟨za0_3, na0_3, fa0_3⟩ : (Sl S_impl_Backend)), (⟨za0_4, na0_4, fa0_4⟩ : (Sl S_impl_Vip))⟩ : S_impl_Config), (⟨za0_5, na0_5, fa0_5⟩ : (Sl S_impl_Session))⟩ : S_impl_Machine) (⟨(⟨a1_2, (⟨za1_3, na1_3, fa1_3⟩ : (Sl S_impl_Backend)), (⟨za1_4, na1_4, fa1_4⟩ : (Sl S_impl_Vip))⟩ : S_impl_Config), (⟨za1_5, na1_5, fa1_5⟩ : (Sl S_impl_Session))⟩ : S_impl_Machine), enc_bo, fun _ => true⟩ | _ => none
theorem hpc_laws_eqMachine (fu : Nat) : ∀ f xs o, pc_laws_eqMachine fu f xs = some o → ∀ y, o.x = some y → Good E Try.prog f xs (o.g y) := by
  intro f xs o h
  unfold pc_laws_eqMachine at h
  split at h
  · exact good_laws_eqConfig fu xs o h
  · exact good_laws_eqSessionS fu xs o h
  · cases h
theorem goodv_laws_eqMachine (fu : Nat) (a_0 : S_impl_Machine) (b_1 : S_impl_Machine) (y : Bool) (hy : F_laws_eqMachine fu a_0 b_1 = some y) : Good E Try.prog 13 [(.agg [(.int .i64 a_0.Config.Version), (.rs a_0.Config.Backends.z .impl_Backend a_0.Config.Backends.n a_0.Config.Backends.f), (.rs a_0.Config.Vips.z .impl_Vip a_0.Config.Vips.n a_0.Config.Vips.f), (.rs a_0.Sessions.z .impl_Session a_0.Sessions.n a_0.Sessions.f)]), (.agg [(.int .i64 b_1.Config.Version), (.rs b_1.Config.Backends.z .impl_Backend b_1.Config.Backends.n b_1.Config.Backends.f), (.rs b_1.Config.Vips.z .impl_Vip b_1.Config.Vips.n b_1.Config.Vips.f), (.rs b_1.Sessions.z .impl_Session b_1.Sessions.n b_1.Sessions.f)])] (enc_bo y) :=
  fun_good E_ok (pc_good (hpc_laws_eqMachine fu)) (fn := Try.f13) (c := body_laws_eqMachine) (out := out_bo) (y := y) (by kernel_rfl) (by kernel_rfl) (by kernel_rfl) (lpok_laws_eqMachine fu) (fun d hd => out_bo_enc d _ hd) ((ev_laws_eqMachine fu a_0 b_1).trans hy)
theorem good_laws_eqMachine (fu : Nat) : ∀ xs o, S_laws_eqMachine fu xs = some o → ∀ y, o.x = some y → Good E Try.prog 13 xs (o.g y) := by
  intro xs o h y hy
  unfold S_laws_eqMachine at h
  split at h
  · rename_i a0_2 za0_3 na0_3 fa0_3 za0_4 na0_4 fa0_4 za0_5 na0_5 fa0_5 a1_2 za1_3 na1_3 fa1_3 za1_4 na1_4 fa1_4 za1_5 na1_5 fa1_5
    cases h
    exact goodv_laws_eqMachine fu (⟨(⟨a0_2, (⟨za0_3, na0_3, fa0_3⟩ : (Sl S_impl_Backend)), (⟨za0_4, na0_4, fa0_4⟩ : (Sl S_impl_Vip))⟩ : S_impl_Config), (⟨za0_5, na0_5, fa0_5⟩ : (Sl S_impl_Session))⟩ : S_impl_Machine) (⟨(⟨a1_2, (⟨za1_3, na1_3, fa1_3⟩ : (Sl S_impl_Backend)), (⟨za1_4, na1_4, fa1_4⟩ : (Sl S_impl_Vip))⟩ : S_impl_Config), (⟨za1_5, na1_5, fa1_5⟩ : (Sl S_impl_Session))⟩ : S_impl_Machine) y hy
  · cases h

/-! laws.FnExactMachineFault -/
def F_laws_FnExactMachineFault (fu : Nat) (aM_0 : S_laws_Machine) : Option (Bool) :=
  ((F_laws_szMachine fu aM_0 1048576).bind fun y1 => (bif (decide (y1 < 0)) then (some true) else ((F_laws_toMachine fu aM_0).bind fun y2 => ((F_spec_MachineFault fu y2).bind fun y3 =>
    ((F_laws_toMachine fu aM_0).bind fun y4 => ((F_impl_MachineFault fu y4).bind fun y5 => (bif (y5 != y3) then (some false) else ((F_laws_toMachine fu aM_0).bind fun y6 =>
    ((F_laws_eqMachine fu y4 y6).bind fun y7 => (bif (!y7) then (some false) else (some true)))))))))))
def pc_laws_FnExactMachineFault (fu : Nat) : Pc RT den := fun f xs => match f with | 9 => S_laws_szMachine fu xs | 10 => S_spec_MachineFault fu xs | 11 => S_laws_toMachine fu xs | 12 => S_impl_MachineFault fu xs | 13 => S_laws_eqMachine fu xs | _ => none
def msk_laws_FnExactMachineFault (b : Nat) : List Nat := []
def lp_laws_FnExactMachineFault (fu : Nat) : Lp RT den (Bool) := fun b s k => none
theorem ev_laws_FnExactMachineFault (fu : Nat) (aM_0 : S_laws_Machine) : evFun E (pc_laws_FnExactMachineFault fu) msk_laws_FnExactMachineFault (lp_laws_FnExactMachineFault fu) out_bo 3 [(.agg [(.int .i64 aM_0.Config.Version), (.rs aM_0.Config.Backends.z .impl_Backend aM_0.Config.Backends.n aM_0.Config.Backends.f), (.rs aM_0.Config.Vips.z .impl_Vip aM_0.Config.Vips.n aM_0.Config.Vips.f), (.rs aM_0.Sessions.z .impl_Session aM_0.Sessions.n aM_0.Sessions.f)])] = F_laws_FnExactMachineFault fu aM_0 := by kernel_rfl
noncomputable def body_laws_FnExactMachineFault : Code := Try.f3.body.getD .skip
theorem lpok_laws_FnExactMachineFault (fu : Nat) : LpOk E (pc_laws_FnExactMachineFault fu) msk_laws_FnExactMachineFault (lp_laws_FnExactMachineFault fu) (loops 0 body_laws_FnExactMachineFault) := by
  have h : loops 0 body_laws_FnExactMachineFault = [] := by kernel_rfl
  rw [h]; intro p hp; cases hp
def S_laws_FnExactMachineFault (fu : Nat) (xs : List (D RT den)) : Option (Out RT den) := match xs with | [.agg [.int .i64 a0_2, .rs za0_3 .impl_Backend na0_3 fa0_3, .rs za0_4 .impl_Vip na0_4 fa0_4, .rs za0_5 .impl_Session na0_5 fa0_5]] => some ⟨Bool, F_laws_FnExactMachineFault fu (⟨(⟨a0_2, (⟨za0_3, na0_3, fa0_3⟩ : (Sl S_impl_Backend)), (⟨za0_4, na0_4, fa0_4⟩ : (Sl S_impl_Vip))⟩ : S_laws_Config), (⟨za0_5, na0_5, fa0_5⟩ : (Sl S_impl_Session))⟩ : S_laws_Machine), enc_bo, fun _ => true⟩ | _ => none
theorem hpc_laws_FnExactMachineFault (fu : Nat) : ∀ f xs o, pc_laws_FnExactMachineFault fu f xs = some o → ∀ y, o.x = some y → Good E Try.prog f xs (o.g y) := by
  intro f xs o h
  unfold pc_laws_FnExactMachineFault at h
  split at h
  · exact good_laws_szMachine fu xs o h
  · exact good_spec_MachineFault fu xs o h
  · exact good_laws_toMachine fu xs o h
  · exact good_impl_MachineFault fu xs o h
  · exact good_laws_eqMachine fu xs o h
  · cases h
theorem goodv_laws_FnExactMachineFault (fu : Nat) (aM_0 : S_laws_Machine) (y : Bool) (hy : F_laws_FnExactMachineFault fu aM_0 = some y) : Good E Try.prog 3 [(.agg [(.int .i64 aM_0.Config.Version), (.rs aM_0.Config.Backends.z .impl_Backend aM_0.Config.Backends.n aM_0.Config.Backends.f), (.rs aM_0.Config.Vips.z .impl_Vip aM_0.Config.Vips.n aM_0.Config.Vips.f), (.rs aM_0.Sessions.z .impl_Session aM_0.Sessions.n aM_0.Sessions.f)])] (enc_bo y) :=
  fun_good E_ok (pc_good (hpc_laws_FnExactMachineFault fu)) (fn := Try.f3) (c := body_laws_FnExactMachineFault) (out := out_bo) (y := y) (by kernel_rfl) (by kernel_rfl) (by kernel_rfl) (lpok_laws_FnExactMachineFault fu) (fun d hd => out_bo_enc d _ hd) ((ev_laws_FnExactMachineFault fu aM_0).trans hy)
theorem good_laws_FnExactMachineFault (fu : Nat) : ∀ xs o, S_laws_FnExactMachineFault fu xs = some o → ∀ y, o.x = some y → Good E Try.prog 3 xs (o.g y) := by
  intro xs o h y hy
  unfold S_laws_FnExactMachineFault at h
  split at h
  · rename_i a0_2 za0_3 na0_3 fa0_3 za0_4 na0_4 fa0_4 za0_5 na0_5 fa0_5
    cases h
    exact goodv_laws_FnExactMachineFault fu (⟨(⟨a0_2, (⟨za0_3, na0_3, fa0_3⟩ : (Sl S_impl_Backend)), (⟨za0_4, na0_4, fa0_4⟩ : (Sl S_impl_Vip))⟩ : S_laws_Config), (⟨za0_5, na0_5, fa0_5⟩ : (Sl S_impl_Session))⟩ : S_laws_Machine) y hy
  · cases h

/-! laws.szCmdS -/
def F_laws_szCmdS (fu : Nat) (a_0 : (Sl S_impl_Cmd)) (left_1 : Int) : Option (Int) :=
  (bif (decide ((IntKind.wrap .i64 (left_1 - ((a_0.n : Nat) : Int))) < 0)) then (some (-1)) else (some (IntKind.wrap .i64 (left_1 - ((a_0.n : Nat) : Int)))))
def pc_laws_szCmdS (fu : Nat) : Pc RT den := fun f xs => none
def msk_laws_szCmdS (b : Nat) : List Nat := []
def lp_laws_szCmdS (fu : Nat) : Lp RT den (Int) := fun b s k => none
theorem ev_laws_szCmdS (fu : Nat) (a_0 : (Sl S_impl_Cmd)) (left_1 : Int) : evFun E (pc_laws_szCmdS fu) msk_laws_szCmdS (lp_laws_szCmdS fu) out_i64 53 [(.rs a_0.z .impl_Cmd a_0.n a_0.f), (.int .i64 left_1)] = F_laws_szCmdS fu a_0 left_1 := by kernel_rfl
noncomputable def body_laws_szCmdS : Code := Try.f53.body.getD .skip
theorem lpok_laws_szCmdS (fu : Nat) : LpOk E (pc_laws_szCmdS fu) msk_laws_szCmdS (lp_laws_szCmdS fu) (loops 0 body_laws_szCmdS) := by
  have h : loops 0 body_laws_szCmdS = [] := by kernel_rfl
  rw [h]; intro p hp; cases hp
def S_laws_szCmdS (fu : Nat) (xs : List (D RT den)) : Option (Out RT den) := match xs with | [.rs za0_0 .impl_Cmd na0_0 fa0_0, .int .i64 a1_0] => some ⟨Int, F_laws_szCmdS fu (⟨za0_0, na0_0, fa0_0⟩ : (Sl S_impl_Cmd)) a1_0, enc_i64, fun _ => true⟩ | _ => none
theorem hpc_laws_szCmdS (fu : Nat) : ∀ f xs o, pc_laws_szCmdS fu f xs = some o → ∀ y, o.x = some y → Good E Try.prog f xs (o.g y) := by
  intro f xs o h
  cases h
theorem goodv_laws_szCmdS (fu : Nat) (a_0 : (Sl S_impl_Cmd)) (left_1 : Int) (y : Int) (hy : F_laws_szCmdS fu a_0 left_1 = some y) : Good E Try.prog 53 [(.rs a_0.z .impl_Cmd a_0.n a_0.f), (.int .i64 left_1)] (enc_i64 y) :=
  fun_good E_ok (pc_good (hpc_laws_szCmdS fu)) (fn := Try.f53) (c := body_laws_szCmdS) (out := out_i64) (y := y) (by kernel_rfl) (by kernel_rfl) (by kernel_rfl) (lpok_laws_szCmdS fu) (fun d hd => out_i64_enc d _ hd) ((ev_laws_szCmdS fu a_0 left_1).trans hy)
theorem good_laws_szCmdS (fu : Nat) : ∀ xs o, S_laws_szCmdS fu xs = some o → ∀ y, o.x = some y → Good E Try.prog 53 xs (o.g y) := by
  intro xs o h y hy
  unfold S_laws_szCmdS at h
  split at h
  · rename_i za0_0 na0_0 fa0_0 a1_0
    cases h
    exact goodv_laws_szCmdS fu (⟨za0_0, na0_0, fa0_0⟩ : (Sl S_impl_Cmd)) a1_0 y hy
  · cases h

/-! laws.szUpdate -/
def F_laws_szUpdate (fu : Nat) (a_0 : S_laws_Update) (left_1 : Int) : Option (Int) :=
  ((F_laws_szConfig fu a_0.Config left_1).bind fun y150 => (bif (decide (y150 < 0)) then (some (-1)) else ((F_laws_szCmdS fu a_0.Cmds y150).bind fun y151 => (bif (decide (y151 < 0)) then
    (some (-1)) else (some y151)))))
def pc_laws_szUpdate (fu : Nat) : Pc RT den := fun f xs => match f with | 22 => S_laws_szConfig fu xs | 53 => S_laws_szCmdS fu xs | _ => none
def msk_laws_szUpdate (b : Nat) : List Nat := []
def lp_laws_szUpdate (fu : Nat) : Lp RT den (Int) := fun b s k => none
theorem ev_laws_szUpdate (fu : Nat) (a_0 : S_laws_Update) (left_1 : Int) : evFun E (pc_laws_szUpdate fu) msk_laws_szUpdate (lp_laws_szUpdate fu) out_i64 17 [(.agg [(.int .i64 a_0.From), (.int .i64 a_0.To), (.bool a_0.Full), (.int .i64 a_0.Config.Version), (.rs a_0.Config.Backends.z .impl_Backend a_0.Config.Backends.n a_0.Config.Backends.f), (.rs a_0.Config.Vips.z .impl_Vip a_0.Config.Vips.n a_0.Config.Vips.f), (.rs a_0.Cmds.z .impl_Cmd a_0.Cmds.n a_0.Cmds.f)]), (.int .i64 left_1)] = F_laws_szUpdate fu a_0 left_1 := by kernel_rfl
noncomputable def body_laws_szUpdate : Code := Try.f17.body.getD .skip
theorem lpok_laws_szUpdate (fu : Nat) : LpOk E (pc_laws_szUpdate fu) msk_laws_szUpdate (lp_laws_szUpdate fu) (loops 0 body_laws_szUpdate) := by
  have h : loops 0 body_laws_szUpdate = [] := by kernel_rfl
  rw [h]; intro p hp; cases hp
def S_laws_szUpdate (fu : Nat) (xs : List (D RT den)) : Option (Out RT den) := match xs with | [.agg [.int .i64 a0_1, .int .i64 a0_2, .bool a0_3, .int .i64 a0_5, .rs za0_6 .impl_Backend na0_6 fa0_6, .rs za0_7 .impl_Vip na0_7 fa0_7, .rs za0_8 .impl_Cmd na0_8 fa0_8], .int .i64 a1_0] => some ⟨Int, F_laws_szUpdate fu (⟨a0_1, a0_2, a0_3, (⟨a0_5, (⟨za0_6, na0_6, fa0_6⟩ : (Sl S_impl_Backend)), (⟨za0_7, na0_7, fa0_7⟩ : (Sl S_impl_Vip))⟩ : S_laws_Config), (⟨za0_8, na0_8, fa0_8⟩ : (Sl S_impl_Cmd))⟩ : S_laws_Update) a1_0, enc_i64, fun _ => true⟩ | _ => none
theorem hpc_laws_szUpdate (fu : Nat) : ∀ f xs o, pc_laws_szUpdate fu f xs = some o → ∀ y, o.x = some y → Good E Try.prog f xs (o.g y) := by
  intro f xs o h
  unfold pc_laws_szUpdate at h
  split at h
  · exact good_laws_szConfig fu xs o h
  · exact good_laws_szCmdS fu xs o h
  · cases h
theorem goodv_laws_szUpdate (fu : Nat) (a_0 : S_laws_Update) (left_1 : Int) (y : Int) (hy : F_laws_szUpdate fu a_0 left_1 = some y) : Good E Try.prog 17 [(.agg [(.int .i64 a_0.From), (.int .i64 a_0.To), (.bool a_0.Full), (.int .i64 a_0.Config.Version), (.rs a_0.Config.Backends.z .impl_Backend a_0.Config.Backends.n a_0.Config.Backends.f), (.rs a_0.Config.Vips.z .impl_Vip a_0.Config.Vips.n a_0.Config.Vips.f), (.rs a_0.Cmds.z .impl_Cmd a_0.Cmds.n a_0.Cmds.f)]), (.int .i64 left_1)] (enc_i64 y) :=
  fun_good E_ok (pc_good (hpc_laws_szUpdate fu)) (fn := Try.f17) (c := body_laws_szUpdate) (out := out_i64) (y := y) (by kernel_rfl) (by kernel_rfl) (by kernel_rfl) (lpok_laws_szUpdate fu) (fun d hd => out_i64_enc d _ hd) ((ev_laws_szUpdate fu a_0 left_1).trans hy)
theorem good_laws_szUpdate (fu : Nat) : ∀ xs o, S_laws_szUpdate fu xs = some o → ∀ y, o.x = some y → Good E Try.prog 17 xs (o.g y) := by
  intro xs o h y hy
  unfold S_laws_szUpdate at h
  split at h
  · rename_i a0_1 a0_2 a0_3 a0_5 za0_6 na0_6 fa0_6 za0_7 na0_7 fa0_7 za0_8 na0_8 fa0_8 a1_0
    cases h
    exact goodv_laws_szUpdate fu (⟨a0_1, a0_2, a0_3, (⟨a0_5, (⟨za0_6, na0_6, fa0_6⟩ : (Sl S_impl_Backend)), (⟨za0_7, na0_7, fa0_7⟩ : (Sl S_impl_Vip))⟩ : S_laws_Config), (⟨za0_8, na0_8, fa0_8⟩ : (Sl S_impl_Cmd))⟩ : S_laws_Update) a1_0 y hy
  · cases h

/-! laws.toCmd -/
def F_laws_toCmd (fu : Nat) (a_0 : S_impl_Cmd) : Option (S_impl_Cmd) :=
  (some a_0)
def pc_laws_toCmd (fu : Nat) : Pc RT den := fun f xs => none
def msk_laws_toCmd (b : Nat) : List Nat := []
def lp_laws_toCmd (fu : Nat) : Lp RT den (S_impl_Cmd) := fun b s k => none
theorem ev_laws_toCmd (fu : Nat) (a_0 : S_impl_Cmd) : evFun E (pc_laws_toCmd fu) msk_laws_toCmd (lp_laws_toCmd fu) out_impl_Cmd 116 [(.agg [(.int .i64 a_0.Kind), (.int .i64 a_0.Expect), (.int .i64 a_0.Name), (.int .i64 a_0.Addr), (.int .i64 a_0.Number), (.int .i64 a_0.Proto)])] = F_laws_toCmd fu a_0 := by kernel_rfl
noncomputable def body_laws_toCmd : Code := Try.f116.body.getD .skip
theorem lpok_laws_toCmd (fu : Nat) : LpOk E (pc_laws_toCmd fu) msk_laws_toCmd (lp_laws_toCmd fu) (loops 0 body_laws_toCmd) := by
  have h : loops 0 body_laws_toCmd = [] := by kernel_rfl
  rw [h]; intro p hp; cases hp
def S_laws_toCmd (fu : Nat) (xs : List (D RT den)) : Option (Out RT den) := match xs with | [.agg [.int .i64 a0_1, .int .i64 a0_2, .int .i64 a0_3, .int .i64 a0_4, .int .i64 a0_5, .int .i64 a0_6]] => some ⟨S_impl_Cmd, F_laws_toCmd fu (⟨a0_1, a0_2, a0_3, a0_4, a0_5, a0_6⟩ : S_impl_Cmd), enc_impl_Cmd, fun _ => true⟩ | _ => none
theorem hpc_laws_toCmd (fu : Nat) : ∀ f xs o, pc_laws_toCmd fu f xs = some o → ∀ y, o.x = some y → Good E Try.prog f xs (o.g y) := by
  intro f xs o h
  cases h
theorem goodv_laws_toCmd (fu : Nat) (a_0 : S_impl_Cmd) (y : S_impl_Cmd) (hy : F_laws_toCmd fu a_0 = some y) : Good E Try.prog 116 [(.agg [(.int .i64 a_0.Kind), (.int .i64 a_0.Expect), (.int .i64 a_0.Name), (.int .i64 a_0.Addr), (.int .i64 a_0.Number), (.int .i64 a_0.Proto)])] (enc_impl_Cmd y) :=
  fun_good E_ok (pc_good (hpc_laws_toCmd fu)) (fn := Try.f116) (c := body_laws_toCmd) (out := out_impl_Cmd) (y := y) (by kernel_rfl) (by kernel_rfl) (by kernel_rfl) (lpok_laws_toCmd fu) (fun d hd => out_impl_Cmd_enc d _ hd) ((ev_laws_toCmd fu a_0).trans hy)
theorem good_laws_toCmd (fu : Nat) : ∀ xs o, S_laws_toCmd fu xs = some o → ∀ y, o.x = some y → Good E Try.prog 116 xs (o.g y) := by
  intro xs o h y hy
  unfold S_laws_toCmd at h
  split at h
  · rename_i a0_1 a0_2 a0_3 a0_4 a0_5 a0_6
    cases h
    exact goodv_laws_toCmd fu (⟨a0_1, a0_2, a0_3, a0_4, a0_5, a0_6⟩ : S_impl_Cmd) y hy
  · cases h

/-! laws.toCmdS -/
def F_laws_toCmdS_B0 {ρ : Type} (fu : Nat) (a0_0 : (Sl S_impl_Cmd)) (out3_1 : Nat) (on0_3 : Nat) (k0 : (Nat → S_impl_Cmd) → Option ρ) (i4_2 : Int) (of0_4 : (Nat → S_impl_Cmd)) (go : Int → (Nat → S_impl_Cmd) → Option ρ) : Option ρ :=
  (bif (decide (i4_2 < ((a0_0.n : Nat) : Int))) then ((bif (decide (0 ≤ i4_2) && decide ((Int.toNat i4_2) < a0_0.n)) then some () else none : Option Unit).bind fun _ =>
    ((F_laws_toCmd fu (a0_0.f (Int.toNat i4_2))).bind fun y154 => ((bif (decide (0 ≤ i4_2) && decide ((Int.toNat i4_2) < out3_1)) then some () else none : Option Unit).bind fun _ =>
    (go (IntKind.wrap .i64 (i4_2 + 1)) (fun j => if j = (Int.toNat i4_2) then y154 else of0_4 j))))) else (k0 of0_4))
def F_laws_toCmdS (fu : Nat) (a_0 : (Sl S_impl_Cmd)) : Option ((Sl S_impl_Cmd)) :=
  (bif (decide (0 ≤ ((a_0.n : Nat) : Int)) && (decide (((a_0.n : Nat) : Int) = ((a_0.n : Nat) : Int)) && (decide ((48 : Int) * ((a_0.n : Nat) : Int) ≤ 281474976710656) && decide (((a_0.n : Nat) : Int) ≤ 9223372036854775807)))) then
    (L (fun w0 go0 => F_laws_toCmdS_B0 fu a_0 (Int.toNat ((a_0.n : Nat) : Int)) (Int.toNat ((a_0.n : Nat) : Int)) (fun z155 => (some (⟨none, (Int.toNat ((a_0.n : Nat) : Int)), z155⟩ : (Sl S_impl_Cmd)))) w0.1 w0.2 (fun q0 q1 =>
    go0 (q0, q1))) fu ((0, (fun _ => (⟨0, 0, 0, 0, 0, 0⟩ : S_impl_Cmd))) : Int × (Nat → S_impl_Cmd))) else none)
def pc_laws_toCmdS (fu : Nat) : Pc RT den := fun f xs => match f with | 116 => S_laws_toCmd fu xs | _ => none
def msk_laws_toCmdS (b : Nat) : List Nat := match b with | 0 => [1, 2, 5, 6, 7, 8, 9, 10, 11, 12, 13, 14, 15, 16, 17, 18, 19, 20, 21, 22] | 100000 => [0, 1, 4, 5, 6, 7, 8, 9, 10, 11, 12, 13, 14, 15, 16, 17, 18, 19, 20, 21, 22] | _ => []
def ps_laws_toCmdS_0 : List (Pat RT) := [.flat (.rs .impl_Cmd), .flat .dead, .flat .dead, .flat (.os 0), .flat (.int .i64), .flat .dead, .flat .dead, .flat .dead, .flat .dead, .flat .dead, .flat .dead, .flat .dead, .flat .dead, .flat .dead, .flat .dead, .flat .dead, .flat .dead, .flat .dead, .flat .dead, .flat .dead, .flat .dead, .flat .dead, .flat .dead]
def os_laws_toCmdS_0 : List (OP RT) := [.row .impl_Cmd]
def conv_laws_toCmdS_0 (r : Raw den ps_laws_toCmdS_0 os_laws_toCmdS_0) : ((Sl S_impl_Cmd) × Nat × Nat) × (Int × (Nat → S_impl_Cmd)) := ((r.1.1, r.1.2.2.2.1, r.2.1.1), (r.1.2.2.2.2.1, r.2.1.2))
def back_laws_toCmdS_0 (c : (Sl S_impl_Cmd) × Nat × Nat) (w : Int × (Nat → S_impl_Cmd)) : St RT den := ⟨[(.rs c.1.z .impl_Cmd c.1.n c.1.f), .dead, .dead, (.os 0 c.2.1), (.int .i64 w.1), .dead, .dead, .dead, .dead, .dead, .dead, .dead, .dead, .dead, .dead, .dead, .dead, .dead, .dead, .dead, .dead, .dead, .dead], [(.row .impl_Cmd c.2.2 w.2)]⟩
def Bk_laws_toCmdS_0 {ρ : Type} (fu : Nat) (c : (Sl S_impl_Cmd) × Nat × Nat) (k : Ex → St RT den → Option ρ) (w : Int × (Nat → S_impl_Cmd)) (go : (Int × (Nat → S_impl_Cmd)) → Option ρ) : Option ρ := F_laws_toCmdS_B0 fu c.1 c.2.1 c.2.2 (fun a0 => k (.exit 0) ⟨[.dead, .dead, .dead, (.os 0 c.2.1), .dead, .dead, .dead, .dead, .dead, .dead, .dead, .dead, .dead, .dead, .dead, .dead, .dead, .dead, .dead, .dead, .dead, .dead, .dead], [(.row .impl_Cmd c.2.2 a0)]⟩) w.1 w.2 (fun q0 q1 => go (q0, q1))
def lp_laws_toCmdS (fu : Nat) : Lp RT den ((Sl S_impl_Cmd)) := fun b s k => match b with | 0 => handle ps_laws_toCmdS_0 os_laws_toCmdS_0 conv_laws_toCmdS_0 (Bk_laws_toCmdS_0 fu) fu s k | _ => none
theorem ev_laws_toCmdS (fu : Nat) (a_0 : (Sl S_impl_Cmd)) : evFun E (pc_laws_toCmdS fu) msk_laws_toCmdS (lp_laws_toCmdS fu) out_sl_impl_Cmd 58 [(.rs a_0.z .impl_Cmd a_0.n a_0.f)] = F_laws_toCmdS fu a_0 := by kernel_rfl
noncomputable def body_laws_toCmdS : Code := Try.f58.body.getD .skip
noncomputable def lc_laws_toCmdS_0 : Code := ((loops 0 body_laws_toCmdS).getD 0 (0, .skip)).2
theorem round_laws_toCmdS_0 (fu : Nat) (it : St RT den → Option ((Sl S_impl_Cmd))) (k : Ex → St RT den → Option ((Sl S_impl_Cmd))) c w : evCode E (pc_laws_toCmdS fu) msk_laws_toCmdS (lp_laws_toCmdS fu) 0 lc_laws_toCmdS_0 (back_laws_toCmdS_0 c w) (after (msk_laws_toCmdS 0) (msk_laws_toCmdS 100000) 1 it k) = Bk_laws_toCmdS_0 fu c k w (fun w => it (back_laws_toCmdS_0 c w)) := by kernel_rfl
theorem lpok_laws_toCmdS_0 (fu : Nat) : ∀ s k r, lp_laws_toCmdS fu 0 s k = some r → ∃ fuel, iter (msk_laws_toCmdS 0) (msk_laws_toCmdS 100000) s.objs.length (evCode E (pc_laws_toCmdS fu) msk_laws_toCmdS (lp_laws_toCmdS fu) 0 lc_laws_toCmdS_0) fuel s k = some r :=
  handle_ok (ps := ps_laws_toCmdS_0) (os := os_laws_toCmdS_0) (conv := conv_laws_toCmdS_0) (B := Bk_laws_toCmdS_0 fu) (fu := fu) back_laws_toCmdS_0 (fun raw => by kernel_rfl) 1 (fun c w => by kernel_rfl) (round_laws_toCmdS_0 fu)
theorem lpok_laws_toCmdS (fu : Nat) : LpOk E (pc_laws_toCmdS fu) msk_laws_toCmdS (lp_laws_toCmdS fu) (loops 0 body_laws_toCmdS) := loop_all 1 (by kernel_rfl) fun i hi => match i, hi with
  | 0, _ => by
    have h : (loops 0 body_laws_toCmdS).getD 0 (0, .skip) = (0, lc_laws_toCmdS_0) := by kernel_rfl
    rw [h]; exact lpok_laws_toCmdS_0 fu
  | i + 1, hi => absurd hi (by omega)
def S_laws_toCmdS (fu : Nat) (xs : List (D RT den)) : Option (Out RT den) := match xs with | [.rs za0_0 .impl_Cmd na0_0 fa0_0] => some ⟨(Sl S_impl_Cmd), F_laws_toCmdS fu (⟨za0_0, na0_0, fa0_0⟩ : (Sl S_impl_Cmd)), enc_sl_impl_Cmd, fun _ => true⟩ | _ => none
theorem hpc_laws_toCmdS (fu : Nat) : ∀ f xs o, pc_laws_toCmdS fu f xs = some o → ∀ y, o.x = some y → Good E Try.prog f xs (o.g y) := by
  intro f xs o h
  unfold pc_laws_toCmdS at h
  split at h
  · exact good_laws_toCmd fu xs o h
  · cases h
theorem goodv_laws_toCmdS (fu : Nat) (a_0 : (Sl S_impl_Cmd)) (y : (Sl S_impl_Cmd)) (hy : F_laws_toCmdS fu a_0 = some y) : Good E Try.prog 58 [(.rs a_0.z .impl_Cmd a_0.n a_0.f)] (enc_sl_impl_Cmd y) :=
  fun_good E_ok (pc_good (hpc_laws_toCmdS fu)) (fn := Try.f58) (c := body_laws_toCmdS) (out := out_sl_impl_Cmd) (y := y) (by kernel_rfl) (by kernel_rfl) (by kernel_rfl) (lpok_laws_toCmdS fu) (fun d hd => out_sl_impl_Cmd_enc d _ hd) ((ev_laws_toCmdS fu a_0).trans hy)
theorem good_laws_toCmdS (fu : Nat) : ∀ xs o, S_laws_toCmdS fu xs = some o → ∀ y, o.x = some y → Good E Try.prog 58 xs (o.g y) := by
  intro xs o h y hy
  unfold S_laws_toCmdS at h
  split at h
  · rename_i za0_0 na0_0 fa0_0
    cases h
    exact goodv_laws_toCmdS fu (⟨za0_0, na0_0, fa0_0⟩ : (Sl S_impl_Cmd)) y hy
  · cases h

/-! laws.toUpdate -/
def F_laws_toUpdate (fu : Nat) (a_0 : S_laws_Update) : Option (S_impl_Update) :=
  ((F_laws_toConfig fu a_0.Config).bind fun y152 => ((F_laws_toCmdS fu a_0.Cmds).bind fun y153 => (some (⟨a_0.From, a_0.To, a_0.Full, y152, y153⟩ : S_impl_Update))))
def pc_laws_toUpdate (fu : Nat) : Pc RT den := fun f xs => match f with | 24 => S_laws_toConfig fu xs | 58 => S_laws_toCmdS fu xs | _ => none
def msk_laws_toUpdate (b : Nat) : List Nat := []
def lp_laws_toUpdate (fu : Nat) : Lp RT den (S_impl_Update) := fun b s k => none
theorem ev_laws_toUpdate (fu : Nat) (a_0 : S_laws_Update) : evFun E (pc_laws_toUpdate fu) msk_laws_toUpdate (lp_laws_toUpdate fu) out_impl_Update 19 [(.agg [(.int .i64 a_0.From), (.int .i64 a_0.To), (.bool a_0.Full), (.int .i64 a_0.Config.Version), (.rs a_0.Config.Backends.z .impl_Backend a_0.Config.Backends.n a_0.Config.Backends.f), (.rs a_0.Config.Vips.z .impl_Vip a_0.Config.Vips.n a_0.Config.Vips.f), (.rs a_0.Cmds.z .impl_Cmd a_0.Cmds.n a_0.Cmds.f)])] = F_laws_toUpdate fu a_0 := by kernel_rfl
noncomputable def body_laws_toUpdate : Code := Try.f19.body.getD .skip
theorem lpok_laws_toUpdate (fu : Nat) : LpOk E (pc_laws_toUpdate fu) msk_laws_toUpdate (lp_laws_toUpdate fu) (loops 0 body_laws_toUpdate) := by
  have h : loops 0 body_laws_toUpdate = [] := by kernel_rfl
  rw [h]; intro p hp; cases hp
def S_laws_toUpdate (fu : Nat) (xs : List (D RT den)) : Option (Out RT den) := match xs with | [.agg [.int .i64 a0_1, .int .i64 a0_2, .bool a0_3, .int .i64 a0_5, .rs za0_6 .impl_Backend na0_6 fa0_6, .rs za0_7 .impl_Vip na0_7 fa0_7, .rs za0_8 .impl_Cmd na0_8 fa0_8]] => some ⟨S_impl_Update, F_laws_toUpdate fu (⟨a0_1, a0_2, a0_3, (⟨a0_5, (⟨za0_6, na0_6, fa0_6⟩ : (Sl S_impl_Backend)), (⟨za0_7, na0_7, fa0_7⟩ : (Sl S_impl_Vip))⟩ : S_laws_Config), (⟨za0_8, na0_8, fa0_8⟩ : (Sl S_impl_Cmd))⟩ : S_laws_Update), enc_impl_Update, fun _ => true⟩ | _ => none
theorem hpc_laws_toUpdate (fu : Nat) : ∀ f xs o, pc_laws_toUpdate fu f xs = some o → ∀ y, o.x = some y → Good E Try.prog f xs (o.g y) := by
  intro f xs o h
  unfold pc_laws_toUpdate at h
  split at h
  · exact good_laws_toConfig fu xs o h
  · exact good_laws_toCmdS fu xs o h
  · cases h
theorem goodv_laws_toUpdate (fu : Nat) (a_0 : S_laws_Update) (y : S_impl_Update) (hy : F_laws_toUpdate fu a_0 = some y) : Good E Try.prog 19 [(.agg [(.int .i64 a_0.From), (.int .i64 a_0.To), (.bool a_0.Full), (.int .i64 a_0.Config.Version), (.rs a_0.Config.Backends.z .impl_Backend a_0.Config.Backends.n a_0.Config.Backends.f), (.rs a_0.Config.Vips.z .impl_Vip a_0.Config.Vips.n a_0.Config.Vips.f), (.rs a_0.Cmds.z .impl_Cmd a_0.Cmds.n a_0.Cmds.f)])] (enc_impl_Update y) :=
  fun_good E_ok (pc_good (hpc_laws_toUpdate fu)) (fn := Try.f19) (c := body_laws_toUpdate) (out := out_impl_Update) (y := y) (by kernel_rfl) (by kernel_rfl) (by kernel_rfl) (lpok_laws_toUpdate fu) (fun d hd => out_impl_Update_enc d _ hd) ((ev_laws_toUpdate fu a_0).trans hy)
theorem good_laws_toUpdate (fu : Nat) : ∀ xs o, S_laws_toUpdate fu xs = some o → ∀ y, o.x = some y → Good E Try.prog 19 xs (o.g y) := by
  intro xs o h y hy
  unfold S_laws_toUpdate at h
  split at h
  · rename_i a0_1 a0_2 a0_3 a0_5 za0_6 na0_6 fa0_6 za0_7 na0_7 fa0_7 za0_8 na0_8 fa0_8
    cases h
    exact goodv_laws_toUpdate fu (⟨a0_1, a0_2, a0_3, (⟨a0_5, (⟨za0_6, na0_6, fa0_6⟩ : (Sl S_impl_Backend)), (⟨za0_7, na0_7, fa0_7⟩ : (Sl S_impl_Vip))⟩ : S_laws_Config), (⟨za0_8, na0_8, fa0_8⟩ : (Sl S_impl_Cmd))⟩ : S_laws_Update) y hy
  · cases h

/-! spec.l13Empty -/
def F_spec_l13Empty (fu : Nat) (c_0 : S_impl_Config) : Option (Bool) :=
  (((bif (c_0.Version == 0) then (bif (((c_0.Backends.n : Nat) : Int) == 0) then (some (((c_0.Vips.n : Nat) : Int) == 0)) else (some false)) else (some false)) : Option Bool).bind fun m164 =>
    (some m164))
def pc_spec_l13Empty (fu : Nat) : Pc RT den := fun f xs => none
def msk_spec_l13Empty (b : Nat) : List Nat := match b with | 200001 => [2] | _ => []
def lp_spec_l13Empty (fu : Nat) : Lp RT den (Bool) := fun b s k => none
theorem ev_spec_l13Empty (fu : Nat) (c_0 : S_impl_Config) : evFun E (pc_spec_l13Empty fu) msk_spec_l13Empty (lp_spec_l13Empty fu) out_bo 56 [(.rptr [(.int .i64 c_0.Version), (.rs c_0.Backends.z .impl_Backend c_0.Backends.n c_0.Backends.f), (.rs c_0.Vips.z .impl_Vip c_0.Vips.n c_0.Vips.f)])] = F_spec_l13Empty fu c_0 := by kernel_rfl
noncomputable def body_spec_l13Empty : Code := Try.f56.body.getD .skip
theorem lpok_spec_l13Empty (fu : Nat) : LpOk E (pc_spec_l13Empty fu) msk_spec_l13Empty (lp_spec_l13Empty fu) (loops 0 body_spec_l13Empty) := by
  have h : loops 0 body_spec_l13Empty = [] := by kernel_rfl
  rw [h]; intro p hp; cases hp
def S_spec_l13Empty (fu : Nat) (xs : List (D RT den)) : Option (Out RT den) := match xs with | [.rptr (.int .i64 a0_1 :: .rs za0_2 .impl_Backend na0_2 fa0_2 :: .rs za0_3 .impl_Vip na0_3 fa0_3 :: ra0)] => some ⟨Bool, F_spec_l13Empty fu (⟨a0_1, (⟨za0_2, na0_2, fa0_2⟩ : (Sl S_impl_Backend)), (⟨za0_3, na0_3, fa0_3⟩ : (Sl S_impl_Vip))⟩ : S_impl_Config), enc_bo, fun _ => true⟩ | _ => none
theorem hpc_spec_l13Empty (fu : Nat) : ∀ f xs o, pc_spec_l13Empty fu f xs = some o → ∀ y, o.x = some y → Good E Try.prog f xs (o.g y) := by
  intro f xs o h
  cases h
theorem goodv_spec_l13Empty (fu : Nat) (c_0 : S_impl_Config) (y : Bool) (hy : F_spec_l13Empty fu c_0 = some y) : Good E Try.prog 56 [(.rptr [(.int .i64 c_0.Version), (.rs c_0.Backends.z .impl_Backend c_0.Backends.n c_0.Backends.f), (.rs c_0.Vips.z .impl_Vip c_0.Vips.n c_0.Vips.f)])] (enc_bo y) :=
  fun_good E_ok (pc_good (hpc_spec_l13Empty fu)) (fn := Try.f56) (c := body_spec_l13Empty) (out := out_bo) (y := y) (by kernel_rfl) (by kernel_rfl) (by kernel_rfl) (lpok_spec_l13Empty fu) (fun d hd => out_bo_enc d _ hd) ((ev_spec_l13Empty fu c_0).trans hy)
theorem good_spec_l13Empty (fu : Nat) : ∀ xs o, S_spec_l13Empty fu xs = some o → ∀ y, o.x = some y → Good E Try.prog 56 xs (o.g y) := by
  intro xs o h y hy
  unfold S_spec_l13Empty at h
  split at h
  · rename_i a0_1 za0_2 na0_2 fa0_2 za0_3 na0_3 fa0_3 ra0
    cases h
    exact (goodv_spec_l13Empty fu (⟨a0_1, (⟨za0_2, na0_2, fa0_2⟩ : (Sl S_impl_Backend)), (⟨za0_3, na0_3, fa0_3⟩ : (Sl S_impl_Vip))⟩ : S_impl_Config) y hy).sub ⟨Sub.of_eq ra0 rfl, trivial⟩
  · cases h

/-! spec.l5Needs -/
def F_spec_l5Needs (fu : Nat) (kind_0 : Int) : Option (Bool × Bool × Bool × Bool) :=
  ((F_spec_l1In fu kind_0 5 8).bind fun y200 => (bif (kind_0 != 5) then (bif (kind_0 == 1) then (some ((kind_0 != 6), true, (kind_0 != 4), y200)) else (some ((kind_0 != 6), y200,
    (kind_0 != 4), y200))) else (bif (kind_0 == 1) then (some (false, true, (kind_0 != 4), y200)) else (some (false, y200, (kind_0 != 4), y200)))))
def pc_spec_l5Needs (fu : Nat) : Pc RT den := fun f xs => match f with | 76 => S_spec_l1In fu xs | _ => none
def msk_spec_l5Needs (b : Nat) : List Nat := []
def lp_spec_l5Needs (fu : Nat) : Lp RT den (Bool × Bool × Bool × Bool) := fun b s k => none
theorem ev_spec_l5Needs (fu : Nat) (kind_0 : Int) : evFun E (pc_spec_l5Needs fu) msk_spec_l5Needs (lp_spec_l5Needs fu) out_bo_bo_bo_bo 111 [(.int .i64 kind_0)] = F_spec_l5Needs fu kind_0 := by kernel_rfl
noncomputable def body_spec_l5Needs : Code := Try.f111.body.getD .skip
theorem lpok_spec_l5Needs (fu : Nat) : LpOk E (pc_spec_l5Needs fu) msk_spec_l5Needs (lp_spec_l5Needs fu) (loops 0 body_spec_l5Needs) := by
  have h : loops 0 body_spec_l5Needs = [] := by kernel_rfl
  rw [h]; intro p hp; cases hp
def S_spec_l5Needs (fu : Nat) (xs : List (D RT den)) : Option (Out RT den) := match xs with | [.int .i64 a0_0] => some ⟨Bool × Bool × Bool × Bool, F_spec_l5Needs fu a0_0, enc_bo_bo_bo_bo, fun _ => true⟩ | _ => none
theorem hpc_spec_l5Needs (fu : Nat) : ∀ f xs o, pc_spec_l5Needs fu f xs = some o → ∀ y, o.x = some y → Good E Try.prog f xs (o.g y) := by
  intro f xs o h
  unfold pc_spec_l5Needs at h
  split at h
  · exact good_spec_l1In fu xs o h
  · cases h
theorem goodv_spec_l5Needs (fu : Nat) (kind_0 : Int) (y : Bool × Bool × Bool × Bool) (hy : F_spec_l5Needs fu kind_0 = some y) : Good E Try.prog 111 [(.int .i64 kind_0)] (enc_bo_bo_bo_bo y) :=
  fun_good E_ok (pc_good (hpc_spec_l5Needs fu)) (fn := Try.f111) (c := body_spec_l5Needs) (out := out_bo_bo_bo_bo) (y := y) (by kernel_rfl) (by kernel_rfl) (by kernel_rfl) (lpok_spec_l5Needs fu) (fun d hd => out_bo_bo_bo_bo_enc d _ hd) ((ev_spec_l5Needs fu kind_0).trans hy)
theorem good_spec_l5Needs (fu : Nat) : ∀ xs o, S_spec_l5Needs fu xs = some o → ∀ y, o.x = some y → Good E Try.prog 111 xs (o.g y) := by
  intro xs o h y hy
  unfold S_spec_l5Needs at h
  split at h
  · rename_i a0_0
    cases h
    exact goodv_spec_l5Needs fu a0_0 y hy
  · cases h

/-! spec.l5Number -/
def F_spec_l5Number (fu : Nat) (x_0 : S_impl_Cmd) : Option (Bool) :=
  (bif (x_0.Kind == 1) then ((F_spec_l1In fu x_0.Number 0 9).bind fun y201 => (some y201)) else (bif (x_0.Kind == 2) then ((F_spec_l1In fu x_0.Number 0 9).bind fun y202 => (some y202)) else
    (bif (x_0.Kind == 3) then ((F_spec_l1In fu x_0.Number 1 3).bind fun y203 => (some y203)) else (bif (x_0.Kind == 9) then ((F_spec_l1In fu x_0.Number 0 1).bind fun y204 => (some y204)) else
    ((F_spec_l2Port fu x_0.Number).bind fun y205 => (some y205))))))
def pc_spec_l5Number (fu : Nat) : Pc RT den := fun f xs => match f with | 76 => S_spec_l1In fu xs | 143 => S_spec_l2Port fu xs | _ => none
def msk_spec_l5Number (b : Nat) : List Nat := []
def lp_spec_l5Number (fu : Nat) : Lp RT den (Bool) := fun b s k => none
theorem ev_spec_l5Number (fu : Nat) (x_0 : S_impl_Cmd) : evFun E (pc_spec_l5Number fu) msk_spec_l5Number (lp_spec_l5Number fu) out_bo 114 [(.agg [(.int .i64 x_0.Kind), (.int .i64 x_0.Expect), (.int .i64 x_0.Name), (.int .i64 x_0.Addr), (.int .i64 x_0.Number), (.int .i64 x_0.Proto)])] = F_spec_l5Number fu x_0 := by kernel_rfl
noncomputable def body_spec_l5Number : Code := Try.f114.body.getD .skip
theorem lpok_spec_l5Number (fu : Nat) : LpOk E (pc_spec_l5Number fu) msk_spec_l5Number (lp_spec_l5Number fu) (loops 0 body_spec_l5Number) := by
  have h : loops 0 body_spec_l5Number = [] := by kernel_rfl
  rw [h]; intro p hp; cases hp
def S_spec_l5Number (fu : Nat) (xs : List (D RT den)) : Option (Out RT den) := match xs with | [.agg [.int .i64 a0_1, .int .i64 a0_2, .int .i64 a0_3, .int .i64 a0_4, .int .i64 a0_5, .int .i64 a0_6]] => some ⟨Bool, F_spec_l5Number fu (⟨a0_1, a0_2, a0_3, a0_4, a0_5, a0_6⟩ : S_impl_Cmd), enc_bo, fun _ => true⟩ | _ => none
theorem hpc_spec_l5Number (fu : Nat) : ∀ f xs o, pc_spec_l5Number fu f xs = some o → ∀ y, o.x = some y → Good E Try.prog f xs (o.g y) := by
  intro f xs o h
  unfold pc_spec_l5Number at h
  split at h
  · exact good_spec_l1In fu xs o h
  · exact good_spec_l2Port fu xs o h
  · cases h
theorem goodv_spec_l5Number (fu : Nat) (x_0 : S_impl_Cmd) (y : Bool) (hy : F_spec_l5Number fu x_0 = some y) : Good E Try.prog 114 [(.agg [(.int .i64 x_0.Kind), (.int .i64 x_0.Expect), (.int .i64 x_0.Name), (.int .i64 x_0.Addr), (.int .i64 x_0.Number), (.int .i64 x_0.Proto)])] (enc_bo y) :=
  fun_good E_ok (pc_good (hpc_spec_l5Number fu)) (fn := Try.f114) (c := body_spec_l5Number) (out := out_bo) (y := y) (by kernel_rfl) (by kernel_rfl) (by kernel_rfl) (lpok_spec_l5Number fu) (fun d hd => out_bo_enc d _ hd) ((ev_spec_l5Number fu x_0).trans hy)
theorem good_spec_l5Number (fu : Nat) : ∀ xs o, S_spec_l5Number fu xs = some o → ∀ y, o.x = some y → Good E Try.prog 114 xs (o.g y) := by
  intro xs o h y hy
  unfold S_spec_l5Number at h
  split at h
  · rename_i a0_1 a0_2 a0_3 a0_4 a0_5 a0_6
    cases h
    exact goodv_spec_l5Number fu (⟨a0_1, a0_2, a0_3, a0_4, a0_5, a0_6⟩ : S_impl_Cmd) y hy
  · cases h

/-! spec.CmdFault -/
def F_spec_CmdFault (fu : Nat) (x_0 : S_impl_Cmd) : Option (Int) :=
  ((F_spec_l1In fu x_0.Kind 1 9).bind fun y165 => (bif (!y165) then (some 1) else ((F_spec_l5Needs fu x_0.Kind).bind fun y166 => (((bif (x_0.Expect != (-1)) then ((F_spec_l5Version fu x_0.Expect).bind fun y167 =>
    (bif (!y167) then (some true) else (bif y166.1 then ((F_spec_l3Name fu x_0.Name).bind fun y168 => (bif (!y168) then (some true) else (bif y166.2.1 then ((F_spec_l2Address fu x_0.Addr).bind fun y169 =>
    (bif (!y169) then (some true) else (bif y166.2.2.1 then ((F_spec_l5Number fu x_0).bind fun y170 => (bif (!y170) then (some true) else (bif y166.2.2.2 then ((F_spec_l5Proto fu x_0.Proto).bind fun y171 =>
    (some (!y171))) else (some false)))) else (bif y166.2.2.2 then ((F_spec_l5Proto fu x_0.Proto).bind fun y172 => (some (!y172))) else (some false))))) else (bif y166.2.2.1 then
    ((F_spec_l5Number fu x_0).bind fun y173 => (bif (!y173) then (some true) else (bif y166.2.2.2 then ((F_spec_l5Proto fu x_0.Proto).bind fun y174 => (some (!y174))) else (some false)))) else
    (bif y166.2.2.2 then ((F_spec_l5Proto fu x_0.Proto).bind fun y175 => (some (!y175))) else (some false)))))) else (bif y166.2.1 then ((F_spec_l2Address fu x_0.Addr).bind fun y176 =>
    (bif (!y176) then (some true) else (bif y166.2.2.1 then ((F_spec_l5Number fu x_0).bind fun y177 => (bif (!y177) then (some true) else (bif y166.2.2.2 then ((F_spec_l5Proto fu x_0.Proto).bind fun y178 =>
    (some (!y178))) else (some false)))) else (bif y166.2.2.2 then ((F_spec_l5Proto fu x_0.Proto).bind fun y179 => (some (!y179))) else (some false))))) else (bif y166.2.2.1 then
    ((F_spec_l5Number fu x_0).bind fun y180 => (bif (!y180) then (some true) else (bif y166.2.2.2 then ((F_spec_l5Proto fu x_0.Proto).bind fun y181 => (some (!y181))) else (some false)))) else
    (bif y166.2.2.2 then ((F_spec_l5Proto fu x_0.Proto).bind fun y182 => (some (!y182))) else (some false))))))) else (bif y166.1 then ((F_spec_l3Name fu x_0.Name).bind fun y183 =>
    (bif (!y183) then (some true) else (bif y166.2.1 then ((F_spec_l2Address fu x_0.Addr).bind fun y184 => (bif (!y184) then (some true) else (bif y166.2.2.1 then ((F_spec_l5Number fu x_0).bind fun y185 =>
    (bif (!y185) then (some true) else (bif y166.2.2.2 then ((F_spec_l5Proto fu x_0.Proto).bind fun y186 => (some (!y186))) else (some false)))) else (bif y166.2.2.2 then
    ((F_spec_l5Proto fu x_0.Proto).bind fun y187 => (some (!y187))) else (some false))))) else (bif y166.2.2.1 then ((F_spec_l5Number fu x_0).bind fun y188 => (bif (!y188) then
    (some true) else (bif y166.2.2.2 then ((F_spec_l5Proto fu x_0.Proto).bind fun y189 => (some (!y189))) else (some false)))) else (bif y166.2.2.2 then ((F_spec_l5Proto fu x_0.Proto).bind fun y190 =>
    (some (!y190))) else (some false)))))) else (bif y166.2.1 then ((F_spec_l2Address fu x_0.Addr).bind fun y191 => (bif (!y191) then (some true) else (bif y166.2.2.1 then
    ((F_spec_l5Number fu x_0).bind fun y192 => (bif (!y192) then (some true) else (bif y166.2.2.2 then ((F_spec_l5Proto fu x_0.Proto).bind fun y193 => (some (!y193))) else (some false)))) else
    (bif y166.2.2.2 then ((F_spec_l5Proto fu x_0.Proto).bind fun y194 => (some (!y194))) else (some false))))) else (bif y166.2.2.1 then ((F_spec_l5Number fu x_0).bind fun y195 =>
    (bif (!y195) then (some true) else (bif y166.2.2.2 then ((F_spec_l5Proto fu x_0.Proto).bind fun y196 => (some (!y196))) else (some false)))) else (bif y166.2.2.2 then
    ((F_spec_l5Proto fu x_0.Proto).bind fun y197 => (some (!y197))) else (some false)))))) : Option Bool).bind fun m198 => (bif m198 then (some 3) else (((bif (!y166.1) then (bif (x_0.Name != 0) then
    (some true) else (bif (!y166.2.1) then (bif (x_0.Addr != 0) then (some true) else (bif (!y166.2.2.1) then (bif (x_0.Number != 0) then (some true) else (bif (!y166.2.2.2) then
    (some (x_0.Proto != 0)) else (some false))) else (bif (!y166.2.2.2) then (some (x_0.Proto != 0)) else (some false)))) else (bif (!y166.2.2.1) then (bif (x_0.Number != 0) then
    (some true) else (bif (!y166.2.2.2) then (some (x_0.Proto != 0)) else (some false))) else (bif (!y166.2.2.2) then (some (x_0.Proto != 0)) else (some false))))) else (bif (!y166.2.1) then
    (bif (x_0.Addr != 0) then (some true) else (bif (!y166.2.2.1) then (bif (x_0.Number != 0) then (some true) else (bif (!y166.2.2.2) then (some (x_0.Proto != 0)) else (some false))) else
    (bif (!y166.2.2.2) then (some (x_0.Proto != 0)) else (some false)))) else (bif (!y166.2.2.1) then (bif (x_0.Number != 0) then (some true) else (bif (!y166.2.2.2) then (some (x_0.Proto != 0)) else
    (some false))) else (bif (!y166.2.2.2) then (some (x_0.Proto != 0)) else (some false))))) : Option Bool).bind fun m199 => (bif m199 then (some 1) else (some 0))))))))
def pc_spec_CmdFault (fu : Nat) : Pc RT den := fun f xs => match f with | 54 => S_spec_l5Version fu xs | 76 => S_spec_l1In fu xs | 111 => S_spec_l5Needs fu xs | 112 => S_spec_l3Name fu xs | 113 => S_spec_l2Address fu xs | 114 => S_spec_l5Number fu xs | 115 => S_spec_l5Proto fu xs | _ => none
def msk_spec_CmdFault (b : Nat) : List Nat := match b with | 200004 => [62] | 200006 => [96] | _ => []
def lp_spec_CmdFault (fu : Nat) : Lp RT den (Int) := fun b s k => none
theorem ev_spec_CmdFault (fu : Nat) (x_0 : S_impl_Cmd) : evFun E (pc_spec_CmdFault fu) msk_spec_CmdFault (lp_spec_CmdFault fu) out_i64 57 [(.agg [(.int .i64 x_0.Kind), (.int .i64 x_0.Expect), (.int .i64 x_0.Name), (.int .i64 x_0.Addr), (.int .i64 x_0.Number), (.int .i64 x_0.Proto)])] = F_spec_CmdFault fu x_0 := by kernel_rfl
noncomputable def body_spec_CmdFault : Code := Try.f57.body.getD .skip
theorem lpok_spec_CmdFault (fu : Nat) : LpOk E (pc_spec_CmdFault fu) msk_spec_CmdFault (lp_spec_CmdFault fu) (loops 0 body_spec_CmdFault) := by
  have h : loops 0 body_spec_CmdFault = [] := by kernel_rfl
  rw [h]; intro p hp; cases hp
def S_spec_CmdFault (fu : Nat) (xs : List (D RT den)) : Option (Out RT den) := match xs with | [.agg [.int .i64 a0_1, .int .i64 a0_2, .int .i64 a0_3, .int .i64 a0_4, .int .i64 a0_5, .int .i64 a0_6]] => some ⟨Int, F_spec_CmdFault fu (⟨a0_1, a0_2, a0_3, a0_4, a0_5, a0_6⟩ : S_impl_Cmd), enc_i64, fun _ => true⟩ | _ => none
theorem hpc_spec_CmdFault (fu : Nat) : ∀ f xs o, pc_spec_CmdFault fu f xs = some o → ∀ y, o.x = some y → Good E Try.prog f xs (o.g y) := by
  intro f xs o h
  unfold pc_spec_CmdFault at h
  split at h
  · exact good_spec_l5Version fu xs o h
  · exact good_spec_l1In fu xs o h
  · exact good_spec_l5Needs fu xs o h
  · exact good_spec_l3Name fu xs o h
  · exact good_spec_l2Address fu xs o h
  · exact good_spec_l5Number fu xs o h
  · exact good_spec_l5Proto fu xs o h
  · cases h
theorem goodv_spec_CmdFault (fu : Nat) (x_0 : S_impl_Cmd) (y : Int) (hy : F_spec_CmdFault fu x_0 = some y) : Good E Try.prog 57 [(.agg [(.int .i64 x_0.Kind), (.int .i64 x_0.Expect), (.int .i64 x_0.Name), (.int .i64 x_0.Addr), (.int .i64 x_0.Number), (.int .i64 x_0.Proto)])] (enc_i64 y) :=
  fun_good E_ok (pc_good (hpc_spec_CmdFault fu)) (fn := Try.f57) (c := body_spec_CmdFault) (out := out_i64) (y := y) (by kernel_rfl) (by kernel_rfl) (by kernel_rfl) (lpok_spec_CmdFault fu) (fun d hd => out_i64_enc d _ hd) ((ev_spec_CmdFault fu x_0).trans hy)
theorem good_spec_CmdFault (fu : Nat) : ∀ xs o, S_spec_CmdFault fu xs = some o → ∀ y, o.x = some y → Good E Try.prog 57 xs (o.g y) := by
  intro xs o h y hy
  unfold S_spec_CmdFault at h
  split at h
  · rename_i a0_1 a0_2 a0_3 a0_4 a0_5 a0_6
    cases h
    exact goodv_spec_CmdFault fu (⟨a0_1, a0_2, a0_3, a0_4, a0_5, a0_6⟩ : S_impl_Cmd) y hy
  · cases h

/-! spec.UpdateFault -/
def F_spec_UpdateFault_B0 {ρ : Type} (fu : Nat) (o0_1 : Int) (o0_2 : Int) (o0_3 : Bool) (o0_4 : Int) (o0_5 : (Sl S_impl_Backend)) (o0_6 : (Sl S_impl_Vip)) (o0_7 : (Sl S_impl_Cmd)) (k0 : Int → Option ρ) (k1 : Option ρ) (i4_0 : Int) (go : Int → Option ρ) : Option ρ :=
  (bif (decide (i4_0 < ((o0_7.n : Nat) : Int))) then ((bif (decide (0 ≤ i4_0) && decide ((Int.toNat i4_0) < o0_7.n)) then some () else none : Option Unit).bind fun _ =>
    ((F_spec_CmdFault fu (o0_7.f (Int.toNat i4_0))).bind fun y162 => (bif (y162 != 0) then (k0 y162) else (go (IntKind.wrap .i64 (i4_0 + 1)))))) else k1)
def F_spec_UpdateFault (fu : Nat) (u_0 : S_impl_Update) : Option (Int) :=
  ((((F_spec_l5Version fu u_0.From).bind fun y156 => (bif (!y156) then (some true) else ((F_spec_l5Version fu u_0.To).bind fun y157 => (some (!y157))))) : Option Bool).bind fun m158 =>
    (bif m158 then (some 3) else (bif u_0.Full then (((bif (u_0.From != 0) then (some true) else (some (decide (((u_0.Cmds.n : Nat) : Int) > 0)))) : Option Bool).bind fun m159 =>
    (bif m159 then (some 1) else ((F_spec_l5Fault fu u_0.Config).bind fun y160 => (bif (y160 != 0) then (some y160) else (bif (u_0.Config.Version != u_0.To) then (some 1) else (some 0)))))) else
    ((F_spec_l13Empty fu u_0.Config).bind fun y161 => (bif (!y161) then (some 1) else (bif (decide (((u_0.Cmds.n : Nat) : Int) > 20)) then (some 2) else (bif ((IntKind.wrap .i64 (u_0.To - u_0.From)) != ((u_0.Cmds.n : Nat) : Int)) then
    (some 1) else (L (fun w0 go0 => F_spec_UpdateFault_B0 fu u_0.From u_0.To u_0.Full u_0.Config.Version u_0.Config.Backends u_0.Config.Vips u_0.Cmds (fun z163 => (some z163)) (some 0) w0 go0) fu (0 : Int)))))))))
def pc_spec_UpdateFault (fu : Nat) : Pc RT den := fun f xs => match f with | 54 => S_spec_l5Version fu xs | 55 => S_spec_l5Fault fu xs | 56 => S_spec_l13Empty fu xs | 57 => S_spec_CmdFault fu xs | _ => none
def msk_spec_UpdateFault (b : Nat) : List Nat := match b with | 0 => [0, 2, 3, 5, 6, 7, 8, 9, 10, 11, 12, 13, 14, 15, 16, 17, 18, 19, 20, 21, 22, 23, 24, 25, 26, 27, 28, 29, 30, 31, 32, 33, 34, 35, 36, 37, 38, 39, 40, 41, 42, 43, 44, 45, 46, 47, 48, 49, 50, 51, 52, 53, 54, 55, 56, 57, 58, 59, 60, 61, 62, 63, 64, 65, 66, 67, 68, 69] | 100000 => [0, 1, 3, 4, 5, 6, 7, 8, 9, 10, 11, 12, 13, 14, 15, 16, 17, 18, 19, 20, 21, 22, 23, 24, 25, 26, 27, 28, 29, 30, 31, 32, 33, 34, 35, 36, 37, 38, 39, 40, 41, 42, 43, 44, 45, 46, 47, 48, 49, 50, 51, 52, 53, 54, 55, 56, 57, 58, 59, 60, 61, 62, 63, 64, 65, 66, 67, 68, 69] | 200001 => [15] | 200004 => [26] | _ => []
def ps_spec_UpdateFault_0 : List (Pat RT) := [.flat .dead, .flat (.ref 0 0), .flat .dead, .flat .dead, .flat (.int .i64), .flat .dead, .flat .dead, .flat .dead, .flat .dead, .flat .dead, .flat .dead, .flat .dead, .flat .dead, .flat .dead, .flat .dead, .flat .dead, .flat .dead, .flat .dead, .flat .dead, .flat .dead, .flat .dead, .flat .dead, .flat .dead, .flat .dead, .flat .dead, .flat .dead, .flat .dead, .flat .dead, .flat .dead, .flat .dead, .flat .dead, .flat .dead, .flat .dead, .flat .dead, .flat .dead, .flat .dead, .flat .dead, .flat .dead, .flat .dead, .flat .dead, .flat .dead, .flat .dead, .flat .dead, .flat .dead, .flat .dead, .flat .dead, .flat .dead, .flat .dead, .flat .dead, .flat .dead, .flat .dead, .flat .dead, .flat .dead, .flat .dead, .flat .dead, .flat .dead, .flat .dead, .flat .dead, .flat .dead, .flat .dead, .flat .dead, .flat .dead, .flat .dead, .flat .dead, .flat .dead, .flat .dead, .flat .dead, .flat .dead, .flat .dead, .flat .dead]
def os_spec_UpdateFault_0 : List (OP RT) := [.box [(.int .i64), (.int .i64), .bool, (.int .i64), (.rs .impl_Backend), (.rs .impl_Vip), (.rs .impl_Cmd)]]
def conv_spec_UpdateFault_0 (r : Raw den ps_spec_UpdateFault_0 os_spec_UpdateFault_0) : (Int × Int × Bool × Int × (Sl S_impl_Backend) × (Sl S_impl_Vip) × (Sl S_impl_Cmd)) × (Int) := ((r.2.1.1, r.2.1.2.1, r.2.1.2.2.1, r.2.1.2.2.2.1, r.2.1.2.2.2.2.1, r.2.1.2.2.2.2.2.1, r.2.1.2.2.2.2.2.2.1), r.1.2.2.2.2.1)
def back_spec_UpdateFault_0 (c : Int × Int × Bool × Int × (Sl S_impl_Backend) × (Sl S_impl_Vip) × (Sl S_impl_Cmd)) (w : Int) : St RT den := ⟨[.dead, (.ref 0 0), .dead, .dead, (.int .i64 w), .dead, .dead, .dead, .dead, .dead, .dead, .dead, .dead, .dead, .dead, .dead, .dead, .dead, .dead, .dead, .dead, .dead, .dead, .dead, .dead, .dead, .dead, .dead, .dead, .dead, .dead, .dead, .dead, .dead, .dead, .dead, .dead, .dead, .dead, .dead, .dead, .dead, .dead, .dead, .dead, .dead, .dead, .dead, .dead, .dead, .dead, .dead, .dead, .dead, .dead, .dead, .dead, .dead, .dead, .dead, .dead, .dead, .dead, .dead, .dead, .dead, .dead, .dead, .dead, .dead], [(.box [(.int .i64 c.1), (.int .i64 c.2.1), (.bool c.2.2.1), (.int .i64 c.2.2.2.1), (.rs c.2.2.2.2.1.z .impl_Backend c.2.2.2.2.1.n c.2.2.2.2.1.f), (.rs c.2.2.2.2.2.1.z .impl_Vip c.2.2.2.2.2.1.n c.2.2.2.2.2.1.f), (.rs c.2.2.2.2.2.2.z .impl_Cmd c.2.2.2.2.2.2.n c.2.2.2.2.2.2.f)])]⟩
def Bk_spec_UpdateFault_0 {ρ : Type} (fu : Nat) (c : Int × Int × Bool × Int × (Sl S_impl_Backend) × (Sl S_impl_Vip) × (Sl S_impl_Cmd)) (k : Ex → St RT den → Option ρ) (w : Int) (go : (Int) → Option ρ) : Option ρ := F_spec_UpdateFault_B0 fu c.1 c.2.1 c.2.2.1 c.2.2.2.1 c.2.2.2.2.1 c.2.2.2.2.2.1 c.2.2.2.2.2.2 (fun a0 => k .ret ⟨[.dead, .dead, (.int .i64 a0), .dead, .dead, .dead, .dead, .dead, .dead, .dead, .dead, .dead, .dead, .dead, .dead, .dead, .dead, .dead, .dead, .dead, .dead, .dead, .dead, .dead, .dead, .dead, .dead, .dead, .dead, .dead, .dead, .dead, .dead, .dead, .dead, .dead, .dead, .dead, .dead, .dead, .dead, .dead, .dead, .dead, .dead, .dead, .dead, .dead, .dead, .dead, .dead, .dead, .dead, .dead, .dead, .dead, .dead, .dead, .dead, .dead, .dead, .dead, .dead, .dead, .dead, .dead, .dead, .dead, .dead, .dead], [(.box [(.int .i64 c.1), (.int .i64 c.2.1), (.bool c.2.2.1), (.int .i64 c.2.2.2.1), (.rs c.2.2.2.2.1.z .impl_Backend c.2.2.2.2.1.n c.2.2.2.2.1.f), (.rs c.2.2.2.2.2.1.z .impl_Vip c.2.2.2.2.2.1.n c.2.2.2.2.2.1.f), (.rs c.2.2.2.2.2.2.z .impl_Cmd c.2.2.2.2.2.2.n c.2.2.2.2.2.2.f)])]⟩) (k (.exit 0) ⟨[.dead, .dead, .dead, .dead, .dead, .dead, .dead, .dead, .dead, .dead, .dead, .dead, .dead, .dead, .dead, .dead, .dead, .dead, .dead, .dead, .dead, .dead, .dead, .dead, .dead, .dead, .dead, .dead, .dead, .dead, .dead, .dead, .dead, .dead, .dead, .dead, .dead, .dead, .dead, .dead, .dead, .dead, .dead, .dead, .dead, .dead, .dead, .dead, .dead, .dead, .dead, .dead, .dead, .dead, .dead, .dead, .dead, .dead, .dead, .dead, .dead, .dead, .dead, .dead, .dead, .dead, .dead, .dead, .dead, .dead], [(.box [(.int .i64 c.1), (.int .i64 c.2.1), (.bool c.2.2.1), (.int .i64 c.2.2.2.1), (.rs c.2.2.2.2.1.z .impl_Backend c.2.2.2.2.1.n c.2.2.2.2.1.f), (.rs c.2.2.2.2.2.1.z .impl_Vip c.2.2.2.2.2.1.n c.2.2.2.2.2.1.f), (.rs c.2.2.2.2.2.2.z .impl_Cmd c.2.2.2.2.2.2.n c.2.2.2.2.2.2.f)])]⟩) w go
def lp_spec_UpdateFault (fu : Nat) : Lp RT den (Int) := fun b s k => match b with | 0 => handle ps_spec_UpdateFault_0 os_spec_UpdateFault_0 conv_spec_UpdateFault_0 (Bk_spec_UpdateFault_0 fu) fu s k | _ => none
theorem ev_spec_UpdateFault (fu : Nat) (u_0 : S_impl_Update) : evFun E (pc_spec_UpdateFault fu) msk_spec_UpdateFault (lp_spec_UpdateFault fu) out_i64 18 [(.agg [(.int .i64 u_0.From), (.int .i64 u_0.To), (.bool u_0.Full), (.int .i64 u_0.Config.Version), (.rs u_0.Config.Backends.z .impl_Backend u_0.Config.Backends.n u_0.Config.Backends.f), (.rs u_0.Config.Vips.z .impl_Vip u_0.Config.Vips.n u_0.Config.Vips.f), (.rs u_0.Cmds.z .impl_Cmd u_0.Cmds.n u_0.Cmds.f)])] = F_spec_UpdateFault fu u_0 := by kernel_rfl
noncomputable def body_spec_UpdateFault : Code := Try.f18.body.getD .skip
noncomputable def lc_spec_UpdateFault_0 : Code := ((loops 0 body_spec_UpdateFault).getD 0 (0, .skip)).2
theorem round_spec_UpdateFault_0 (fu : Nat) (it : St RT den → Option (Int)) (k : Ex → St RT den → Option (Int)) c w : evCode E (pc_spec_UpdateFault fu) msk_spec_UpdateFault (lp_spec_UpdateFault fu) 0 lc_spec_UpdateFault_0 (back_spec_UpdateFault_0 c w) (after (msk_spec_UpdateFault 0) (msk_spec_UpdateFault 100000) 1 it k) = Bk_spec_UpdateFault_0 fu c k w (fun w => it (back_spec_UpdateFault_0 c w)) := by kernel_rfl
theorem lpok_spec_UpdateFault_0 (fu : Nat) : ∀ s k r, lp_spec_UpdateFault fu 0 s k = some r → ∃ fuel, iter (msk_spec_UpdateFault 0) (msk_spec_UpdateFault 100000) s.objs.length (evCode E (pc_spec_UpdateFault fu) msk_spec_UpdateFault (lp_spec_UpdateFault fu) 0 lc_spec_UpdateFault_0) fuel s k = some r :=
  handle_ok (ps := ps_spec_UpdateFault_0) (os := os_spec_UpdateFault_0) (conv := conv_spec_UpdateFault_0) (B := Bk_spec_UpdateFault_0 fu) (fu := fu) back_spec_UpdateFault_0 (fun raw => by kernel_rfl) 1 (fun c w => by kernel_rfl) (round_spec_UpdateFault_0 fu)
theorem lpok_spec_UpdateFault (fu : Nat) : LpOk E (pc_spec_UpdateFault fu) msk_spec_UpdateFault (lp_spec_UpdateFault fu) (loops 0 body_spec_UpdateFault) := loop_all 1 (by kernel_rfl) fun i hi => match i, hi with
  | 0, _ => by
    have h : (loops 0 body_spec_UpdateFault).getD 0 (0, .skip) = (0, lc_spec_UpdateFault_0) := by kernel_rfl
    rw [h]; exact lpok_spec_UpdateFault_0 fu
  | i + 1, hi => absurd hi (by omega)
def S_spec_UpdateFault (fu : Nat) (xs : List (D RT den)) : Option (Out RT den) := match xs with | [.agg [.int .i64 a0_1, .int .i64 a0_2, .bool a0_3, .int .i64 a0_5, .rs za0_6 .impl_Backend na0_6 fa0_6, .rs za0_7 .impl_Vip na0_7 fa0_7, .rs za0_8 .impl_Cmd na0_8 fa0_8]] => some ⟨Int, F_spec_UpdateFault fu (⟨a0_1, a0_2, a0_3, (⟨a0_5, (⟨za0_6, na0_6, fa0_6⟩ : (Sl S_impl_Backend)), (⟨za0_7, na0_7, fa0_7⟩ : (Sl S_impl_Vip))⟩ : S_impl_Config), (⟨za0_8, na0_8, fa0_8⟩ : (Sl S_impl_Cmd))⟩ : S_impl_Update), enc_i64, fun _ => true⟩ | _ => none
theorem hpc_spec_UpdateFault (fu : Nat) : ∀ f xs o, pc_spec_UpdateFault fu f xs = some o → ∀ y, o.x = some y → Good E Try.prog f xs (o.g y) := by
  intro f xs o h
  unfold pc_spec_UpdateFault at h
  split at h
  · exact good_spec_l5Version fu xs o h
  · exact good_spec_l5Fault fu xs o h
  · exact good_spec_l13Empty fu xs o h
  · exact good_spec_CmdFault fu xs o h
  · cases h
theorem goodv_spec_UpdateFault (fu : Nat) (u_0 : S_impl_Update) (y : Int) (hy : F_spec_UpdateFault fu u_0 = some y) : Good E Try.prog 18 [(.agg [(.int .i64 u_0.From), (.int .i64 u_0.To), (.bool u_0.Full), (.int .i64 u_0.Config.Version), (.rs u_0.Config.Backends.z .impl_Backend u_0.Config.Backends.n u_0.Config.Backends.f), (.rs u_0.Config.Vips.z .impl_Vip u_0.Config.Vips.n u_0.Config.Vips.f), (.rs u_0.Cmds.z .impl_Cmd u_0.Cmds.n u_0.Cmds.f)])] (enc_i64 y) :=
  fun_good E_ok (pc_good (hpc_spec_UpdateFault fu)) (fn := Try.f18) (c := body_spec_UpdateFault) (out := out_i64) (y := y) (by kernel_rfl) (by kernel_rfl) (by kernel_rfl) (lpok_spec_UpdateFault fu) (fun d hd => out_i64_enc d _ hd) ((ev_spec_UpdateFault fu u_0).trans hy)
theorem good_spec_UpdateFault (fu : Nat) : ∀ xs o, S_spec_UpdateFault fu xs = some o → ∀ y, o.x = some y → Good E Try.prog 18 xs (o.g y) := by
  intro xs o h y hy
  unfold S_spec_UpdateFault at h
  split at h
  · rename_i a0_1 a0_2 a0_3 a0_5 za0_6 na0_6 fa0_6 za0_7 na0_7 fa0_7 za0_8 na0_8 fa0_8
    cases h
    exact goodv_spec_UpdateFault fu (⟨a0_1, a0_2, a0_3, (⟨a0_5, (⟨za0_6, na0_6, fa0_6⟩ : (Sl S_impl_Backend)), (⟨za0_7, na0_7, fa0_7⟩ : (Sl S_impl_Vip))⟩ : S_impl_Config), (⟨za0_8, na0_8, fa0_8⟩ : (Sl S_impl_Cmd))⟩ : S_impl_Update) y hy
  · cases h

/-! (*impl.Config).isZero -/
def F_impl_Config_isZero (fu : Nat) (c_0 : S_impl_Config) : Option (Bool) :=
  (((bif (c_0.Version == 0) then (bif (((c_0.Backends.n : Nat) : Int) == 0) then (some (((c_0.Vips.n : Nat) : Int) == 0)) else (some false)) else (some false)) : Option Bool).bind fun m214 =>
    (some m214))
def pc_impl_Config_isZero (fu : Nat) : Pc RT den := fun f xs => none
def msk_impl_Config_isZero (b : Nat) : List Nat := match b with | 200001 => [2] | _ => []
def lp_impl_Config_isZero (fu : Nat) : Lp RT den (Bool) := fun b s k => none
theorem ev_impl_Config_isZero (fu : Nat) (c_0 : S_impl_Config) : evFun E (pc_impl_Config_isZero fu) msk_impl_Config_isZero (lp_impl_Config_isZero fu) out_bo 59 [(.rptr [(.int .i64 c_0.Version), (.rs c_0.Backends.z .impl_Backend c_0.Backends.n c_0.Backends.f), (.rs c_0.Vips.z .impl_Vip c_0.Vips.n c_0.Vips.f)])] = F_impl_Config_isZero fu c_0 := by kernel_rfl
noncomputable def body_impl_Config_isZero : Code := Try.f59.body.getD .skip
theorem lpok_impl_Config_isZero (fu : Nat) : LpOk E (pc_impl_Config_isZero fu) msk_impl_Config_isZero (lp_impl_Config_isZero fu) (loops 0 body_impl_Config_isZero) := by
  have h : loops 0 body_impl_Config_isZero = [] := by kernel_rfl
  rw [h]; intro p hp; cases hp
def S_impl_Config_isZero (fu : Nat) (xs : List (D RT den)) : Option (Out RT den) := match xs with | [.rptr (.int .i64 a0_1 :: .rs za0_2 .impl_Backend na0_2 fa0_2 :: .rs za0_3 .impl_Vip na0_3 fa0_3 :: ra0)] => some ⟨Bool, F_impl_Config_isZero fu (⟨a0_1, (⟨za0_2, na0_2, fa0_2⟩ : (Sl S_impl_Backend)), (⟨za0_3, na0_3, fa0_3⟩ : (Sl S_impl_Vip))⟩ : S_impl_Config), enc_bo, fun _ => true⟩ | _ => none
theorem hpc_impl_Config_isZero (fu : Nat) : ∀ f xs o, pc_impl_Config_isZero fu f xs = some o → ∀ y, o.x = some y → Good E Try.prog f xs (o.g y) := by
  intro f xs o h
  cases h
theorem goodv_impl_Config_isZero (fu : Nat) (c_0 : S_impl_Config) (y : Bool) (hy : F_impl_Config_isZero fu c_0 = some y) : Good E Try.prog 59 [(.rptr [(.int .i64 c_0.Version), (.rs c_0.Backends.z .impl_Backend c_0.Backends.n c_0.Backends.f), (.rs c_0.Vips.z .impl_Vip c_0.Vips.n c_0.Vips.f)])] (enc_bo y) :=
  fun_good E_ok (pc_good (hpc_impl_Config_isZero fu)) (fn := Try.f59) (c := body_impl_Config_isZero) (out := out_bo) (y := y) (by kernel_rfl) (by kernel_rfl) (by kernel_rfl) (lpok_impl_Config_isZero fu) (fun d hd => out_bo_enc d _ hd) ((ev_impl_Config_isZero fu c_0).trans hy)
theorem good_impl_Config_isZero (fu : Nat) : ∀ xs o, S_impl_Config_isZero fu xs = some o → ∀ y, o.x = some y → Good E Try.prog 59 xs (o.g y) := by
  intro xs o h y hy
  unfold S_impl_Config_isZero at h
  split at h
  · rename_i a0_1 za0_2 na0_2 fa0_2 za0_3 na0_3 fa0_3 ra0
    cases h
    exact (goodv_impl_Config_isZero fu (⟨a0_1, (⟨za0_2, na0_2, fa0_2⟩ : (Sl S_impl_Backend)), (⟨za0_3, na0_3, fa0_3⟩ : (Sl S_impl_Vip))⟩ : S_impl_Config) y hy).sub ⟨Sub.of_eq ra0 rfl, trivial⟩
  · cases h

/-! impl.size[impl.Cmd] -/
def F_impl_size_impl_Cmd (fu : Nat) (list_0 : (Sl S_impl_Cmd)) : Option (Int) :=
  (some ((list_0.n : Nat) : Int))
def pc_impl_size_impl_Cmd (fu : Nat) : Pc RT den := fun f xs => none
def msk_impl_size_impl_Cmd (b : Nat) : List Nat := []
def lp_impl_size_impl_Cmd (fu : Nat) : Lp RT den (Int) := fun b s k => none
theorem ev_impl_size_impl_Cmd (fu : Nat) (list_0 : (Sl S_impl_Cmd)) : evFun E (pc_impl_size_impl_Cmd fu) msk_impl_size_impl_Cmd (lp_impl_size_impl_Cmd fu) out_i64 60 [(.rs list_0.z .impl_Cmd list_0.n list_0.f)] = F_impl_size_impl_Cmd fu list_0 := by kernel_rfl
noncomputable def body_impl_size_impl_Cmd : Code := Try.f60.body.getD .skip
theorem lpok_impl_size_impl_Cmd (fu : Nat) : LpOk E (pc_impl_size_impl_Cmd fu) msk_impl_size_impl_Cmd (lp_impl_size_impl_Cmd fu) (loops 0 body_impl_size_impl_Cmd) := by
  have h : loops 0 body_impl_size_impl_Cmd = [] := by kernel_rfl
  rw [h]; intro p hp; cases hp
def S_impl_size_impl_Cmd (fu : Nat) (xs : List (D RT den)) : Option (Out RT den) := match xs with | [.rs za0_0 .impl_Cmd na0_0 fa0_0] => some ⟨Int, F_impl_size_impl_Cmd fu (⟨za0_0, na0_0, fa0_0⟩ : (Sl S_impl_Cmd)), enc_i64, fun _ => true⟩ | _ => none
theorem hpc_impl_size_impl_Cmd (fu : Nat) : ∀ f xs o, pc_impl_size_impl_Cmd fu f xs = some o → ∀ y, o.x = some y → Good E Try.prog f xs (o.g y) := by
  intro f xs o h
  cases h
theorem goodv_impl_size_impl_Cmd (fu : Nat) (list_0 : (Sl S_impl_Cmd)) (y : Int) (hy : F_impl_size_impl_Cmd fu list_0 = some y) : Good E Try.prog 60 [(.rs list_0.z .impl_Cmd list_0.n list_0.f)] (enc_i64 y) :=
  fun_good E_ok (pc_good (hpc_impl_size_impl_Cmd fu)) (fn := Try.f60) (c := body_impl_size_impl_Cmd) (out := out_i64) (y := y) (by kernel_rfl) (by kernel_rfl) (by kernel_rfl) (lpok_impl_size_impl_Cmd fu) (fun d hd => out_i64_enc d _ hd) ((ev_impl_size_impl_Cmd fu list_0).trans hy)
theorem good_impl_size_impl_Cmd (fu : Nat) : ∀ xs o, S_impl_size_impl_Cmd fu xs = some o → ∀ y, o.x = some y → Good E Try.prog 60 xs (o.g y) := by
  intro xs o h y hy
  unfold S_impl_size_impl_Cmd at h
  split at h
  · rename_i za0_0 na0_0 fa0_0
    cases h
    exact goodv_impl_size_impl_Cmd fu (⟨za0_0, na0_0, fa0_0⟩ : (Sl S_impl_Cmd)) y hy
  · cases h

/-! impl.needs -/
def F_impl_needs (fu : Nat) (kind_0 : Int) : Option (Bool × Bool × Bool × Bool) :=
  ((F_impl_in fu kind_0 5 8).bind fun y243 => ((F_impl_in fu kind_0 5 6).bind fun y244 => (bif (kind_0 == 1) then (some ((!y244), true, (kind_0 != 4), y243)) else (some ((!y244),
    y243, (kind_0 != 4), y243)))))
def pc_impl_needs (fu : Nat) : Pc RT den := fun f xs => match f with | 49 => S_impl_in fu xs | _ => none
def msk_impl_needs (b : Nat) : List Nat := []
def lp_impl_needs (fu : Nat) : Lp RT den (Bool × Bool × Bool × Bool) := fun b s k => none
theorem ev_impl_needs (fu : Nat) (kind_0 : Int) : evFun E (pc_impl_needs fu) msk_impl_needs (lp_impl_needs fu) out_bo_bo_bo_bo 145 [(.int .i64 kind_0)] = F_impl_needs fu kind_0 := by kernel_rfl
noncomputable def body_impl_needs : Code := Try.f145.body.getD .skip
theorem lpok_impl_needs (fu : Nat) : LpOk E (pc_impl_needs fu) msk_impl_needs (lp_impl_needs fu) (loops 0 body_impl_needs) := by
  have h : loops 0 body_impl_needs = [] := by kernel_rfl
  rw [h]; intro p hp; cases hp
def S_impl_needs (fu : Nat) (xs : List (D RT den)) : Option (Out RT den) := match xs with | [.int .i64 a0_0] => some ⟨Bool × Bool × Bool × Bool, F_impl_needs fu a0_0, enc_bo_bo_bo_bo, fun _ => true⟩ | _ => none
theorem hpc_impl_needs (fu : Nat) : ∀ f xs o, pc_impl_needs fu f xs = some o → ∀ y, o.x = some y → Good E Try.prog f xs (o.g y) := by
  intro f xs o h
  unfold pc_impl_needs at h
  split at h
  · exact good_impl_in fu xs o h
  · cases h
theorem goodv_impl_needs (fu : Nat) (kind_0 : Int) (y : Bool × Bool × Bool × Bool) (hy : F_impl_needs fu kind_0 = some y) : Good E Try.prog 145 [(.int .i64 kind_0)] (enc_bo_bo_bo_bo y) :=
  fun_good E_ok (pc_good (hpc_impl_needs fu)) (fn := Try.f145) (c := body_impl_needs) (out := out_bo_bo_bo_bo) (y := y) (by kernel_rfl) (by kernel_rfl) (by kernel_rfl) (lpok_impl_needs fu) (fun d hd => out_bo_bo_bo_bo_enc d _ hd) ((ev_impl_needs fu kind_0).trans hy)
theorem good_impl_needs (fu : Nat) : ∀ xs o, S_impl_needs fu xs = some o → ∀ y, o.x = some y → Good E Try.prog 145 xs (o.g y) := by
  intro xs o h y hy
  unfold S_impl_needs at h
  split at h
  · rename_i a0_0
    cases h
    exact goodv_impl_needs fu a0_0 y hy
  · cases h

/-! impl.isNumber -/
def F_impl_isNumber (fu : Nat) (x_0 : S_impl_Cmd) : Option (Bool) :=
  (bif (x_0.Kind == 1) then ((F_impl_in fu x_0.Number 0 9).bind fun y245 => (some y245)) else (bif (x_0.Kind == 2) then ((F_impl_in fu x_0.Number 0 9).bind fun y246 => (some y246)) else
    (bif (x_0.Kind == 3) then ((F_impl_in fu x_0.Number 1 3).bind fun y247 => (some y247)) else (bif (x_0.Kind == 9) then ((F_impl_in fu x_0.Number 0 1).bind fun y248 => (some y248)) else
    ((F_impl_isPort fu x_0.Number).bind fun y249 => (some y249))))))
def pc_impl_isNumber (fu : Nat) : Pc RT den := fun f xs => match f with | 49 => S_impl_in fu xs | 101 => S_impl_isPort fu xs | _ => none
def msk_impl_isNumber (b : Nat) : List Nat := []
def lp_impl_isNumber (fu : Nat) : Lp RT den (Bool) := fun b s k => none
theorem ev_impl_isNumber (fu : Nat) (x_0 : S_impl_Cmd) : evFun E (pc_impl_isNumber fu) msk_impl_isNumber (lp_impl_isNumber fu) out_bo 146 [(.agg [(.int .i64 x_0.Kind), (.int .i64 x_0.Expect), (.int .i64 x_0.Name), (.int .i64 x_0.Addr), (.int .i64 x_0.Number), (.int .i64 x_0.Proto)])] = F_impl_isNumber fu x_0 := by kernel_rfl
noncomputable def body_impl_isNumber : Code := Try.f146.body.getD .skip
theorem lpok_impl_isNumber (fu : Nat) : LpOk E (pc_impl_isNumber fu) msk_impl_isNumber (lp_impl_isNumber fu) (loops 0 body_impl_isNumber) := by
  have h : loops 0 body_impl_isNumber = [] := by kernel_rfl
  rw [h]; intro p hp; cases hp
def S_impl_isNumber (fu : Nat) (xs : List (D RT den)) : Option (Out RT den) := match xs with | [.agg [.int .i64 a0_1, .int .i64 a0_2, .int .i64 a0_3, .int .i64 a0_4, .int .i64 a0_5, .int .i64 a0_6]] => some ⟨Bool, F_impl_isNumber fu (⟨a0_1, a0_2, a0_3, a0_4, a0_5, a0_6⟩ : S_impl_Cmd), enc_bo, fun _ => true⟩ | _ => none
theorem hpc_impl_isNumber (fu : Nat) : ∀ f xs o, pc_impl_isNumber fu f xs = some o → ∀ y, o.x = some y → Good E Try.prog f xs (o.g y) := by
  intro f xs o h
  unfold pc_impl_isNumber at h
  split at h
  · exact good_impl_in fu xs o h
  · exact good_impl_isPort fu xs o h
  · cases h
theorem goodv_impl_isNumber (fu : Nat) (x_0 : S_impl_Cmd) (y : Bool) (hy : F_impl_isNumber fu x_0 = some y) : Good E Try.prog 146 [(.agg [(.int .i64 x_0.Kind), (.int .i64 x_0.Expect), (.int .i64 x_0.Name), (.int .i64 x_0.Addr), (.int .i64 x_0.Number), (.int .i64 x_0.Proto)])] (enc_bo y) :=
  fun_good E_ok (pc_good (hpc_impl_isNumber fu)) (fn := Try.f146) (c := body_impl_isNumber) (out := out_bo) (y := y) (by kernel_rfl) (by kernel_rfl) (by kernel_rfl) (lpok_impl_isNumber fu) (fun d hd => out_bo_enc d _ hd) ((ev_impl_isNumber fu x_0).trans hy)
theorem good_impl_isNumber (fu : Nat) : ∀ xs o, S_impl_isNumber fu xs = some o → ∀ y, o.x = some y → Good E Try.prog 146 xs (o.g y) := by
  intro xs o h y hy
  unfold S_impl_isNumber at h
  split at h
  · rename_i a0_1 a0_2 a0_3 a0_4 a0_5 a0_6
    cases h
    exact goodv_impl_isNumber fu (⟨a0_1, a0_2, a0_3, a0_4, a0_5, a0_6⟩ : S_impl_Cmd) y hy
  · cases h
end Go.Proofs.Ythbimpgiafhfoaa.Pc
