/- The functions' evaluated forms, each a proved summary. Conditions: none. -/
import Derived.Test.YtmgndndkkeinfaaGreatPcF2
namespace Go.Proofs.YtmgndndkkeinfaaGreat.Pc
open Go Go.RowKit Go.Proofs Vm
set_option linter.unusedVariables false
set_option linter.unusedSimpArgs false
set_option maxRecDepth 100000
/-! spec.l1Has -/
def F_spec_l1Has_B0 {ρ : Type} (fu : Nat) (list0_0 : (Sl Int)) (v1_1 : Int) (k0 : Option ρ) (k1 : Option ρ) (i5_2 : Int) (go : Int → Option ρ) : Option ρ :=
  (bif (decide (i5_2 < ((list0_0.n : Nat) : Int))) then ((bif (decide (0 ≤ i5_2) && decide ((Int.toNat i5_2) < list0_0.n)) then some () else none : Option Unit).bind fun _ => (bif ((list0_0.f (Int.toNat i5_2)) == v1_1) then
    k0 else (go (IntKind.wrap .i64 (i5_2 + 1))))) else k1)
def F_spec_l1Has (fu : Nat) (list_0 : (Sl Int)) (v_1 : Int) : Option (Bool) :=
  (L (fun w0 go0 => F_spec_l1Has_B0 fu list_0 v_1 (some true) (some false) w0 go0) fu (0 : Int))
def pcf_spec_l1Has (fu : Nat) (f : Nat) (xs : List (D RT den)) : Option (Out RT den) := none
def pcx_spec_l1Has (fu : Nat) (f : Nat) (xs : List (D RT den)) (ins : List (Ob RT den)) : Option (OutX RT den) := none
def pc_spec_l1Has (fu : Nat) : Pc RT den := ⟨pcf_spec_l1Has fu, fun _ => false, fun _ => false, pcx_spec_l1Has fu⟩
def msk_spec_l1Has (b : Nat) : List Nat := match b with | 0 => [2, 3, 4, 6, 7, 8, 9, 10, 11, 12, 13, 14, 15, 16, 17] | 100000 => [0, 1, 2, 3, 5, 6, 7, 8, 9, 10, 11, 12, 13, 14, 15, 16, 17] | _ => []
def ps_spec_l1Has_0 : List (Pat RT) := [.flat (.rs .i64), .flat (.int .i64), .flat .dead, .flat .dead, .flat .dead, .flat (.int .i64), .flat .dead, .flat .dead, .flat .dead, .flat .dead, .flat .dead, .flat .dead, .flat .dead, .flat .dead, .flat .dead, .flat .dead, .flat .dead, .flat .dead]
def os_spec_l1Has_0 : List (OP RT) := []
def conv_spec_l1Has_0 (r : Raw den ps_spec_l1Has_0 os_spec_l1Has_0) : ((Sl Int) × Int) × (Int) := ((r.1.1, r.1.2.1), r.1.2.2.2.2.2.1)
def back_spec_l1Has_0 (c : (Sl Int) × Int) (w : Int) : St RT den := ⟨[(.rs c.1.z .i64 c.1.n c.1.f), (.int .i64 c.2), .dead, .dead, .dead, (.int .i64 w), .dead, .dead, .dead, .dead, .dead, .dead, .dead, .dead, .dead, .dead, .dead, .dead], []⟩
def Bk_spec_l1Has_0 {ρ : Type} (fu : Nat) (c : (Sl Int) × Int) (k : Ex → St RT den → Option ρ) (w : Int) (go : (Int) → Option ρ) : Option ρ := F_spec_l1Has_B0 fu c.1 c.2 (k .ret ⟨[.dead, .dead, .dead, .dead, (.bool true), .dead, .dead, .dead, .dead, .dead, .dead, .dead, .dead, .dead, .dead, .dead, .dead, .dead], []⟩) (k (.exit 0) ⟨[.dead, .dead, .dead, .dead, .dead, .dead, .dead, .dead, .dead, .dead, .dead, .dead, .dead, .dead, .dead, .dead, .dead, .dead], []⟩) w go
def lp_spec_l1Has (fu : Nat) : Lp RT den (Bool) := fun b s k => match b with | 0 => handle ps_spec_l1Has_0 os_spec_l1Has_0 conv_spec_l1Has_0 (Bk_spec_l1Has_0 fu) fu s k | _ => none
theorem ev_spec_l1Has (fu : Nat) (list_0 : (Sl Int)) (v_1 : Int) : evFun E (pc_spec_l1Has fu) msk_spec_l1Has (lp_spec_l1Has fu) out_bo 96 [(.rs list_0.z .i64 list_0.n list_0.f), (.int .i64 v_1)] = F_spec_l1Has fu list_0 v_1 := by kernel_rfl
noncomputable def body_spec_l1Has : Code := Tryz.f96.body.getD .skip
noncomputable def lc_spec_l1Has_0 : Code := ((loops 0 body_spec_l1Has).getD 0 (0, .skip)).2
theorem round_spec_l1Has_0 (fu : Nat) (it : St RT den → Option (Bool)) (k : Ex → St RT den → Option (Bool)) c w : evCode E (pc_spec_l1Has fu) msk_spec_l1Has (lp_spec_l1Has fu) 0 lc_spec_l1Has_0 (back_spec_l1Has_0 c w) (after (msk_spec_l1Has 0) (msk_spec_l1Has 100000) 0 it k) = Bk_spec_l1Has_0 fu c k w (fun w => it (back_spec_l1Has_0 c w)) := by kernel_rfl
theorem lpok_spec_l1Has_0 (fu : Nat) : ∀ s k r, lp_spec_l1Has fu 0 s k = some r → ∃ fuel, iter (msk_spec_l1Has 0) (msk_spec_l1Has 100000) s.objs.length (evCode E (pc_spec_l1Has fu) msk_spec_l1Has (lp_spec_l1Has fu) 0 lc_spec_l1Has_0) fuel s k = some r :=
  handle_ok (ps := ps_spec_l1Has_0) (os := os_spec_l1Has_0) (conv := conv_spec_l1Has_0) (B := Bk_spec_l1Has_0 fu) (fu := fu) back_spec_l1Has_0 (fun raw => by kernel_rfl) 0 (fun c w => by kernel_rfl) (round_spec_l1Has_0 fu)
theorem lpok_spec_l1Has (fu : Nat) : LpOk E (pc_spec_l1Has fu) msk_spec_l1Has (lp_spec_l1Has fu) (loops 0 body_spec_l1Has) := loop_all 1 (by kernel_rfl) fun i hi => match i, hi with
  | 0, _ => by
    have h : (loops 0 body_spec_l1Has).getD 0 (0, .skip) = (0, lc_spec_l1Has_0) := by kernel_rfl
    rw [h]; exact lpok_spec_l1Has_0 fu
  | i + 1, hi => absurd hi (by omega)
def S_spec_l1Has (fu : Nat) (xs : List (D RT den)) : Option (Out RT den) := match xs with | [.rs za0_0 .i64 na0_0 fa0_0, .int .i64 a1_0] => some ⟨Bool, F_spec_l1Has fu (⟨za0_0, na0_0, fa0_0⟩ : (Sl Int)) a1_0, enc_bo, fun _ => true⟩ | _ => none
theorem hpc_spec_l1Has (fu : Nat) : ∀ f xs o, pcf_spec_l1Has fu f xs = some o → ∀ y, o.x = some y → Good E Tryz.prog f xs (o.g y) := by
  intro f xs o h
  cases h
theorem hpx_spec_l1Has (fu : Nat) : ∀ f xs ins o, pcx_spec_l1Has fu f xs ins = some o → ∀ y, o.x = some y → GoodX E Tryz.prog f xs ins (o.g y).1 (o.g y).2 := by
  intro f xs ins o h
  cases h
theorem goodv_spec_l1Has (fu : Nat) (list_0 : (Sl Int)) (v_1 : Int) (y : Bool) (hy : F_spec_l1Has fu list_0 v_1 = some y) : Good E Tryz.prog 96 [(.rs list_0.z .i64 list_0.n list_0.f), (.int .i64 v_1)] (enc_bo y) :=
  fun_good E_ok (pc_good (pc := pc_spec_l1Has fu) (hpc_spec_l1Has fu) (hpx_spec_l1Has fu)) (fn := Tryz.f96) (c := body_spec_l1Has) (out := out_bo) (y := y) (by kernel_rfl) (by kernel_rfl) (by kernel_rfl) (lpok_spec_l1Has fu) (fun d hd => out_bo_enc d _ hd) ((ev_spec_l1Has fu list_0 v_1).trans hy)
theorem good_spec_l1Has (fu : Nat) : ∀ xs o, S_spec_l1Has fu xs = some o → ∀ y, o.x = some y → Good E Tryz.prog 96 xs (o.g y) := by
  intro xs o h y hy
  unfold S_spec_l1Has at h
  split at h
  · rename_i za0_0 na0_0 fa0_0 a1_0
    cases h
    exact goodv_spec_l1Has fu (⟨za0_0, na0_0, fa0_0⟩ : (Sl Int)) a1_0 y hy
  · cases h

/-! spec.l14Serves -/
def F_spec_l14Serves (fu : Nat) (c_0 : S_impl_Config) (f_1 : S_impl_Flow) (name_2 : Int) : Option (Bool) :=
  ((F_spec_l5For fu c_0 f_1).bind fun y172 => (((bif (decide (y172 < 0)) then (some true) else ((bif (decide (0 ≤ y172) && decide ((Int.toNat y172) < c_0.Vips.n)) then some () else
    none : Option Unit).bind fun _ => ((F_spec_l1Has fu (c_0.Vips.f (Int.toNat y172)).Names name_2).bind fun y173 => (some (!y173))))) : Option Bool).bind fun m174 => (bif m174 then
    (some false) else ((F_spec_l5At fu c_0 name_2).bind fun y175 => ((bif (decide (0 ≤ y175) && decide ((Int.toNat y175) < c_0.Backends.n)) then some () else none : Option Unit).bind fun _ =>
    (some ((c_0.Backends.f (Int.toNat y175)).Stage != 3)))))))
def pcf_spec_l14Serves (fu : Nat) (f : Nat) (xs : List (D RT den)) : Option (Out RT den) := match f with | 94 => S_spec_l5At fu xs | 95 => S_spec_l5For fu xs | 96 => S_spec_l1Has fu xs | _ => none
def pcx_spec_l14Serves (fu : Nat) (f : Nat) (xs : List (D RT den)) (ins : List (Ob RT den)) : Option (OutX RT den) := none
def pc_spec_l14Serves (fu : Nat) : Pc RT den := ⟨pcf_spec_l14Serves fu, fun _ => false, fun _ => false, pcx_spec_l14Serves fu⟩
def msk_spec_l14Serves (b : Nat) : List Nat := match b with | 200002 => [25] | _ => []
def lp_spec_l14Serves (fu : Nat) : Lp RT den (Bool) := fun b s k => none
theorem ev_spec_l14Serves (fu : Nat) (c_0 : S_impl_Config) (f_1 : S_impl_Flow) (name_2 : Int) : evFun E (pc_spec_l14Serves fu) msk_spec_l14Serves (lp_spec_l14Serves fu) out_bo 69 [(.rptr [(.int .i64 c_0.Version), (.rs c_0.Backends.z .impl_Backend c_0.Backends.n c_0.Backends.f), (.rs c_0.Vips.z .impl_Vip c_0.Vips.n c_0.Vips.f)]), (.agg [(.int .i64 f_1.From), (.int .i64 f_1.To), (.int .i64 f_1.Proto), (.int .i64 f_1.FromP), (.int .i64 f_1.ToP)]), (.int .i64 name_2)] = F_spec_l14Serves fu c_0 f_1 name_2 := by kernel_rfl
noncomputable def body_spec_l14Serves : Code := Tryz.f69.body.getD .skip
theorem lpok_spec_l14Serves (fu : Nat) : LpOk E (pc_spec_l14Serves fu) msk_spec_l14Serves (lp_spec_l14Serves fu) (loops 0 body_spec_l14Serves) := by
  have h : loops 0 body_spec_l14Serves = [] := by kernel_rfl
  rw [h]; intro p hp; cases hp
def S_spec_l14Serves (fu : Nat) (xs : List (D RT den)) : Option (Out RT den) := match xs with | [.rptr (.int .i64 a0_1 :: .rs za0_2 .impl_Backend na0_2 fa0_2 :: .rs za0_3 .impl_Vip na0_3 fa0_3 :: ra0), .agg [.int .i64 a1_1, .int .i64 a1_2, .int .i64 a1_3, .int .i64 a1_4, .int .i64 a1_5], .int .i64 a2_0] => some ⟨Bool, F_spec_l14Serves fu (⟨a0_1, (⟨za0_2, na0_2, fa0_2⟩ : (Sl S_impl_Backend)), (⟨za0_3, na0_3, fa0_3⟩ : (Sl S_impl_Vip))⟩ : S_impl_Config) (⟨a1_1, a1_2, a1_3, a1_4, a1_5⟩ : S_impl_Flow) a2_0, enc_bo, fun _ => true⟩ | _ => none
theorem hpc_spec_l14Serves (fu : Nat) : ∀ f xs o, pcf_spec_l14Serves fu f xs = some o → ∀ y, o.x = some y → Good E Tryz.prog f xs (o.g y) := by
  intro f xs o h
  unfold pcf_spec_l14Serves at h
  split at h
  · exact good_spec_l5At fu xs o h
  · exact good_spec_l5For fu xs o h
  · exact good_spec_l1Has fu xs o h
  · cases h
theorem hpx_spec_l14Serves (fu : Nat) : ∀ f xs ins o, pcx_spec_l14Serves fu f xs ins = some o → ∀ y, o.x = some y → GoodX E Tryz.prog f xs ins (o.g y).1 (o.g y).2 := by
  intro f xs ins o h
  cases h
theorem goodv_spec_l14Serves (fu : Nat) (c_0 : S_impl_Config) (f_1 : S_impl_Flow) (name_2 : Int) (y : Bool) (hy : F_spec_l14Serves fu c_0 f_1 name_2 = some y) : Good E Tryz.prog 69 [(.rptr [(.int .i64 c_0.Version), (.rs c_0.Backends.z .impl_Backend c_0.Backends.n c_0.Backends.f), (.rs c_0.Vips.z .impl_Vip c_0.Vips.n c_0.Vips.f)]), (.agg [(.int .i64 f_1.From), (.int .i64 f_1.To), (.int .i64 f_1.Proto), (.int .i64 f_1.FromP), (.int .i64 f_1.ToP)]), (.int .i64 name_2)] (enc_bo y) :=
  fun_good E_ok (pc_good (pc := pc_spec_l14Serves fu) (hpc_spec_l14Serves fu) (hpx_spec_l14Serves fu)) (fn := Tryz.f69) (c := body_spec_l14Serves) (out := out_bo) (y := y) (by kernel_rfl) (by kernel_rfl) (by kernel_rfl) (lpok_spec_l14Serves fu) (fun d hd => out_bo_enc d _ hd) ((ev_spec_l14Serves fu c_0 f_1 name_2).trans hy)
theorem good_spec_l14Serves (fu : Nat) : ∀ xs o, S_spec_l14Serves fu xs = some o → ∀ y, o.x = some y → Good E Tryz.prog 69 xs (o.g y) := by
  intro xs o h y hy
  unfold S_spec_l14Serves at h
  split at h
  · rename_i a0_1 za0_2 na0_2 fa0_2 za0_3 na0_3 fa0_3 ra0 a1_1 a1_2 a1_3 a1_4 a1_5 a2_0
    cases h
    exact (goodv_spec_l14Serves fu (⟨a0_1, (⟨za0_2, na0_2, fa0_2⟩ : (Sl S_impl_Backend)), (⟨za0_3, na0_3, fa0_3⟩ : (Sl S_impl_Vip))⟩ : S_impl_Config) (⟨a1_1, a1_2, a1_3, a1_4, a1_5⟩ : S_impl_Flow) a2_0 y hy).sub ⟨Sub.of_eq ra0 rfl, .refl _, .refl _, trivial⟩
  · cases h

/-! spec.l14Find -/
def F_spec_l14Find_B0 {ρ : Type} (fu : Nat) (list0_0 : (Sl S_impl_Held)) (o0_2 : Int) (o0_3 : Int) (o0_4 : Int) (o0_5 : Int) (o0_6 : Int) (k0 : Int → Option ρ) (k1 : Option ρ) (i5_1 : Int) (go : Int → Option ρ) : Option ρ :=
  (bif (decide (i5_1 < ((list0_0.n : Nat) : Int))) then ((bif (decide (0 ≤ i5_1) && decide ((Int.toNat i5_1) < list0_0.n)) then some () else none : Option Unit).bind fun _ => (bif (((list0_0.f (Int.toNat i5_1)).Flow.From == o0_2) &&
    (((list0_0.f (Int.toNat i5_1)).Flow.To == o0_3) && (((list0_0.f (Int.toNat i5_1)).Flow.Proto == o0_4) && (((list0_0.f (Int.toNat i5_1)).Flow.FromP == o0_5) && (((list0_0.f (Int.toNat i5_1)).Flow.ToP == o0_6) &&
    true))))) then (k0 i5_1) else (go (IntKind.wrap .i64 (i5_1 + 1))))) else k1)
def F_spec_l14Find (fu : Nat) (list_0 : (Sl S_impl_Held)) (f_1 : S_impl_Flow) : Option (Int) :=
  (L (fun w0 go0 => F_spec_l14Find_B0 fu list_0 f_1.From f_1.To f_1.Proto f_1.FromP f_1.ToP (fun z182 => (some z182)) (some (-1)) w0 go0) fu (0 : Int))
def pcf_spec_l14Find (fu : Nat) (f : Nat) (xs : List (D RT den)) : Option (Out RT den) := none
def pcx_spec_l14Find (fu : Nat) (f : Nat) (xs : List (D RT den)) (ins : List (Ob RT den)) : Option (OutX RT den) := none
def pc_spec_l14Find (fu : Nat) : Pc RT den := ⟨pcf_spec_l14Find fu, fun _ => false, fun _ => false, pcx_spec_l14Find fu⟩
def msk_spec_l14Find (b : Nat) : List Nat := match b with | 0 => [1, 2, 4, 6, 7, 8, 9, 10, 11, 12, 13, 14, 15, 16, 17, 18, 19] | 100000 => [0, 1, 2, 3, 5, 6, 7, 8, 9, 10, 11, 12, 13, 14, 15, 16, 17, 18, 19] | _ => []
def ps_spec_l14Find_0 : List (Pat RT) := [.flat (.rs .impl_Held), .flat .dead, .flat .dead, .flat (.ref 0 0), .flat .dead, .flat (.int .i64), .flat .dead, .flat .dead, .flat .dead, .flat .dead, .flat .dead, .flat .dead, .flat .dead, .flat .dead, .flat .dead, .flat .dead, .flat .dead, .flat .dead, .flat .dead, .flat .dead]
def os_spec_l14Find_0 : List (OP RT) := [.box [(.int .i64), (.int .i64), (.int .i64), (.int .i64), (.int .i64)]]
def conv_spec_l14Find_0 (r : Raw den ps_spec_l14Find_0 os_spec_l14Find_0) : ((Sl S_impl_Held) × Int × Int × Int × Int × Int) × (Int) := ((r.1.1, r.2.1.1, r.2.1.2.1, r.2.1.2.2.1, r.2.1.2.2.2.1, r.2.1.2.2.2.2.1), r.1.2.2.2.2.2.1)
def back_spec_l14Find_0 (c : (Sl S_impl_Held) × Int × Int × Int × Int × Int) (w : Int) : St RT den := ⟨[(.rs c.1.z .impl_Held c.1.n c.1.f), .dead, .dead, (.ref 0 0), .dead, (.int .i64 w), .dead, .dead, .dead, .dead, .dead, .dead, .dead, .dead, .dead, .dead, .dead, .dead, .dead, .dead], [(.box [(.int .i64 c.2.1), (.int .i64 c.2.2.1), (.int .i64 c.2.2.2.1), (.int .i64 c.2.2.2.2.1), (.int .i64 c.2.2.2.2.2)])]⟩
def Bk_spec_l14Find_0 {ρ : Type} (fu : Nat) (c : (Sl S_impl_Held) × Int × Int × Int × Int × Int) (k : Ex → St RT den → Option ρ) (w : Int) (go : (Int) → Option ρ) : Option ρ := F_spec_l14Find_B0 fu c.1 c.2.1 c.2.2.1 c.2.2.2.1 c.2.2.2.2.1 c.2.2.2.2.2 (fun a0 => k .ret ⟨[.dead, .dead, .dead, .dead, (.int .i64 a0), .dead, .dead, .dead, .dead, .dead, .dead, .dead, .dead, .dead, .dead, .dead, .dead, .dead, .dead, .dead], [(.box [(.int .i64 c.2.1), (.int .i64 c.2.2.1), (.int .i64 c.2.2.2.1), (.int .i64 c.2.2.2.2.1), (.int .i64 c.2.2.2.2.2)])]⟩) (k (.exit 0) ⟨[.dead, .dead, .dead, .dead, .dead, .dead, .dead, .dead, .dead, .dead, .dead, .dead, .dead, .dead, .dead, .dead, .dead, .dead, .dead, .dead], [(.box [(.int .i64 c.2.1), (.int .i64 c.2.2.1), (.int .i64 c.2.2.2.1), (.int .i64 c.2.2.2.2.1), (.int .i64 c.2.2.2.2.2)])]⟩) w go
def lp_spec_l14Find (fu : Nat) : Lp RT den (Int) := fun b s k => match b with | 0 => handle ps_spec_l14Find_0 os_spec_l14Find_0 conv_spec_l14Find_0 (Bk_spec_l14Find_0 fu) fu s k | _ => none
theorem ev_spec_l14Find (fu : Nat) (list_0 : (Sl S_impl_Held)) (f_1 : S_impl_Flow) : evFun E (pc_spec_l14Find fu) msk_spec_l14Find (lp_spec_l14Find fu) out_i64 35 [(.rs list_0.z .impl_Held list_0.n list_0.f), (.agg [(.int .i64 f_1.From), (.int .i64 f_1.To), (.int .i64 f_1.Proto), (.int .i64 f_1.FromP), (.int .i64 f_1.ToP)])] = F_spec_l14Find fu list_0 f_1 := by kernel_rfl
noncomputable def body_spec_l14Find : Code := Tryz.f35.body.getD .skip
noncomputable def lc_spec_l14Find_0 : Code := ((loops 0 body_spec_l14Find).getD 0 (0, .skip)).2
theorem round_spec_l14Find_0 (fu : Nat) (it : St RT den → Option (Int)) (k : Ex → St RT den → Option (Int)) c w : evCode E (pc_spec_l14Find fu) msk_spec_l14Find (lp_spec_l14Find fu) 0 lc_spec_l14Find_0 (back_spec_l14Find_0 c w) (after (msk_spec_l14Find 0) (msk_spec_l14Find 100000) 1 it k) = Bk_spec_l14Find_0 fu c k w (fun w => it (back_spec_l14Find_0 c w)) := by kernel_rfl
theorem lpok_spec_l14Find_0 (fu : Nat) : ∀ s k r, lp_spec_l14Find fu 0 s k = some r → ∃ fuel, iter (msk_spec_l14Find 0) (msk_spec_l14Find 100000) s.objs.length (evCode E (pc_spec_l14Find fu) msk_spec_l14Find (lp_spec_l14Find fu) 0 lc_spec_l14Find_0) fuel s k = some r :=
  handle_ok (ps := ps_spec_l14Find_0) (os := os_spec_l14Find_0) (conv := conv_spec_l14Find_0) (B := Bk_spec_l14Find_0 fu) (fu := fu) back_spec_l14Find_0 (fun raw => by kernel_rfl) 1 (fun c w => by kernel_rfl) (round_spec_l14Find_0 fu)
theorem lpok_spec_l14Find (fu : Nat) : LpOk E (pc_spec_l14Find fu) msk_spec_l14Find (lp_spec_l14Find fu) (loops 0 body_spec_l14Find) := loop_all 1 (by kernel_rfl) fun i hi => match i, hi with
  | 0, _ => by
    have h : (loops 0 body_spec_l14Find).getD 0 (0, .skip) = (0, lc_spec_l14Find_0) := by kernel_rfl
    rw [h]; exact lpok_spec_l14Find_0 fu
  | i + 1, hi => absurd hi (by omega)
def S_spec_l14Find (fu : Nat) (xs : List (D RT den)) : Option (Out RT den) := match xs with | [.rs za0_0 .impl_Held na0_0 fa0_0, .agg [.int .i64 a1_1, .int .i64 a1_2, .int .i64 a1_3, .int .i64 a1_4, .int .i64 a1_5]] => some ⟨Int, F_spec_l14Find fu (⟨za0_0, na0_0, fa0_0⟩ : (Sl S_impl_Held)) (⟨a1_1, a1_2, a1_3, a1_4, a1_5⟩ : S_impl_Flow), enc_i64, fun _ => true⟩ | _ => none
theorem hpc_spec_l14Find (fu : Nat) : ∀ f xs o, pcf_spec_l14Find fu f xs = some o → ∀ y, o.x = some y → Good E Tryz.prog f xs (o.g y) := by
  intro f xs o h
  cases h
theorem hpx_spec_l14Find (fu : Nat) : ∀ f xs ins o, pcx_spec_l14Find fu f xs ins = some o → ∀ y, o.x = some y → GoodX E Tryz.prog f xs ins (o.g y).1 (o.g y).2 := by
  intro f xs ins o h
  cases h
theorem goodv_spec_l14Find (fu : Nat) (list_0 : (Sl S_impl_Held)) (f_1 : S_impl_Flow) (y : Int) (hy : F_spec_l14Find fu list_0 f_1 = some y) : Good E Tryz.prog 35 [(.rs list_0.z .impl_Held list_0.n list_0.f), (.agg [(.int .i64 f_1.From), (.int .i64 f_1.To), (.int .i64 f_1.Proto), (.int .i64 f_1.FromP), (.int .i64 f_1.ToP)])] (enc_i64 y) :=
  fun_good E_ok (pc_good (pc := pc_spec_l14Find fu) (hpc_spec_l14Find fu) (hpx_spec_l14Find fu)) (fn := Tryz.f35) (c := body_spec_l14Find) (out := out_i64) (y := y) (by kernel_rfl) (by kernel_rfl) (by kernel_rfl) (lpok_spec_l14Find fu) (fun d hd => out_i64_enc d _ hd) ((ev_spec_l14Find fu list_0 f_1).trans hy)
theorem good_spec_l14Find (fu : Nat) : ∀ xs o, S_spec_l14Find fu xs = some o → ∀ y, o.x = some y → Good E Tryz.prog 35 xs (o.g y) := by
  intro xs o h y hy
  unfold S_spec_l14Find at h
  split at h
  · rename_i za0_0 na0_0 fa0_0 a1_1 a1_2 a1_3 a1_4 a1_5
    cases h
    exact goodv_spec_l14Find fu (⟨za0_0, na0_0, fa0_0⟩ : (Sl S_impl_Held)) (⟨a1_1, a1_2, a1_3, a1_4, a1_5⟩ : S_impl_Flow) y hy
  · cases h

/-! spec.l14Held -/
def F_spec_l14Held_B0 {ρ : Type} (fu : Nat) (m0_0 : Int) (m0_1 : Int) (m0_2 : Bool) (m0_3 : Int) (m0_4 : (Sl S_impl_Backend)) (m0_5 : (Sl S_impl_Vip)) (m0_6 : (Sl (Sl Int))) (m0_7 : (Sl S_impl_Held)) (k0 : Int → Int → Int → Int → Int → Int → Int → Option ρ) (k1 : Int → Int → Int → Int → Int → Int → Int → Option ρ) (k2 : Int → Int → Int → Int → Int → Int → Int → Option ρ) (k3 : Int → Int → Int → Int → Int → Int → Int → Option ρ) (k4 : Option ρ) (i3_8 : Int) (go : Int → Option ρ) : Option ρ :=
  (bif (decide (i3_8 < ((m0_7.n : Nat) : Int))) then ((bif (decide (0 ≤ i3_8) && decide ((Int.toNat i3_8) < m0_7.n)) then some () else none : Option Unit).bind fun _ =>
    ((((F_spec_l3Flow fu (m0_7.f (Int.toNat i3_8)).Flow).bind fun y132 => (bif (!y132) then (some true) else ((F_spec_l1In fu (m0_7.f (Int.toNat i3_8)).Seen 0 m0_1).bind fun y133 =>
    (some (!y133))))) : Option Bool).bind fun m134 => (bif m134 then (k0 (m0_7.f (Int.toNat i3_8)).Flow.From (m0_7.f (Int.toNat i3_8)).Flow.To (m0_7.f (Int.toNat i3_8)).Flow.Proto (m0_7.f (Int.toNat i3_8)).Flow.FromP (m0_7.f (Int.toNat i3_8)).Flow.ToP (m0_7.f (Int.toNat i3_8)).Name (m0_7.f (Int.toNat i3_8)).Seen) else
    ((F_spec_l14Serves fu (⟨m0_3, m0_4, m0_5⟩ : S_impl_Config) (m0_7.f (Int.toNat i3_8)).Flow (m0_7.f (Int.toNat i3_8)).Name).bind fun y135 => (bif (!y135) then (k1 (m0_7.f (Int.toNat i3_8)).Flow.From (m0_7.f (Int.toNat i3_8)).Flow.To (m0_7.f (Int.toNat i3_8)).Flow.Proto (m0_7.f (Int.toNat i3_8)).Flow.FromP (m0_7.f (Int.toNat i3_8)).Flow.ToP (m0_7.f (Int.toNat i3_8)).Name (m0_7.f (Int.toNat i3_8)).Seen) else
    (bif (decide ((IntKind.wrap .i64 (m0_1 - (m0_7.f (Int.toNat i3_8)).Seen)) > 20)) then (k2 (m0_7.f (Int.toNat i3_8)).Flow.From (m0_7.f (Int.toNat i3_8)).Flow.To (m0_7.f (Int.toNat i3_8)).Flow.Proto (m0_7.f (Int.toNat i3_8)).Flow.FromP (m0_7.f (Int.toNat i3_8)).Flow.ToP (m0_7.f (Int.toNat i3_8)).Name (m0_7.f (Int.toNat i3_8)).Seen) else
    ((bif (decide ((0 : Int) ≤ i3_8) && decide ((Int.toNat i3_8) ≤ m0_7.n)) then some () else none : Option Unit).bind fun _ => ((F_spec_l14Find fu (⟨m0_7.z, ((Int.toNat i3_8) - 0),
    (fun i => m0_7.f (0 + i))⟩ : (Sl S_impl_Held)) (m0_7.f (Int.toNat i3_8)).Flow).bind fun y136 => (bif (decide (y136 ≥ 0)) then (k3 (m0_7.f (Int.toNat i3_8)).Flow.From (m0_7.f (Int.toNat i3_8)).Flow.To (m0_7.f (Int.toNat i3_8)).Flow.Proto (m0_7.f (Int.toNat i3_8)).Flow.FromP (m0_7.f (Int.toNat i3_8)).Flow.ToP (m0_7.f (Int.toNat i3_8)).Name (m0_7.f (Int.toNat i3_8)).Seen) else
    (go (IntKind.wrap .i64 (i3_8 + 1)))))))))))) else k4)
def F_spec_l14Held (fu : Nat) (m_0 : S_impl_Mux) : Option (Int) :=
  (bif (decide (((m_0.Cache.n : Nat) : Int) > 8)) then (some 2) else (L (fun w0 go0 => F_spec_l14Held_B0 fu m_0.Address m_0.Now m_0.Watch.Ready m_0.Watch.Config.Version m_0.Watch.Config.Backends m_0.Watch.Config.Vips m_0.Tables m_0.Cache (fun z137 z138 z139 z140 z141 z142 z143 =>
    (some 3)) (fun z144 z145 z146 z147 z148 z149 z150 => (some 4)) (fun z151 z152 z153 z154 z155 z156 z157 => (some 9)) (fun z158 z159 z160 z161 z162 z163 z164 => (some 7)) (some 0) w0 go0) fu (0 : Int)))
def pcf_spec_l14Held (fu : Nat) (f : Nat) (xs : List (D RT den)) : Option (Out RT den) := match f with | 34 => S_spec_l3Flow fu xs | 35 => S_spec_l14Find fu xs | 64 => S_spec_l1In fu xs | 69 => S_spec_l14Serves fu xs | _ => none
def pcx_spec_l14Held (fu : Nat) (f : Nat) (xs : List (D RT den)) (ins : List (Ob RT den)) : Option (OutX RT den) := none
def pc_spec_l14Held (fu : Nat) : Pc RT den := ⟨pcf_spec_l14Held fu, fun _ => false, fun _ => false, pcx_spec_l14Held fu⟩
def msk_spec_l14Held (b : Nat) : List Nat := match b with | 0 => [1, 2, 4, 5, 6, 7, 8, 9, 10, 11, 12, 13, 14, 15, 16, 17, 18, 19, 20, 21, 22, 23, 24, 25, 26, 27, 28, 29, 30, 31, 32, 33, 34, 35, 36, 37, 38, 39, 40, 41, 42, 43, 44, 45, 46, 47, 48, 49, 50, 51, 52, 53, 54, 55, 56, 57, 58, 59, 60, 61, 62, 63, 64, 65, 66, 67, 68] | 100000 => [0, 1, 3, 4, 5, 6, 7, 8, 9, 10, 11, 12, 13, 14, 15, 16, 17, 18, 19, 20, 21, 22, 23, 24, 25, 26, 27, 28, 29, 30, 31, 32, 33, 34, 35, 36, 37, 38, 39, 40, 41, 42, 43, 44, 45, 46, 47, 48, 49, 50, 51, 52, 53, 54, 55, 56, 57, 58, 59, 60, 61, 62, 63, 64, 65, 66, 67, 68] | 200007 => [40] | _ => []
def ps_spec_l14Held_0 : List (Pat RT) := [.rptr [(.int .i64), (.int .i64), .bool, (.int .i64), (.rs .impl_Backend), (.rs .impl_Vip), (.rs .sl_i64), (.rs .impl_Held)], .flat .dead, .flat .dead, .flat (.int .i64), .flat .dead, .flat .dead, .flat .dead, .flat .dead, .flat .dead, .flat .dead, .flat .dead, .flat .dead, .flat .dead, .flat .dead, .flat .dead, .flat .dead, .flat .dead, .flat .dead, .flat .dead, .flat .dead, .flat .dead, .flat .dead, .flat .dead, .flat .dead, .flat .dead, .flat .dead, .flat .dead, .flat .dead, .flat .dead, .flat .dead, .flat .dead, .flat .dead, .flat .dead, .flat .dead, .flat .dead, .flat .dead, .flat .dead, .flat .dead, .flat .dead, .flat .dead, .flat .dead, .flat .dead, .flat .dead, .flat .dead, .flat .dead, .flat .dead, .flat .dead, .flat .dead, .flat .dead, .flat .dead, .flat .dead, .flat .dead, .flat .dead, .flat .dead, .flat .dead, .flat .dead, .flat .dead, .flat .dead, .flat .dead, .flat .dead, .flat .dead, .flat .dead, .flat .dead, .flat .dead, .flat .dead, .flat .dead, .flat .dead, .flat .dead, .flat .dead]
def os_spec_l14Held_0 : List (OP RT) := []
def conv_spec_l14Held_0 (r : Raw den ps_spec_l14Held_0 os_spec_l14Held_0) : (Int × Int × Bool × Int × (Sl S_impl_Backend) × (Sl S_impl_Vip) × (Sl (Sl Int)) × (Sl S_impl_Held)) × (Int) := ((r.1.1.1, r.1.1.2.1, r.1.1.2.2.1, r.1.1.2.2.2.1, r.1.1.2.2.2.2.1, r.1.1.2.2.2.2.2.1, r.1.1.2.2.2.2.2.2.1, r.1.1.2.2.2.2.2.2.2.1), r.1.2.2.2.1)
def back_spec_l14Held_0 (c : Int × Int × Bool × Int × (Sl S_impl_Backend) × (Sl S_impl_Vip) × (Sl (Sl Int)) × (Sl S_impl_Held)) (w : Int) : St RT den := ⟨[(.rptr [(.int .i64 c.1), (.int .i64 c.2.1), (.bool c.2.2.1), (.int .i64 c.2.2.2.1), (.rs c.2.2.2.2.1.z .impl_Backend c.2.2.2.2.1.n c.2.2.2.2.1.f), (.rs c.2.2.2.2.2.1.z .impl_Vip c.2.2.2.2.2.1.n c.2.2.2.2.2.1.f), (.rs c.2.2.2.2.2.2.1.z .sl_i64 c.2.2.2.2.2.2.1.n c.2.2.2.2.2.2.1.f), (.rs c.2.2.2.2.2.2.2.z .impl_Held c.2.2.2.2.2.2.2.n c.2.2.2.2.2.2.2.f)]), .dead, .dead, (.int .i64 w), .dead, .dead, .dead, .dead, .dead, .dead, .dead, .dead, .dead, .dead, .dead, .dead, .dead, .dead, .dead, .dead, .dead, .dead, .dead, .dead, .dead, .dead, .dead, .dead, .dead, .dead, .dead, .dead, .dead, .dead, .dead, .dead, .dead, .dead, .dead, .dead, .dead, .dead, .dead, .dead, .dead, .dead, .dead, .dead, .dead, .dead, .dead, .dead, .dead, .dead, .dead, .dead, .dead, .dead, .dead, .dead, .dead, .dead, .dead, .dead, .dead, .dead, .dead, .dead, .dead], []⟩
def Bk_spec_l14Held_0 {ρ : Type} (fu : Nat) (c : Int × Int × Bool × Int × (Sl S_impl_Backend) × (Sl S_impl_Vip) × (Sl (Sl Int)) × (Sl S_impl_Held)) (k : Ex → St RT den → Option ρ) (w : Int) (go : (Int) → Option ρ) : Option ρ := F_spec_l14Held_B0 fu c.1 c.2.1 c.2.2.1 c.2.2.2.1 c.2.2.2.2.1 c.2.2.2.2.2.1 c.2.2.2.2.2.2.1 c.2.2.2.2.2.2.2 (fun a0 a1 a2 a3 a4 a5 a6 => k .ret ⟨[.dead, .dead, (.int .i64 3), .dead, .dead, .dead, .dead, .dead, .dead, .dead, .dead, .dead, .dead, .dead, .dead, .dead, .dead, .dead, .dead, .dead, .dead, .dead, .dead, .dead, .dead, .dead, .dead, .dead, .dead, .dead, .dead, .dead, .dead, .dead, .dead, .dead, .dead, .dead, .dead, .dead, .dead, .dead, .dead, .dead, .dead, .dead, .dead, .dead, .dead, .dead, .dead, .dead, .dead, .dead, .dead, .dead, .dead, .dead, .dead, .dead, .dead, .dead, .dead, .dead, .dead, .dead, .dead, .dead, .dead], [(.box [(.int .i64 a0), (.int .i64 a1), (.int .i64 a2), (.int .i64 a3), (.int .i64 a4), (.int .i64 a5), (.int .i64 a6)])]⟩) (fun a0 a1 a2 a3 a4 a5 a6 => k .ret ⟨[.dead, .dead, (.int .i64 4), .dead, .dead, .dead, .dead, .dead, .dead, .dead, .dead, .dead, .dead, .dead, .dead, .dead, .dead, .dead, .dead, .dead, .dead, .dead, .dead, .dead, .dead, .dead, .dead, .dead, .dead, .dead, .dead, .dead, .dead, .dead, .dead, .dead, .dead, .dead, .dead, .dead, .dead, .dead, .dead, .dead, .dead, .dead, .dead, .dead, .dead, .dead, .dead, .dead, .dead, .dead, .dead, .dead, .dead, .dead, .dead, .dead, .dead, .dead, .dead, .dead, .dead, .dead, .dead, .dead, .dead], [(.box [(.int .i64 a0), (.int .i64 a1), (.int .i64 a2), (.int .i64 a3), (.int .i64 a4), (.int .i64 a5), (.int .i64 a6)])]⟩) (fun a0 a1 a2 a3 a4 a5 a6 => k .ret ⟨[.dead, .dead, (.int .i64 9), .dead, .dead, .dead, .dead, .dead, .dead, .dead, .dead, .dead, .dead, .dead, .dead, .dead, .dead, .dead, .dead, .dead, .dead, .dead, .dead, .dead, .dead, .dead, .dead, .dead, .dead, .dead, .dead, .dead, .dead, .dead, .dead, .dead, .dead, .dead, .dead, .dead, .dead, .dead, .dead, .dead, .dead, .dead, .dead, .dead, .dead, .dead, .dead, .dead, .dead, .dead, .dead, .dead, .dead, .dead, .dead, .dead, .dead, .dead, .dead, .dead, .dead, .dead, .dead, .dead, .dead], [(.box [(.int .i64 a0), (.int .i64 a1), (.int .i64 a2), (.int .i64 a3), (.int .i64 a4), (.int .i64 a5), (.int .i64 a6)])]⟩) (fun a0 a1 a2 a3 a4 a5 a6 => k .ret ⟨[.dead, .dead, (.int .i64 7), .dead, .dead, .dead, .dead, .dead, .dead, .dead, .dead, .dead, .dead, .dead, .dead, .dead, .dead, .dead, .dead, .dead, .dead, .dead, .dead, .dead, .dead, .dead, .dead, .dead, .dead, .dead, .dead, .dead, .dead, .dead, .dead, .dead, .dead, .dead, .dead, .dead, .dead, .dead, .dead, .dead, .dead, .dead, .dead, .dead, .dead, .dead, .dead, .dead, .dead, .dead, .dead, .dead, .dead, .dead, .dead, .dead, .dead, .dead, .dead, .dead, .dead, .dead, .dead, .dead, .dead], [(.box [(.int .i64 a0), (.int .i64 a1), (.int .i64 a2), (.int .i64 a3), (.int .i64 a4), (.int .i64 a5), (.int .i64 a6)])]⟩) (k (.exit 0) ⟨[.dead, .dead, .dead, .dead, .dead, .dead, .dead, .dead, .dead, .dead, .dead, .dead, .dead, .dead, .dead, .dead, .dead, .dead, .dead, .dead, .dead, .dead, .dead, .dead, .dead, .dead, .dead, .dead, .dead, .dead, .dead, .dead, .dead, .dead, .dead, .dead, .dead, .dead, .dead, .dead, .dead, .dead, .dead, .dead, .dead, .dead, .dead, .dead, .dead, .dead, .dead, .dead, .dead, .dead, .dead, .dead, .dead, .dead, .dead, .dead, .dead, .dead, .dead, .dead, .dead, .dead, .dead, .dead, .dead], []⟩) w go
def lp_spec_l14Held (fu : Nat) : Lp RT den (Int) := fun b s k => match b with | 0 => handle ps_spec_l14Held_0 os_spec_l14Held_0 conv_spec_l14Held_0 (Bk_spec_l14Held_0 fu) fu s k | _ => none
theorem ev_spec_l14Held (fu : Nat) (m_0 : S_impl_Mux) : evFun E (pc_spec_l14Held fu) msk_spec_l14Held (lp_spec_l14Held fu) out_i64 44 [(.rptr [(.int .i64 m_0.Address), (.int .i64 m_0.Now), (.bool m_0.Watch.Ready), (.int .i64 m_0.Watch.Config.Version), (.rs m_0.Watch.Config.Backends.z .impl_Backend m_0.Watch.Config.Backends.n m_0.Watch.Config.Backends.f), (.rs m_0.Watch.Config.Vips.z .impl_Vip m_0.Watch.Config.Vips.n m_0.Watch.Config.Vips.f), (.rs m_0.Tables.z .sl_i64 m_0.Tables.n m_0.Tables.f), (.rs m_0.Cache.z .impl_Held m_0.Cache.n m_0.Cache.f)])] = F_spec_l14Held fu m_0 := by kernel_rfl
noncomputable def body_spec_l14Held : Code := Tryz.f44.body.getD .skip
noncomputable def lc_spec_l14Held_0 : Code := ((loops 0 body_spec_l14Held).getD 0 (0, .skip)).2
theorem round_spec_l14Held_0 (fu : Nat) (it : St RT den → Option (Int)) (k : Ex → St RT den → Option (Int)) c w : evCode E (pc_spec_l14Held fu) msk_spec_l14Held (lp_spec_l14Held fu) 0 lc_spec_l14Held_0 (back_spec_l14Held_0 c w) (after (msk_spec_l14Held 0) (msk_spec_l14Held 100000) 0 it k) = Bk_spec_l14Held_0 fu c k w (fun w => it (back_spec_l14Held_0 c w)) := by kernel_rfl
theorem lpok_spec_l14Held_0 (fu : Nat) : ∀ s k r, lp_spec_l14Held fu 0 s k = some r → ∃ fuel, iter (msk_spec_l14Held 0) (msk_spec_l14Held 100000) s.objs.length (evCode E (pc_spec_l14Held fu) msk_spec_l14Held (lp_spec_l14Held fu) 0 lc_spec_l14Held_0) fuel s k = some r :=
  handle_ok (ps := ps_spec_l14Held_0) (os := os_spec_l14Held_0) (conv := conv_spec_l14Held_0) (B := Bk_spec_l14Held_0 fu) (fu := fu) back_spec_l14Held_0 (fun raw => by kernel_rfl) 0 (fun c w => by kernel_rfl) (round_spec_l14Held_0 fu)
theorem lpok_spec_l14Held (fu : Nat) : LpOk E (pc_spec_l14Held fu) msk_spec_l14Held (lp_spec_l14Held fu) (loops 0 body_spec_l14Held) := loop_all 1 (by kernel_rfl) fun i hi => match i, hi with
  | 0, _ => by
    have h : (loops 0 body_spec_l14Held).getD 0 (0, .skip) = (0, lc_spec_l14Held_0) := by kernel_rfl
    rw [h]; exact lpok_spec_l14Held_0 fu
  | i + 1, hi => absurd hi (by omega)
def S_spec_l14Held (fu : Nat) (xs : List (D RT den)) : Option (Out RT den) := match xs with | [.rptr (.int .i64 a0_1 :: .int .i64 a0_2 :: .bool a0_4 :: .int .i64 a0_6 :: .rs za0_7 .impl_Backend na0_7 fa0_7 :: .rs za0_8 .impl_Vip na0_8 fa0_8 :: .rs za0_9 .sl_i64 na0_9 fa0_9 :: .rs za0_10 .impl_Held na0_10 fa0_10 :: ra0)] => some ⟨Int, F_spec_l14Held fu (⟨a0_1, a0_2, (⟨a0_4, (⟨a0_6, (⟨za0_7, na0_7, fa0_7⟩ : (Sl S_impl_Backend)), (⟨za0_8, na0_8, fa0_8⟩ : (Sl S_impl_Vip))⟩ : S_impl_Config)⟩ : S_impl_Watch), (⟨za0_9, na0_9, fa0_9⟩ : (Sl (Sl Int))), (⟨za0_10, na0_10, fa0_10⟩ : (Sl S_impl_Held))⟩ : S_impl_Mux), enc_i64, fun _ => true⟩ | _ => none
theorem hpc_spec_l14Held (fu : Nat) : ∀ f xs o, pcf_spec_l14Held fu f xs = some o → ∀ y, o.x = some y → Good E Tryz.prog f xs (o.g y) := by
  intro f xs o h
  unfold pcf_spec_l14Held at h
  split at h
  · exact good_spec_l3Flow fu xs o h
  · exact good_spec_l14Find fu xs o h
  · exact good_spec_l1In fu xs o h
  · exact good_spec_l14Serves fu xs o h
  · cases h
theorem hpx_spec_l14Held (fu : Nat) : ∀ f xs ins o, pcx_spec_l14Held fu f xs ins = some o → ∀ y, o.x = some y → GoodX E Tryz.prog f xs ins (o.g y).1 (o.g y).2 := by
  intro f xs ins o h
  cases h
theorem goodv_spec_l14Held (fu : Nat) (m_0 : S_impl_Mux) (y : Int) (hy : F_spec_l14Held fu m_0 = some y) : Good E Tryz.prog 44 [(.rptr [(.int .i64 m_0.Address), (.int .i64 m_0.Now), (.bool m_0.Watch.Ready), (.int .i64 m_0.Watch.Config.Version), (.rs m_0.Watch.Config.Backends.z .impl_Backend m_0.Watch.Config.Backends.n m_0.Watch.Config.Backends.f), (.rs m_0.Watch.Config.Vips.z .impl_Vip m_0.Watch.Config.Vips.n m_0.Watch.Config.Vips.f), (.rs m_0.Tables.z .sl_i64 m_0.Tables.n m_0.Tables.f), (.rs m_0.Cache.z .impl_Held m_0.Cache.n m_0.Cache.f)])] (enc_i64 y) :=
  fun_good E_ok (pc_good (pc := pc_spec_l14Held fu) (hpc_spec_l14Held fu) (hpx_spec_l14Held fu)) (fn := Tryz.f44) (c := body_spec_l14Held) (out := out_i64) (y := y) (by kernel_rfl) (by kernel_rfl) (by kernel_rfl) (lpok_spec_l14Held fu) (fun d hd => out_i64_enc d _ hd) ((ev_spec_l14Held fu m_0).trans hy)
theorem good_spec_l14Held (fu : Nat) : ∀ xs o, S_spec_l14Held fu xs = some o → ∀ y, o.x = some y → Good E Tryz.prog 44 xs (o.g y) := by
  intro xs o h y hy
  unfold S_spec_l14Held at h
  split at h
  · rename_i a0_1 a0_2 a0_4 a0_6 za0_7 na0_7 fa0_7 za0_8 na0_8 fa0_8 za0_9 na0_9 fa0_9 za0_10 na0_10 fa0_10 ra0
    cases h
    exact (goodv_spec_l14Held fu (⟨a0_1, a0_2, (⟨a0_4, (⟨a0_6, (⟨za0_7, na0_7, fa0_7⟩ : (Sl S_impl_Backend)), (⟨za0_8, na0_8, fa0_8⟩ : (Sl S_impl_Vip))⟩ : S_impl_Config)⟩ : S_impl_Watch), (⟨za0_9, na0_9, fa0_9⟩ : (Sl (Sl Int))), (⟨za0_10, na0_10, fa0_10⟩ : (Sl S_impl_Held))⟩ : S_impl_Mux) y hy).sub ⟨Sub.of_eq ra0 rfl, trivial⟩
  · cases h

/-! spec.l14Fault -/
def F_spec_l14Fault_B0 {ρ : Type} (fu : Nat) (m0_0 : Int) (m0_1 : Int) (m0_2 : Bool) (m0_3 : Int) (m0_4 : (Sl S_impl_Backend)) (m0_5 : (Sl S_impl_Vip)) (m0_6 : (Sl (Sl Int))) (m0_7 : (Sl S_impl_Held)) (want4_8 : (Sl (Sl Int))) (k0 : Option ρ) (k1 : Option ρ) (i5_9 : Int) (go : Int → Option ρ) : Option ρ :=
  (bif (decide (i5_9 < ((want4_8.n : Nat) : Int))) then ((bif (decide (0 ≤ i5_9) && decide ((Int.toNat i5_9) < want4_8.n)) then some () else none : Option Unit).bind fun _ => ((bif (decide (0 ≤ i5_9) &&
    decide ((Int.toNat i5_9) < m0_6.n)) then some () else none : Option Unit).bind fun _ => ((F_spec_l5Nums fu (want4_8.f (Int.toNat i5_9)) (m0_6.f (Int.toNat i5_9))).bind fun y72 =>
    (bif (!y72) then k0 else (go (IntKind.wrap .i64 (i5_9 + 1))))))) else k1)
def F_spec_l14Fault (fu : Nat) (m_0 : S_impl_Mux) : Option (Int) :=
  ((((F_spec_l2Address fu m_0.Address).bind fun y67 => (bif (!y67) then (some true) else ((F_spec_l14Now fu m_0.Now).bind fun y68 => (some (!y68))))) : Option Bool).bind fun m69 =>
    (bif m69 then (some 3) else ((F_spec_WatchFault fu m_0.Watch).bind fun y70 => (bif (y70 != 0) then (some y70) else ((F_spec_l14Tables fu m_0.Watch.Config).bind fun y71 => (bif (((y71.n : Nat) : Int) != ((m_0.Tables.n : Nat) : Int)) then
    (some 1) else (L (fun w0 go0 => F_spec_l14Fault_B0 fu m_0.Address m_0.Now m_0.Watch.Ready m_0.Watch.Config.Version m_0.Watch.Config.Backends m_0.Watch.Config.Vips m_0.Tables m_0.Cache y71 (some 1) ((F_spec_l14Held fu m_0).bind fun y73 =>
    (some y73)) w0 go0) fu (0 : Int))))))))
def pcf_spec_l14Fault (fu : Nat) (f : Nat) (xs : List (D RT den)) : Option (Out RT den) := match f with | 39 => S_spec_l2Address fu xs | 40 => S_spec_l14Now fu xs | 41 => S_spec_WatchFault fu xs | 42 => S_spec_l14Tables fu xs | 43 => S_spec_l5Nums fu xs | 44 => S_spec_l14Held fu xs | _ => none
def pcx_spec_l14Fault (fu : Nat) (f : Nat) (xs : List (D RT den)) (ins : List (Ob RT den)) : Option (OutX RT den) := none
def pc_spec_l14Fault (fu : Nat) : Pc RT den := ⟨pcf_spec_l14Fault fu, fun _ => false, fun _ => false, pcx_spec_l14Fault fu⟩
def msk_spec_l14Fault (b : Nat) : List Nat := match b with | 0 => [1, 2, 3, 6, 7, 8, 9, 10, 11, 12, 13, 14, 15, 16, 17, 18, 19, 20, 21, 22, 23, 24, 25, 26, 27, 28, 29, 30, 31, 32, 33, 34, 35, 36, 37, 38, 39, 40, 41, 42, 43, 44, 45, 46, 47, 48, 49, 50, 51, 52, 53, 54, 55, 56, 57, 58, 59, 60, 61] | 100000 => [1, 3, 4, 5, 6, 7, 8, 9, 10, 11, 12, 13, 14, 15, 16, 17, 18, 19, 20, 21, 22, 23, 24, 25, 26, 27, 28, 29, 30, 31, 32, 33, 34, 35, 36, 37, 38, 39, 40, 41, 42, 43, 44, 45, 46, 47, 48, 49, 50, 51, 52, 53, 54, 55, 56, 57, 58, 59, 60, 61] | 200001 => [19] | _ => []
def ps_spec_l14Fault_0 : List (Pat RT) := [.rptr [(.int .i64), (.int .i64), .bool, (.int .i64), (.rs .impl_Backend), (.rs .impl_Vip), (.rs .sl_i64), (.rs .impl_Held)], .flat .dead, .flat .dead, .flat .dead, .flat (.rs .sl_i64), .flat (.int .i64), .flat .dead, .flat .dead, .flat .dead, .flat .dead, .flat .dead, .flat .dead, .flat .dead, .flat .dead, .flat .dead, .flat .dead, .flat .dead, .flat .dead, .flat .dead, .flat .dead, .flat .dead, .flat .dead, .flat .dead, .flat .dead, .flat .dead, .flat .dead, .flat .dead, .flat .dead, .flat .dead, .flat .dead, .flat .dead, .flat .dead, .flat .dead, .flat .dead, .flat .dead, .flat .dead, .flat .dead, .flat .dead, .flat .dead, .flat .dead, .flat .dead, .flat .dead, .flat .dead, .flat .dead, .flat .dead, .flat .dead, .flat .dead, .flat .dead, .flat .dead, .flat .dead, .flat .dead, .flat .dead, .flat .dead, .flat .dead, .flat .dead, .flat .dead, .flat .dead, .flat .dead, .flat .dead, .flat .dead, .flat .dead, .flat .dead]
def os_spec_l14Fault_0 : List (OP RT) := []
def conv_spec_l14Fault_0 (r : Raw den ps_spec_l14Fault_0 os_spec_l14Fault_0) : (Int × Int × Bool × Int × (Sl S_impl_Backend) × (Sl S_impl_Vip) × (Sl (Sl Int)) × (Sl S_impl_Held) × (Sl (Sl Int))) × (Int) := ((r.1.1.1, r.1.1.2.1, r.1.1.2.2.1, r.1.1.2.2.2.1, r.1.1.2.2.2.2.1, r.1.1.2.2.2.2.2.1, r.1.1.2.2.2.2.2.2.1, r.1.1.2.2.2.2.2.2.2.1, r.1.2.2.2.2.1), r.1.2.2.2.2.2.1)
def back_spec_l14Fault_0 (c : Int × Int × Bool × Int × (Sl S_impl_Backend) × (Sl S_impl_Vip) × (Sl (Sl Int)) × (Sl S_impl_Held) × (Sl (Sl Int))) (w : Int) : St RT den := ⟨[(.rptr [(.int .i64 c.1), (.int .i64 c.2.1), (.bool c.2.2.1), (.int .i64 c.2.2.2.1), (.rs c.2.2.2.2.1.z .impl_Backend c.2.2.2.2.1.n c.2.2.2.2.1.f), (.rs c.2.2.2.2.2.1.z .impl_Vip c.2.2.2.2.2.1.n c.2.2.2.2.2.1.f), (.rs c.2.2.2.2.2.2.1.z .sl_i64 c.2.2.2.2.2.2.1.n c.2.2.2.2.2.2.1.f), (.rs c.2.2.2.2.2.2.2.1.z .impl_Held c.2.2.2.2.2.2.2.1.n c.2.2.2.2.2.2.2.1.f)]), .dead, .dead, .dead, (.rs c.2.2.2.2.2.2.2.2.z .sl_i64 c.2.2.2.2.2.2.2.2.n c.2.2.2.2.2.2.2.2.f), (.int .i64 w), .dead, .dead, .dead, .dead, .dead, .dead, .dead, .dead, .dead, .dead, .dead, .dead, .dead, .dead, .dead, .dead, .dead, .dead, .dead, .dead, .dead, .dead, .dead, .dead, .dead, .dead, .dead, .dead, .dead, .dead, .dead, .dead, .dead, .dead, .dead, .dead, .dead, .dead, .dead, .dead, .dead, .dead, .dead, .dead, .dead, .dead, .dead, .dead, .dead, .dead, .dead, .dead, .dead, .dead, .dead, .dead], []⟩
def Bk_spec_l14Fault_0 {ρ : Type} (fu : Nat) (c : Int × Int × Bool × Int × (Sl S_impl_Backend) × (Sl S_impl_Vip) × (Sl (Sl Int)) × (Sl S_impl_Held) × (Sl (Sl Int))) (k : Ex → St RT den → Option ρ) (w : Int) (go : (Int) → Option ρ) : Option ρ := F_spec_l14Fault_B0 fu c.1 c.2.1 c.2.2.1 c.2.2.2.1 c.2.2.2.2.1 c.2.2.2.2.2.1 c.2.2.2.2.2.2.1 c.2.2.2.2.2.2.2.1 c.2.2.2.2.2.2.2.2 (k .ret ⟨[(.rptr [(.int .i64 c.1), (.int .i64 c.2.1), (.bool c.2.2.1), (.int .i64 c.2.2.2.1), (.rs c.2.2.2.2.1.z .impl_Backend c.2.2.2.2.1.n c.2.2.2.2.1.f), (.rs c.2.2.2.2.2.1.z .impl_Vip c.2.2.2.2.2.1.n c.2.2.2.2.2.1.f), (.rs c.2.2.2.2.2.2.1.z .sl_i64 c.2.2.2.2.2.2.1.n c.2.2.2.2.2.2.1.f), (.rs c.2.2.2.2.2.2.2.1.z .impl_Held c.2.2.2.2.2.2.2.1.n c.2.2.2.2.2.2.2.1.f)]), .dead, (.int .i64 1), .dead, .dead, .dead, .dead, .dead, .dead, .dead, .dead, .dead, .dead, .dead, .dead, .dead, .dead, .dead, .dead, .dead, .dead, .dead, .dead, .dead, .dead, .dead, .dead, .dead, .dead, .dead, .dead, .dead, .dead, .dead, .dead, .dead, .dead, .dead, .dead, .dead, .dead, .dead, .dead, .dead, .dead, .dead, .dead, .dead, .dead, .dead, .dead, .dead, .dead, .dead, .dead, .dead, .dead, .dead, .dead, .dead, .dead, .dead], []⟩) (k (.exit 0) ⟨[(.rptr [(.int .i64 c.1), (.int .i64 c.2.1), (.bool c.2.2.1), (.int .i64 c.2.2.2.1), (.rs c.2.2.2.2.1.z .impl_Backend c.2.2.2.2.1.n c.2.2.2.2.1.f), (.rs c.2.2.2.2.2.1.z .impl_Vip c.2.2.2.2.2.1.n c.2.2.2.2.2.1.f), (.rs c.2.2.2.2.2.2.1.z .sl_i64 c.2.2.2.2.2.2.1.n c.2.2.2.2.2.2.1.f), (.rs c.2.2.2.2.2.2.2.1.z .impl_Held c.2.2.2.2.2.2.2.1.n c.2.2.2.2.2.2.2.1.f)]), .dead, .dead, .dead, .dead, .dead, .dead, .dead, .dead, .dead, .dead, .dead, .dead, .dead, .dead, .dead, .dead, .dead, .dead, .dead, .dead, .dead, .dead, .dead, .dead, .dead, .dead, .dead, .dead, .dead, .dead, .dead, .dead, .dead, .dead, .dead, .dead, .dead, .dead, .dead, .dead, .dead, .dead, .dead, .dead, .dead, .dead, .dead, .dead, .dead, .dead, .dead, .dead, .dead, .dead, .dead, .dead, .dead, .dead, .dead, .dead, .dead], []⟩) w go
def lp_spec_l14Fault (fu : Nat) : Lp RT den (Int) := fun b s k => match b with | 0 => handle ps_spec_l14Fault_0 os_spec_l14Fault_0 conv_spec_l14Fault_0 (Bk_spec_l14Fault_0 fu) fu s k | _ => none
theorem ev_spec_l14Fault (fu : Nat) (m_0 : S_impl_Mux) : evFun E (pc_spec_l14Fault fu) msk_spec_l14Fault (lp_spec_l14Fault fu) out_i64 17 [(.rptr [(.int .i64 m_0.Address), (.int .i64 m_0.Now), (.bool m_0.Watch.Ready), (.int .i64 m_0.Watch.Config.Version), (.rs m_0.Watch.Config.Backends.z .impl_Backend m_0.Watch.Config.Backends.n m_0.Watch.Config.Backends.f), (.rs m_0.Watch.Config.Vips.z .impl_Vip m_0.Watch.Config.Vips.n m_0.Watch.Config.Vips.f), (.rs m_0.Tables.z .sl_i64 m_0.Tables.n m_0.Tables.f), (.rs m_0.Cache.z .impl_Held m_0.Cache.n m_0.Cache.f)])] = F_spec_l14Fault fu m_0 := by kernel_rfl
noncomputable def body_spec_l14Fault : Code := Tryz.f17.body.getD .skip
noncomputable def lc_spec_l14Fault_0 : Code := ((loops 0 body_spec_l14Fault).getD 0 (0, .skip)).2
theorem round_spec_l14Fault_0 (fu : Nat) (it : St RT den → Option (Int)) (k : Ex → St RT den → Option (Int)) c w : evCode E (pc_spec_l14Fault fu) msk_spec_l14Fault (lp_spec_l14Fault fu) 0 lc_spec_l14Fault_0 (back_spec_l14Fault_0 c w) (after (msk_spec_l14Fault 0) (msk_spec_l14Fault 100000) 0 it k) = Bk_spec_l14Fault_0 fu c k w (fun w => it (back_spec_l14Fault_0 c w)) := by kernel_rfl
theorem lpok_spec_l14Fault_0 (fu : Nat) : ∀ s k r, lp_spec_l14Fault fu 0 s k = some r → ∃ fuel, iter (msk_spec_l14Fault 0) (msk_spec_l14Fault 100000) s.objs.length (evCode E (pc_spec_l14Fault fu) msk_spec_l14Fault (lp_spec_l14Fault fu) 0 lc_spec_l14Fault_0) fuel s k = some r :=
  handle_ok (ps := ps_spec_l14Fault_0) (os := os_spec_l14Fault_0) (conv := conv_spec_l14Fault_0) (B := Bk_spec_l14Fault_0 fu) (fu := fu) back_spec_l14Fault_0 (fun raw => by kernel_rfl) 0 (fun c w => by kernel_rfl) (round_spec_l14Fault_0 fu)
theorem lpok_spec_l14Fault (fu : Nat) : LpOk E (pc_spec_l14Fault fu) msk_spec_l14Fault (lp_spec_l14Fault fu) (loops 0 body_spec_l14Fault) := loop_all 1 (by kernel_rfl) fun i hi => match i, hi with
  | 0, _ => by
    have h : (loops 0 body_spec_l14Fault).getD 0 (0, .skip) = (0, lc_spec_l14Fault_0) := by kernel_rfl
    rw [h]; exact lpok_spec_l14Fault_0 fu
  | i + 1, hi => absurd hi (by omega)
def S_spec_l14Fault (fu : Nat) (xs : List (D RT den)) : Option (Out RT den) := match xs with | [.rptr (.int .i64 a0_1 :: .int .i64 a0_2 :: .bool a0_4 :: .int .i64 a0_6 :: .rs za0_7 .impl_Backend na0_7 fa0_7 :: .rs za0_8 .impl_Vip na0_8 fa0_8 :: .rs za0_9 .sl_i64 na0_9 fa0_9 :: .rs za0_10 .impl_Held na0_10 fa0_10 :: ra0)] => some ⟨Int, F_spec_l14Fault fu (⟨a0_1, a0_2, (⟨a0_4, (⟨a0_6, (⟨za0_7, na0_7, fa0_7⟩ : (Sl S_impl_Backend)), (⟨za0_8, na0_8, fa0_8⟩ : (Sl S_impl_Vip))⟩ : S_impl_Config)⟩ : S_impl_Watch), (⟨za0_9, na0_9, fa0_9⟩ : (Sl (Sl Int))), (⟨za0_10, na0_10, fa0_10⟩ : (Sl S_impl_Held))⟩ : S_impl_Mux), enc_i64, fun _ => true⟩ | _ => none
theorem hpc_spec_l14Fault (fu : Nat) : ∀ f xs o, pcf_spec_l14Fault fu f xs = some o → ∀ y, o.x = some y → Good E Tryz.prog f xs (o.g y) := by
  intro f xs o h
  unfold pcf_spec_l14Fault at h
  split at h
  · exact good_spec_l2Address fu xs o h
  · exact good_spec_l14Now fu xs o h
  · exact good_spec_WatchFault fu xs o h
  · exact good_spec_l14Tables fu xs o h
  · exact good_spec_l5Nums fu xs o h
  · exact good_spec_l14Held fu xs o h
  · cases h
theorem hpx_spec_l14Fault (fu : Nat) : ∀ f xs ins o, pcx_spec_l14Fault fu f xs ins = some o → ∀ y, o.x = some y → GoodX E Tryz.prog f xs ins (o.g y).1 (o.g y).2 := by
  intro f xs ins o h
  cases h
theorem goodv_spec_l14Fault (fu : Nat) (m_0 : S_impl_Mux) (y : Int) (hy : F_spec_l14Fault fu m_0 = some y) : Good E Tryz.prog 17 [(.rptr [(.int .i64 m_0.Address), (.int .i64 m_0.Now), (.bool m_0.Watch.Ready), (.int .i64 m_0.Watch.Config.Version), (.rs m_0.Watch.Config.Backends.z .impl_Backend m_0.Watch.Config.Backends.n m_0.Watch.Config.Backends.f), (.rs m_0.Watch.Config.Vips.z .impl_Vip m_0.Watch.Config.Vips.n m_0.Watch.Config.Vips.f), (.rs m_0.Tables.z .sl_i64 m_0.Tables.n m_0.Tables.f), (.rs m_0.Cache.z .impl_Held m_0.Cache.n m_0.Cache.f)])] (enc_i64 y) :=
  fun_good E_ok (pc_good (pc := pc_spec_l14Fault fu) (hpc_spec_l14Fault fu) (hpx_spec_l14Fault fu)) (fn := Tryz.f17) (c := body_spec_l14Fault) (out := out_i64) (y := y) (by kernel_rfl) (by kernel_rfl) (by kernel_rfl) (lpok_spec_l14Fault fu) (fun d hd => out_i64_enc d _ hd) ((ev_spec_l14Fault fu m_0).trans hy)
theorem good_spec_l14Fault (fu : Nat) : ∀ xs o, S_spec_l14Fault fu xs = some o → ∀ y, o.x = some y → Good E Tryz.prog 17 xs (o.g y) := by
  intro xs o h y hy
  unfold S_spec_l14Fault at h
  split at h
  · rename_i a0_1 a0_2 a0_4 a0_6 za0_7 na0_7 fa0_7 za0_8 na0_8 fa0_8 za0_9 na0_9 fa0_9 za0_10 na0_10 fa0_10 ra0
    cases h
    exact (goodv_spec_l14Fault fu (⟨a0_1, a0_2, (⟨a0_4, (⟨a0_6, (⟨za0_7, na0_7, fa0_7⟩ : (Sl S_impl_Backend)), (⟨za0_8, na0_8, fa0_8⟩ : (Sl S_impl_Vip))⟩ : S_impl_Config)⟩ : S_impl_Watch), (⟨za0_9, na0_9, fa0_9⟩ : (Sl (Sl Int))), (⟨za0_10, na0_10, fa0_10⟩ : (Sl S_impl_Held))⟩ : S_impl_Mux) y hy).sub ⟨Sub.of_eq ra0 rfl, trivial⟩
  · cases h

/-! spec.MuxFault -/
def F_spec_MuxFault (fu : Nat) (m_0 : S_impl_Mux) : Option (Int) :=
  ((F_spec_l14Fault fu m_0).bind fun y66 => (some y66))
def pcf_spec_MuxFault (fu : Nat) (f : Nat) (xs : List (D RT den)) : Option (Out RT den) := match f with | 17 => S_spec_l14Fault fu xs | _ => none
def pcx_spec_MuxFault (fu : Nat) (f : Nat) (xs : List (D RT den)) (ins : List (Ob RT den)) : Option (OutX RT den) := none
def pc_spec_MuxFault (fu : Nat) : Pc RT den := ⟨pcf_spec_MuxFault fu, fun _ => false, fun _ => false, pcx_spec_MuxFault fu⟩
def msk_spec_MuxFault (b : Nat) : List Nat := []
def lp_spec_MuxFault (fu : Nat) : Lp RT den (Int) := fun b s k => none
theorem ev_spec_MuxFault (fu : Nat) (m_0 : S_impl_Mux) : evFun E (pc_spec_MuxFault fu) msk_spec_MuxFault (lp_spec_MuxFault fu) out_i64 6 [(.agg [(.int .i64 m_0.Address), (.int .i64 m_0.Now), (.bool m_0.Watch.Ready), (.int .i64 m_0.Watch.Config.Version), (.rs m_0.Watch.Config.Backends.z .impl_Backend m_0.Watch.Config.Backends.n m_0.Watch.Config.Backends.f), (.rs m_0.Watch.Config.Vips.z .impl_Vip m_0.Watch.Config.Vips.n m_0.Watch.Config.Vips.f), (.rs m_0.Tables.z .sl_i64 m_0.Tables.n m_0.Tables.f), (.rs m_0.Cache.z .impl_Held m_0.Cache.n m_0.Cache.f)])] = F_spec_MuxFault fu m_0 := by kernel_rfl
noncomputable def body_spec_MuxFault : Code := Tryz.f6.body.getD .skip
theorem lpok_spec_MuxFault (fu : Nat) : LpOk E (pc_spec_MuxFault fu) msk_spec_MuxFault (lp_spec_MuxFault fu) (loops 0 body_spec_MuxFault) := by
  have h : loops 0 body_spec_MuxFault = [] := by kernel_rfl
  rw [h]; intro p hp; cases hp
def S_spec_MuxFault (fu : Nat) (xs : List (D RT den)) : Option (Out RT den) := match xs with | [.agg [.int .i64 a0_1, .int .i64 a0_2, .bool a0_4, .int .i64 a0_6, .rs za0_7 .impl_Backend na0_7 fa0_7, .rs za0_8 .impl_Vip na0_8 fa0_8, .rs za0_9 .sl_i64 na0_9 fa0_9, .rs za0_10 .impl_Held na0_10 fa0_10]] => some ⟨Int, F_spec_MuxFault fu (⟨a0_1, a0_2, (⟨a0_4, (⟨a0_6, (⟨za0_7, na0_7, fa0_7⟩ : (Sl S_impl_Backend)), (⟨za0_8, na0_8, fa0_8⟩ : (Sl S_impl_Vip))⟩ : S_impl_Config)⟩ : S_impl_Watch), (⟨za0_9, na0_9, fa0_9⟩ : (Sl (Sl Int))), (⟨za0_10, na0_10, fa0_10⟩ : (Sl S_impl_Held))⟩ : S_impl_Mux), enc_i64, fun _ => true⟩ | _ => none
theorem hpc_spec_MuxFault (fu : Nat) : ∀ f xs o, pcf_spec_MuxFault fu f xs = some o → ∀ y, o.x = some y → Good E Tryz.prog f xs (o.g y) := by
  intro f xs o h
  unfold pcf_spec_MuxFault at h
  split at h
  · exact good_spec_l14Fault fu xs o h
  · cases h
theorem hpx_spec_MuxFault (fu : Nat) : ∀ f xs ins o, pcx_spec_MuxFault fu f xs ins = some o → ∀ y, o.x = some y → GoodX E Tryz.prog f xs ins (o.g y).1 (o.g y).2 := by
  intro f xs ins o h
  cases h
theorem goodv_spec_MuxFault (fu : Nat) (m_0 : S_impl_Mux) (y : Int) (hy : F_spec_MuxFault fu m_0 = some y) : Good E Tryz.prog 6 [(.agg [(.int .i64 m_0.Address), (.int .i64 m_0.Now), (.bool m_0.Watch.Ready), (.int .i64 m_0.Watch.Config.Version), (.rs m_0.Watch.Config.Backends.z .impl_Backend m_0.Watch.Config.Backends.n m_0.Watch.Config.Backends.f), (.rs m_0.Watch.Config.Vips.z .impl_Vip m_0.Watch.Config.Vips.n m_0.Watch.Config.Vips.f), (.rs m_0.Tables.z .sl_i64 m_0.Tables.n m_0.Tables.f), (.rs m_0.Cache.z .impl_Held m_0.Cache.n m_0.Cache.f)])] (enc_i64 y) :=
  fun_good E_ok (pc_good (pc := pc_spec_MuxFault fu) (hpc_spec_MuxFault fu) (hpx_spec_MuxFault fu)) (fn := Tryz.f6) (c := body_spec_MuxFault) (out := out_i64) (y := y) (by kernel_rfl) (by kernel_rfl) (by kernel_rfl) (lpok_spec_MuxFault fu) (fun d hd => out_i64_enc d _ hd) ((ev_spec_MuxFault fu m_0).trans hy)
theorem good_spec_MuxFault (fu : Nat) : ∀ xs o, S_spec_MuxFault fu xs = some o → ∀ y, o.x = some y → Good E Tryz.prog 6 xs (o.g y) := by
  intro xs o h y hy
  unfold S_spec_MuxFault at h
  split at h
  · rename_i a0_1 a0_2 a0_4 a0_6 za0_7 na0_7 fa0_7 za0_8 na0_8 fa0_8 za0_9 na0_9 fa0_9 za0_10 na0_10 fa0_10
    cases h
    exact goodv_spec_MuxFault fu (⟨a0_1, a0_2, (⟨a0_4, (⟨a0_6, (⟨za0_7, na0_7, fa0_7⟩ : (Sl S_impl_Backend)), (⟨za0_8, na0_8, fa0_8⟩ : (Sl S_impl_Vip))⟩ : S_impl_Config)⟩ : S_impl_Watch), (⟨za0_9, na0_9, fa0_9⟩ : (Sl (Sl Int))), (⟨za0_10, na0_10, fa0_10⟩ : (Sl S_impl_Held))⟩ : S_impl_Mux) y hy
  · cases h

/-! impl.in -/
def F_impl_in (fu : Nat) (n_0 : Int) (low_1 : Int) (high_2 : Int) : Option (Bool) :=
  (((bif (decide (n_0 ≥ low_1)) then (some (decide (n_0 ≤ high_2))) else (some false)) : Option Bool).bind fun m228 => (some m228))
def pcf_impl_in (fu : Nat) (f : Nat) (xs : List (D RT den)) : Option (Out RT den) := none
def pcx_impl_in (fu : Nat) (f : Nat) (xs : List (D RT den)) (ins : List (Ob RT den)) : Option (OutX RT den) := none
def pc_impl_in (fu : Nat) : Pc RT den := ⟨pcf_impl_in fu, fun _ => false, fun _ => false, pcx_impl_in fu⟩
def msk_impl_in (b : Nat) : List Nat := match b with | 200001 => [6] | _ => []
def lp_impl_in (fu : Nat) : Lp RT den (Bool) := fun b s k => none
theorem ev_impl_in (fu : Nat) (n_0 : Int) (low_1 : Int) (high_2 : Int) : evFun E (pc_impl_in fu) msk_impl_in (lp_impl_in fu) out_bo 22 [(.int .i64 n_0), (.int .i64 low_1), (.int .i64 high_2)] = F_impl_in fu n_0 low_1 high_2 := by kernel_rfl
noncomputable def body_impl_in : Code := Tryz.f22.body.getD .skip
theorem lpok_impl_in (fu : Nat) : LpOk E (pc_impl_in fu) msk_impl_in (lp_impl_in fu) (loops 0 body_impl_in) := by
  have h : loops 0 body_impl_in = [] := by kernel_rfl
  rw [h]; intro p hp; cases hp
def S_impl_in (fu : Nat) (xs : List (D RT den)) : Option (Out RT den) := match xs with | [.int .i64 a0_0, .int .i64 a1_0, .int .i64 a2_0] => some ⟨Bool, F_impl_in fu a0_0 a1_0 a2_0, enc_bo, fun _ => true⟩ | _ => none
theorem hpc_impl_in (fu : Nat) : ∀ f xs o, pcf_impl_in fu f xs = some o → ∀ y, o.x = some y → Good E Tryz.prog f xs (o.g y) := by
  intro f xs o h
  cases h
theorem hpx_impl_in (fu : Nat) : ∀ f xs ins o, pcx_impl_in fu f xs ins = some o → ∀ y, o.x = some y → GoodX E Tryz.prog f xs ins (o.g y).1 (o.g y).2 := by
  intro f xs ins o h
  cases h
theorem goodv_impl_in (fu : Nat) (n_0 : Int) (low_1 : Int) (high_2 : Int) (y : Bool) (hy : F_impl_in fu n_0 low_1 high_2 = some y) : Good E Tryz.prog 22 [(.int .i64 n_0), (.int .i64 low_1), (.int .i64 high_2)] (enc_bo y) :=
  fun_good E_ok (pc_good (pc := pc_impl_in fu) (hpc_impl_in fu) (hpx_impl_in fu)) (fn := Tryz.f22) (c := body_impl_in) (out := out_bo) (y := y) (by kernel_rfl) (by kernel_rfl) (by kernel_rfl) (lpok_impl_in fu) (fun d hd => out_bo_enc d _ hd) ((ev_impl_in fu n_0 low_1 high_2).trans hy)
theorem good_impl_in (fu : Nat) : ∀ xs o, S_impl_in fu xs = some o → ∀ y, o.x = some y → Good E Tryz.prog 22 xs (o.g y) := by
  intro xs o h y hy
  unfold S_impl_in at h
  split at h
  · rename_i a0_0 a1_0 a2_0
    cases h
    exact goodv_impl_in fu a0_0 a1_0 a2_0 y hy
  · cases h

/-! impl.isAddress -/
def F_impl_isAddress (fu : Nat) (a_0 : Int) : Option (Bool) :=
  ((F_impl_in fu a_0 0 4294967295).bind fun y227 => (some y227))
def pcf_impl_isAddress (fu : Nat) (f : Nat) (xs : List (D RT den)) : Option (Out RT den) := match f with | 22 => S_impl_in fu xs | _ => none
def pcx_impl_isAddress (fu : Nat) (f : Nat) (xs : List (D RT den)) (ins : List (Ob RT den)) : Option (OutX RT den) := none
def pc_impl_isAddress (fu : Nat) : Pc RT den := ⟨pcf_impl_isAddress fu, fun _ => false, fun _ => false, pcx_impl_isAddress fu⟩
def msk_impl_isAddress (b : Nat) : List Nat := []
def lp_impl_isAddress (fu : Nat) : Lp RT den (Bool) := fun b s k => none
theorem ev_impl_isAddress (fu : Nat) (a_0 : Int) : evFun E (pc_impl_isAddress fu) msk_impl_isAddress (lp_impl_isAddress fu) out_bo 21 [(.int .i64 a_0)] = F_impl_isAddress fu a_0 := by kernel_rfl
noncomputable def body_impl_isAddress : Code := Tryz.f21.body.getD .skip
theorem lpok_impl_isAddress (fu : Nat) : LpOk E (pc_impl_isAddress fu) msk_impl_isAddress (lp_impl_isAddress fu) (loops 0 body_impl_isAddress) := by
  have h : loops 0 body_impl_isAddress = [] := by kernel_rfl
  rw [h]; intro p hp; cases hp
def S_impl_isAddress (fu : Nat) (xs : List (D RT den)) : Option (Out RT den) := match xs with | [.int .i64 a0_0] => some ⟨Bool, F_impl_isAddress fu a0_0, enc_bo, fun _ => true⟩ | _ => none
theorem hpc_impl_isAddress (fu : Nat) : ∀ f xs o, pcf_impl_isAddress fu f xs = some o → ∀ y, o.x = some y → Good E Tryz.prog f xs (o.g y) := by
  intro f xs o h
  unfold pcf_impl_isAddress at h
  split at h
  · exact good_impl_in fu xs o h
  · cases h
theorem hpx_impl_isAddress (fu : Nat) : ∀ f xs ins o, pcx_impl_isAddress fu f xs ins = some o → ∀ y, o.x = some y → GoodX E Tryz.prog f xs ins (o.g y).1 (o.g y).2 := by
  intro f xs ins o h
  cases h
theorem goodv_impl_isAddress (fu : Nat) (a_0 : Int) (y : Bool) (hy : F_impl_isAddress fu a_0 = some y) : Good E Tryz.prog 21 [(.int .i64 a_0)] (enc_bo y) :=
  fun_good E_ok (pc_good (pc := pc_impl_isAddress fu) (hpc_impl_isAddress fu) (hpx_impl_isAddress fu)) (fn := Tryz.f21) (c := body_impl_isAddress) (out := out_bo) (y := y) (by kernel_rfl) (by kernel_rfl) (by kernel_rfl) (lpok_impl_isAddress fu) (fun d hd => out_bo_enc d _ hd) ((ev_impl_isAddress fu a_0).trans hy)
theorem good_impl_isAddress (fu : Nat) : ∀ xs o, S_impl_isAddress fu xs = some o → ∀ y, o.x = some y → Good E Tryz.prog 21 xs (o.g y) := by
  intro xs o h y hy
  unfold S_impl_isAddress at h
  split at h
  · rename_i a0_0
    cases h
    exact goodv_impl_isAddress fu a0_0 y hy
  · cases h

/-! impl.isName -/
def F_impl_isName (fu : Nat) (name_0 : Int) : Option (Bool) :=
  ((F_impl_in fu name_0 1 999).bind fun y270 => (some y270))
def pcf_impl_isName (fu : Nat) (f : Nat) (xs : List (D RT den)) : Option (Out RT den) := match f with | 22 => S_impl_in fu xs | _ => none
def pcx_impl_isName (fu : Nat) (f : Nat) (xs : List (D RT den)) (ins : List (Ob RT den)) : Option (OutX RT den) := none
def pc_impl_isName (fu : Nat) : Pc RT den := ⟨pcf_impl_isName fu, fun _ => false, fun _ => false, pcx_impl_isName fu⟩
def msk_impl_isName (b : Nat) : List Nat := []
def lp_impl_isName (fu : Nat) : Lp RT den (Bool) := fun b s k => none
theorem ev_impl_isName (fu : Nat) (name_0 : Int) : evFun E (pc_impl_isName fu) msk_impl_isName (lp_impl_isName fu) out_bo 99 [(.int .i64 name_0)] = F_impl_isName fu name_0 := by kernel_rfl
noncomputable def body_impl_isName : Code := Tryz.f99.body.getD .skip
theorem lpok_impl_isName (fu : Nat) : LpOk E (pc_impl_isName fu) msk_impl_isName (lp_impl_isName fu) (loops 0 body_impl_isName) := by
  have h : loops 0 body_impl_isName = [] := by kernel_rfl
  rw [h]; intro p hp; cases hp
def S_impl_isName (fu : Nat) (xs : List (D RT den)) : Option (Out RT den) := match xs with | [.int .i64 a0_0] => some ⟨Bool, F_impl_isName fu a0_0, enc_bo, fun _ => true⟩ | _ => none
theorem hpc_impl_isName (fu : Nat) : ∀ f xs o, pcf_impl_isName fu f xs = some o → ∀ y, o.x = some y → Good E Tryz.prog f xs (o.g y) := by
  intro f xs o h
  unfold pcf_impl_isName at h
  split at h
  · exact good_impl_in fu xs o h
  · cases h
theorem hpx_impl_isName (fu : Nat) : ∀ f xs ins o, pcx_impl_isName fu f xs ins = some o → ∀ y, o.x = some y → GoodX E Tryz.prog f xs ins (o.g y).1 (o.g y).2 := by
  intro f xs ins o h
  cases h
theorem goodv_impl_isName (fu : Nat) (name_0 : Int) (y : Bool) (hy : F_impl_isName fu name_0 = some y) : Good E Tryz.prog 99 [(.int .i64 name_0)] (enc_bo y) :=
  fun_good E_ok (pc_good (pc := pc_impl_isName fu) (hpc_impl_isName fu) (hpx_impl_isName fu)) (fn := Tryz.f99) (c := body_impl_isName) (out := out_bo) (y := y) (by kernel_rfl) (by kernel_rfl) (by kernel_rfl) (lpok_impl_isName fu) (fun d hd => out_bo_enc d _ hd) ((ev_impl_isName fu name_0).trans hy)
theorem good_impl_isName (fu : Nat) : ∀ xs o, S_impl_isName fu xs = some o → ∀ y, o.x = some y → Good E Tryz.prog 99 xs (o.g y) := by
  intro xs o h y hy
  unfold S_impl_isName at h
  split at h
  · rename_i a0_0
    cases h
    exact goodv_impl_isName fu a0_0 y hy
  · cases h

/-! impl.isBackend -/
def F_impl_isBackend (fu : Nat) (b_0 : S_impl_Backend) : Option (Bool) :=
  ((((F_impl_isName fu b_0.Name).bind fun y265 => (bif y265 then ((F_impl_isAddress fu b_0.Address).bind fun y266 => (bif y266 then ((F_impl_in fu b_0.Weight 0 9).bind fun y267 =>
    (bif y267 then ((F_impl_in fu b_0.Stage 1 3).bind fun y268 => (some y268)) else (some false))) else (some false))) else (some false))) : Option Bool).bind fun m269 => (some m269))
def pcf_impl_isBackend (fu : Nat) (f : Nat) (xs : List (D RT den)) : Option (Out RT den) := match f with | 21 => S_impl_isAddress fu xs | 22 => S_impl_in fu xs | 99 => S_impl_isName fu xs | _ => none
def pcx_impl_isBackend (fu : Nat) (f : Nat) (xs : List (D RT den)) (ins : List (Ob RT den)) : Option (OutX RT den) := none
def pc_impl_isBackend (fu : Nat) : Pc RT den := ⟨pcf_impl_isBackend fu, fun _ => false, fun _ => false, pcx_impl_isBackend fu⟩
def msk_impl_isBackend (b : Nat) : List Nat := match b with | 200001 => [2] | _ => []
def lp_impl_isBackend (fu : Nat) : Lp RT den (Bool) := fun b s k => none
theorem ev_impl_isBackend (fu : Nat) (b_0 : S_impl_Backend) : evFun E (pc_impl_isBackend fu) msk_impl_isBackend (lp_impl_isBackend fu) out_bo 72 [(.agg [(.int .i64 b_0.Name), (.int .i64 b_0.Address), (.int .i64 b_0.Weight), (.int .i64 b_0.Stage), (.bool b_0.Up)])] = F_impl_isBackend fu b_0 := by kernel_rfl
noncomputable def body_impl_isBackend : Code := Tryz.f72.body.getD .skip
theorem lpok_impl_isBackend (fu : Nat) : LpOk E (pc_impl_isBackend fu) msk_impl_isBackend (lp_impl_isBackend fu) (loops 0 body_impl_isBackend) := by
  have h : loops 0 body_impl_isBackend = [] := by kernel_rfl
  rw [h]; intro p hp; cases hp
def S_impl_isBackend (fu : Nat) (xs : List (D RT den)) : Option (Out RT den) := match xs with | [.agg [.int .i64 a0_1, .int .i64 a0_2, .int .i64 a0_3, .int .i64 a0_4, .bool a0_5]] => some ⟨Bool, F_impl_isBackend fu (⟨a0_1, a0_2, a0_3, a0_4, a0_5⟩ : S_impl_Backend), enc_bo, fun _ => true⟩ | _ => none
theorem hpc_impl_isBackend (fu : Nat) : ∀ f xs o, pcf_impl_isBackend fu f xs = some o → ∀ y, o.x = some y → Good E Tryz.prog f xs (o.g y) := by
  intro f xs o h
  unfold pcf_impl_isBackend at h
  split at h
  · exact good_impl_isAddress fu xs o h
  · exact good_impl_in fu xs o h
  · exact good_impl_isName fu xs o h
  · cases h
theorem hpx_impl_isBackend (fu : Nat) : ∀ f xs ins o, pcx_impl_isBackend fu f xs ins = some o → ∀ y, o.x = some y → GoodX E Tryz.prog f xs ins (o.g y).1 (o.g y).2 := by
  intro f xs ins o h
  cases h
theorem goodv_impl_isBackend (fu : Nat) (b_0 : S_impl_Backend) (y : Bool) (hy : F_impl_isBackend fu b_0 = some y) : Good E Tryz.prog 72 [(.agg [(.int .i64 b_0.Name), (.int .i64 b_0.Address), (.int .i64 b_0.Weight), (.int .i64 b_0.Stage), (.bool b_0.Up)])] (enc_bo y) :=
  fun_good E_ok (pc_good (pc := pc_impl_isBackend fu) (hpc_impl_isBackend fu) (hpx_impl_isBackend fu)) (fn := Tryz.f72) (c := body_impl_isBackend) (out := out_bo) (y := y) (by kernel_rfl) (by kernel_rfl) (by kernel_rfl) (lpok_impl_isBackend fu) (fun d hd => out_bo_enc d _ hd) ((ev_impl_isBackend fu b_0).trans hy)
theorem good_impl_isBackend (fu : Nat) : ∀ xs o, S_impl_isBackend fu xs = some o → ∀ y, o.x = some y → Good E Tryz.prog 72 xs (o.g y) := by
  intro xs o h y hy
  unfold S_impl_isBackend at h
  split at h
  · rename_i a0_1 a0_2 a0_3 a0_4 a0_5
    cases h
    exact goodv_impl_isBackend fu (⟨a0_1, a0_2, a0_3, a0_4, a0_5⟩ : S_impl_Backend) y hy
  · cases h

/-! impl.isPort -/
def F_impl_isPort (fu : Nat) (n_0 : Int) : Option (Bool) :=
  ((F_impl_in fu n_0 0 65535).bind fun y271 => (some y271))
def pcf_impl_isPort (fu : Nat) (f : Nat) (xs : List (D RT den)) : Option (Out RT den) := match f with | 22 => S_impl_in fu xs | _ => none
def pcx_impl_isPort (fu : Nat) (f : Nat) (xs : List (D RT den)) (ins : List (Ob RT den)) : Option (OutX RT den) := none
def pc_impl_isPort (fu : Nat) : Pc RT den := ⟨pcf_impl_isPort fu, fun _ => false, fun _ => false, pcx_impl_isPort fu⟩
def msk_impl_isPort (b : Nat) : List Nat := []
def lp_impl_isPort (fu : Nat) : Lp RT den (Bool) := fun b s k => none
theorem ev_impl_isPort (fu : Nat) (n_0 : Int) : evFun E (pc_impl_isPort fu) msk_impl_isPort (lp_impl_isPort fu) out_bo 73 [(.int .i64 n_0)] = F_impl_isPort fu n_0 := by kernel_rfl
noncomputable def body_impl_isPort : Code := Tryz.f73.body.getD .skip
theorem lpok_impl_isPort (fu : Nat) : LpOk E (pc_impl_isPort fu) msk_impl_isPort (lp_impl_isPort fu) (loops 0 body_impl_isPort) := by
  have h : loops 0 body_impl_isPort = [] := by kernel_rfl
  rw [h]; intro p hp; cases hp
def S_impl_isPort (fu : Nat) (xs : List (D RT den)) : Option (Out RT den) := match xs with | [.int .i64 a0_0] => some ⟨Bool, F_impl_isPort fu a0_0, enc_bo, fun _ => true⟩ | _ => none
theorem hpc_impl_isPort (fu : Nat) : ∀ f xs o, pcf_impl_isPort fu f xs = some o → ∀ y, o.x = some y → Good E Tryz.prog f xs (o.g y) := by
  intro f xs o h
  unfold pcf_impl_isPort at h
  split at h
  · exact good_impl_in fu xs o h
  · cases h
theorem hpx_impl_isPort (fu : Nat) : ∀ f xs ins o, pcx_impl_isPort fu f xs ins = some o → ∀ y, o.x = some y → GoodX E Tryz.prog f xs ins (o.g y).1 (o.g y).2 := by
  intro f xs ins o h
  cases h
theorem goodv_impl_isPort (fu : Nat) (n_0 : Int) (y : Bool) (hy : F_impl_isPort fu n_0 = some y) : Good E Tryz.prog 73 [(.int .i64 n_0)] (enc_bo y) :=
  fun_good E_ok (pc_good (pc := pc_impl_isPort fu) (hpc_impl_isPort fu) (hpx_impl_isPort fu)) (fn := Tryz.f73) (c := body_impl_isPort) (out := out_bo) (y := y) (by kernel_rfl) (by kernel_rfl) (by kernel_rfl) (lpok_impl_isPort fu) (fun d hd => out_bo_enc d _ hd) ((ev_impl_isPort fu n_0).trans hy)
theorem good_impl_isPort (fu : Nat) : ∀ xs o, S_impl_isPort fu xs = some o → ∀ y, o.x = some y → Good E Tryz.prog 73 xs (o.g y) := by
  intro xs o h y hy
  unfold S_impl_isPort at h
  split at h
  · rename_i a0_0
    cases h
    exact goodv_impl_isPort fu a0_0 y hy
  · cases h

/-! impl.isProto -/
def F_impl_isProto (fu : Nat) (n_0 : Int) : Option (Bool) :=
  (((bif (n_0 == 6) then (some true) else (some (n_0 == 17))) : Option Bool).bind fun m272 => (some m272))
def pcf_impl_isProto (fu : Nat) (f : Nat) (xs : List (D RT den)) : Option (Out RT den) := none
def pcx_impl_isProto (fu : Nat) (f : Nat) (xs : List (D RT den)) (ins : List (Ob RT den)) : Option (OutX RT den) := none
def pc_impl_isProto (fu : Nat) : Pc RT den := ⟨pcf_impl_isProto fu, fun _ => false, fun _ => false, pcx_impl_isProto fu⟩
def msk_impl_isProto (b : Nat) : List Nat := match b with | 200001 => [2] | _ => []
def lp_impl_isProto (fu : Nat) : Lp RT den (Bool) := fun b s k => none
theorem ev_impl_isProto (fu : Nat) (n_0 : Int) : evFun E (pc_impl_isProto fu) msk_impl_isProto (lp_impl_isProto fu) out_bo 74 [(.int .i64 n_0)] = F_impl_isProto fu n_0 := by kernel_rfl
noncomputable def body_impl_isProto : Code := Tryz.f74.body.getD .skip
theorem lpok_impl_isProto (fu : Nat) : LpOk E (pc_impl_isProto fu) msk_impl_isProto (lp_impl_isProto fu) (loops 0 body_impl_isProto) := by
  have h : loops 0 body_impl_isProto = [] := by kernel_rfl
  rw [h]; intro p hp; cases hp
def S_impl_isProto (fu : Nat) (xs : List (D RT den)) : Option (Out RT den) := match xs with | [.int .i64 a0_0] => some ⟨Bool, F_impl_isProto fu a0_0, enc_bo, fun _ => true⟩ | _ => none
theorem hpc_impl_isProto (fu : Nat) : ∀ f xs o, pcf_impl_isProto fu f xs = some o → ∀ y, o.x = some y → Good E Tryz.prog f xs (o.g y) := by
  intro f xs o h
  cases h
theorem hpx_impl_isProto (fu : Nat) : ∀ f xs ins o, pcx_impl_isProto fu f xs ins = some o → ∀ y, o.x = some y → GoodX E Tryz.prog f xs ins (o.g y).1 (o.g y).2 := by
  intro f xs ins o h
  cases h
theorem goodv_impl_isProto (fu : Nat) (n_0 : Int) (y : Bool) (hy : F_impl_isProto fu n_0 = some y) : Good E Tryz.prog 74 [(.int .i64 n_0)] (enc_bo y) :=
  fun_good E_ok (pc_good (pc := pc_impl_isProto fu) (hpc_impl_isProto fu) (hpx_impl_isProto fu)) (fn := Tryz.f74) (c := body_impl_isProto) (out := out_bo) (y := y) (by kernel_rfl) (by kernel_rfl) (by kernel_rfl) (lpok_impl_isProto fu) (fun d hd => out_bo_enc d _ hd) ((ev_impl_isProto fu n_0).trans hy)
theorem good_impl_isProto (fu : Nat) : ∀ xs o, S_impl_isProto fu xs = some o → ∀ y, o.x = some y → Good E Tryz.prog 74 xs (o.g y) := by
  intro xs o h y hy
  unfold S_impl_isProto at h
  split at h
  · rename_i a0_0
    cases h
    exact goodv_impl_isProto fu a0_0 y hy
  · cases h

/-! cmp.isNaN[int64] -/
def F_cmp_isNaN_int64 (fu : Nat) (x_0 : Int) : Option (Bool) :=
  (some (x_0 != x_0))
def pcf_cmp_isNaN_int64 (fu : Nat) (f : Nat) (xs : List (D RT den)) : Option (Out RT den) := none
def pcx_cmp_isNaN_int64 (fu : Nat) (f : Nat) (xs : List (D RT den)) (ins : List (Ob RT den)) : Option (OutX RT den) := none
def pc_cmp_isNaN_int64 (fu : Nat) : Pc RT den := ⟨pcf_cmp_isNaN_int64 fu, fun _ => false, fun _ => false, pcx_cmp_isNaN_int64 fu⟩
def msk_cmp_isNaN_int64 (b : Nat) : List Nat := []
def lp_cmp_isNaN_int64 (fu : Nat) : Lp RT den (Bool) := fun b s k => none
theorem ev_cmp_isNaN_int64 (fu : Nat) (x_0 : Int) : evFun E (pc_cmp_isNaN_int64 fu) msk_cmp_isNaN_int64 (lp_cmp_isNaN_int64 fu) out_bo 114 [(.int .i64 x_0)] = F_cmp_isNaN_int64 fu x_0 := by kernel_rfl
noncomputable def body_cmp_isNaN_int64 : Code := Tryz.f114.body.getD .skip
theorem lpok_cmp_isNaN_int64 (fu : Nat) : LpOk E (pc_cmp_isNaN_int64 fu) msk_cmp_isNaN_int64 (lp_cmp_isNaN_int64 fu) (loops 0 body_cmp_isNaN_int64) := by
  have h : loops 0 body_cmp_isNaN_int64 = [] := by kernel_rfl
  rw [h]; intro p hp; cases hp
def S_cmp_isNaN_int64 (fu : Nat) (xs : List (D RT den)) : Option (Out RT den) := match xs with | [.int .i64 a0_0] => some ⟨Bool, F_cmp_isNaN_int64 fu a0_0, enc_bo, fun _ => true⟩ | _ => none
theorem hpc_cmp_isNaN_int64 (fu : Nat) : ∀ f xs o, pcf_cmp_isNaN_int64 fu f xs = some o → ∀ y, o.x = some y → Good E Tryz.prog f xs (o.g y) := by
  intro f xs o h
  cases h
theorem hpx_cmp_isNaN_int64 (fu : Nat) : ∀ f xs ins o, pcx_cmp_isNaN_int64 fu f xs ins = some o → ∀ y, o.x = some y → GoodX E Tryz.prog f xs ins (o.g y).1 (o.g y).2 := by
  intro f xs ins o h
  cases h
theorem goodv_cmp_isNaN_int64 (fu : Nat) (x_0 : Int) (y : Bool) (hy : F_cmp_isNaN_int64 fu x_0 = some y) : Good E Tryz.prog 114 [(.int .i64 x_0)] (enc_bo y) :=
  fun_good E_ok (pc_good (pc := pc_cmp_isNaN_int64 fu) (hpc_cmp_isNaN_int64 fu) (hpx_cmp_isNaN_int64 fu)) (fn := Tryz.f114) (c := body_cmp_isNaN_int64) (out := out_bo) (y := y) (by kernel_rfl) (by kernel_rfl) (by kernel_rfl) (lpok_cmp_isNaN_int64 fu) (fun d hd => out_bo_enc d _ hd) ((ev_cmp_isNaN_int64 fu x_0).trans hy)
theorem good_cmp_isNaN_int64 (fu : Nat) : ∀ xs o, S_cmp_isNaN_int64 fu xs = some o → ∀ y, o.x = some y → Good E Tryz.prog 114 xs (o.g y) := by
  intro xs o h y hy
  unfold S_cmp_isNaN_int64 at h
  split at h
  · rename_i a0_0
    cases h
    exact goodv_cmp_isNaN_int64 fu a0_0 y hy
  · cases h

/-! cmp.Compare[int64] -/
def F_cmp_Compare_int64 (fu : Nat) (x_0 : Int) (y_1 : Int) : Option (Int) :=
  ((F_cmp_isNaN_int64 fu x_0).bind fun y277 => ((F_cmp_isNaN_int64 fu y_1).bind fun y278 => (bif y277 then (bif y278 then (some 0) else (some (-1))) else (bif y278 then (some 1) else
    (bif (decide (x_0 < y_1)) then (some (-1)) else (bif (decide (x_0 > y_1)) then (some 1) else (some 0)))))))
def pcf_cmp_Compare_int64 (fu : Nat) (f : Nat) (xs : List (D RT den)) : Option (Out RT den) := match f with | 114 => S_cmp_isNaN_int64 fu xs | _ => none
def pcx_cmp_Compare_int64 (fu : Nat) (f : Nat) (xs : List (D RT den)) (ins : List (Ob RT den)) : Option (OutX RT den) := none
def pc_cmp_Compare_int64 (fu : Nat) : Pc RT den := ⟨pcf_cmp_Compare_int64 fu, fun _ => false, fun _ => false, pcx_cmp_Compare_int64 fu⟩
def msk_cmp_Compare_int64 (b : Nat) : List Nat := []
def lp_cmp_Compare_int64 (fu : Nat) : Lp RT den (Int) := fun b s k => none
theorem ev_cmp_Compare_int64 (fu : Nat) (x_0 : Int) (y_1 : Int) : evFun E (pc_cmp_Compare_int64 fu) msk_cmp_Compare_int64 (lp_cmp_Compare_int64 fu) out_i64 101 [(.int .i64 x_0), (.int .i64 y_1)] = F_cmp_Compare_int64 fu x_0 y_1 := by kernel_rfl
noncomputable def body_cmp_Compare_int64 : Code := Tryz.f101.body.getD .skip
theorem lpok_cmp_Compare_int64 (fu : Nat) : LpOk E (pc_cmp_Compare_int64 fu) msk_cmp_Compare_int64 (lp_cmp_Compare_int64 fu) (loops 0 body_cmp_Compare_int64) := by
  have h : loops 0 body_cmp_Compare_int64 = [] := by kernel_rfl
  rw [h]; intro p hp; cases hp
def S_cmp_Compare_int64 (fu : Nat) (xs : List (D RT den)) : Option (Out RT den) := match xs with | [.int .i64 a0_0, .int .i64 a1_0] => some ⟨Int, F_cmp_Compare_int64 fu a0_0 a1_0, enc_i64, fun _ => true⟩ | _ => none
theorem hpc_cmp_Compare_int64 (fu : Nat) : ∀ f xs o, pcf_cmp_Compare_int64 fu f xs = some o → ∀ y, o.x = some y → Good E Tryz.prog f xs (o.g y) := by
  intro f xs o h
  unfold pcf_cmp_Compare_int64 at h
  split at h
  · exact good_cmp_isNaN_int64 fu xs o h
  · cases h
theorem hpx_cmp_Compare_int64 (fu : Nat) : ∀ f xs ins o, pcx_cmp_Compare_int64 fu f xs ins = some o → ∀ y, o.x = some y → GoodX E Tryz.prog f xs ins (o.g y).1 (o.g y).2 := by
  intro f xs ins o h
  cases h
theorem goodv_cmp_Compare_int64 (fu : Nat) (x_0 : Int) (y_1 : Int) (y : Int) (hy : F_cmp_Compare_int64 fu x_0 y_1 = some y) : Good E Tryz.prog 101 [(.int .i64 x_0), (.int .i64 y_1)] (enc_i64 y) :=
  fun_good E_ok (pc_good (pc := pc_cmp_Compare_int64 fu) (hpc_cmp_Compare_int64 fu) (hpx_cmp_Compare_int64 fu)) (fn := Tryz.f101) (c := body_cmp_Compare_int64) (out := out_i64) (y := y) (by kernel_rfl) (by kernel_rfl) (by kernel_rfl) (lpok_cmp_Compare_int64 fu) (fun d hd => out_i64_enc d _ hd) ((ev_cmp_Compare_int64 fu x_0 y_1).trans hy)
theorem good_cmp_Compare_int64 (fu : Nat) : ∀ xs o, S_cmp_Compare_int64 fu xs = some o → ∀ y, o.x = some y → Good E Tryz.prog 101 xs (o.g y) := by
  intro xs o h y hy
  unfold S_cmp_Compare_int64 at h
  split at h
  · rename_i a0_0 a1_0
    cases h
    exact goodv_cmp_Compare_int64 fu a0_0 a1_0 y hy
  · cases h

/-! cmp.Or[int] -/
def F_cmp_Or_int_B0 {ρ : Type} (fu : Nat) (zero3_0 : Int) (t6_1 : (Sl Int)) (t7_2 : Int) (k0 : Int → Option ρ) (k1 : Option ρ) (t8_3 : Int) (go : Int → Option ρ) : Option ρ :=
  (bif (decide (t8_3 < t7_2)) then ((bif (decide (0 ≤ t8_3) && decide ((Int.toNat t8_3) < t6_1.n)) then some () else none : Option Unit).bind fun _ => (bif ((t6_1.f (Int.toNat t8_3)) != zero3_0) then
    (k0 (t6_1.f (Int.toNat t8_3))) else (go (IntKind.wrap .i64 (t8_3 + 1))))) else k1)
def F_cmp_Or_int (fu : Nat) (vals_0 : (Sl Int)) : Option (Int) :=
  (L (fun w0 go0 => F_cmp_Or_int_B0 fu 0 vals_0 ((vals_0.n : Nat) : Int) (fun z279 => (some z279)) (some 0) w0 go0) fu (0 : Int))
def pcf_cmp_Or_int (fu : Nat) (f : Nat) (xs : List (D RT den)) : Option (Out RT den) := none
def pcx_cmp_Or_int (fu : Nat) (f : Nat) (xs : List (D RT den)) (ins : List (Ob RT den)) : Option (OutX RT den) := none
def pc_cmp_Or_int (fu : Nat) : Pc RT den := ⟨pcf_cmp_Or_int fu, fun _ => false, fun _ => false, pcx_cmp_Or_int fu⟩
def msk_cmp_Or_int (b : Nat) : List Nat := match b with | 0 => [0, 1, 2, 4, 5, 9, 10, 11, 12, 13, 14, 15, 16, 17] | 100000 => [0, 1, 4, 5, 6, 7, 8, 9, 10, 11, 12, 13, 14, 15, 16, 17] | _ => []
def ps_cmp_Or_int_0 : List (Pat RT) := [.flat .dead, .flat .dead, .flat .dead, .flat (.int .i64), .flat .dead, .flat .dead, .flat (.rs .i64), .flat (.int .i64), .flat (.int .i64), .flat .dead, .flat .dead, .flat .dead, .flat .dead, .flat .dead, .flat .dead, .flat .dead, .flat .dead, .flat .dead]
def os_cmp_Or_int_0 : List (OP RT) := []
def conv_cmp_Or_int_0 (r : Raw den ps_cmp_Or_int_0 os_cmp_Or_int_0) : (Int × (Sl Int) × Int) × (Int) := ((r.1.2.2.2.1, r.1.2.2.2.2.2.2.1, r.1.2.2.2.2.2.2.2.1), r.1.2.2.2.2.2.2.2.2.1)
def back_cmp_Or_int_0 (c : Int × (Sl Int) × Int) (w : Int) : St RT den := ⟨[.dead, .dead, .dead, (.int .i64 c.1), .dead, .dead, (.rs c.2.1.z .i64 c.2.1.n c.2.1.f), (.int .i64 c.2.2), (.int .i64 w), .dead, .dead, .dead, .dead, .dead, .dead, .dead, .dead, .dead], []⟩
def Bk_cmp_Or_int_0 {ρ : Type} (fu : Nat) (c : Int × (Sl Int) × Int) (k : Ex → St RT den → Option ρ) (w : Int) (go : (Int) → Option ρ) : Option ρ := F_cmp_Or_int_B0 fu c.1 c.2.1 c.2.2 (fun a0 => k .ret ⟨[.dead, .dead, (.int .i64 a0), (.int .i64 c.1), .dead, .dead, .dead, .dead, .dead, .dead, .dead, .dead, .dead, .dead, .dead, .dead, .dead, .dead], []⟩) (k (.exit 0) ⟨[.dead, .dead, .dead, (.int .i64 c.1), .dead, .dead, .dead, .dead, .dead, .dead, .dead, .dead, .dead, .dead, .dead, .dead, .dead, .dead], []⟩) w go
def lp_cmp_Or_int (fu : Nat) : Lp RT den (Int) := fun b s k => match b with | 0 => handle ps_cmp_Or_int_0 os_cmp_Or_int_0 conv_cmp_Or_int_0 (Bk_cmp_Or_int_0 fu) fu s k | _ => none
theorem ev_cmp_Or_int (fu : Nat) (vals_0 : (Sl Int)) : evFun E (pc_cmp_Or_int fu) msk_cmp_Or_int (lp_cmp_Or_int fu) out_i64 100 [(.rs vals_0.z .i64 vals_0.n vals_0.f)] = F_cmp_Or_int fu vals_0 := by kernel_rfl
noncomputable def body_cmp_Or_int : Code := Tryz.f100.body.getD .skip
noncomputable def lc_cmp_Or_int_0 : Code := ((loops 0 body_cmp_Or_int).getD 0 (0, .skip)).2
theorem round_cmp_Or_int_0 (fu : Nat) (it : St RT den → Option (Int)) (k : Ex → St RT den → Option (Int)) c w : evCode E (pc_cmp_Or_int fu) msk_cmp_Or_int (lp_cmp_Or_int fu) 0 lc_cmp_Or_int_0 (back_cmp_Or_int_0 c w) (after (msk_cmp_Or_int 0) (msk_cmp_Or_int 100000) 0 it k) = Bk_cmp_Or_int_0 fu c k w (fun w => it (back_cmp_Or_int_0 c w)) := by kernel_rfl
theorem lpok_cmp_Or_int_0 (fu : Nat) : ∀ s k r, lp_cmp_Or_int fu 0 s k = some r → ∃ fuel, iter (msk_cmp_Or_int 0) (msk_cmp_Or_int 100000) s.objs.length (evCode E (pc_cmp_Or_int fu) msk_cmp_Or_int (lp_cmp_Or_int fu) 0 lc_cmp_Or_int_0) fuel s k = some r :=
  handle_ok (ps := ps_cmp_Or_int_0) (os := os_cmp_Or_int_0) (conv := conv_cmp_Or_int_0) (B := Bk_cmp_Or_int_0 fu) (fu := fu) back_cmp_Or_int_0 (fun raw => by kernel_rfl) 0 (fun c w => by kernel_rfl) (round_cmp_Or_int_0 fu)
theorem lpok_cmp_Or_int (fu : Nat) : LpOk E (pc_cmp_Or_int fu) msk_cmp_Or_int (lp_cmp_Or_int fu) (loops 0 body_cmp_Or_int) := loop_all 1 (by kernel_rfl) fun i hi => match i, hi with
  | 0, _ => by
    have h : (loops 0 body_cmp_Or_int).getD 0 (0, .skip) = (0, lc_cmp_Or_int_0) := by kernel_rfl
    rw [h]; exact lpok_cmp_Or_int_0 fu
  | i + 1, hi => absurd hi (by omega)
def S_cmp_Or_int (fu : Nat) (xs : List (D RT den)) : Option (Out RT den) := match xs with | [.rs za0_0 .i64 na0_0 fa0_0] => some ⟨Int, F_cmp_Or_int fu (⟨za0_0, na0_0, fa0_0⟩ : (Sl Int)), enc_i64, fun _ => true⟩ | _ => none
theorem hpc_cmp_Or_int (fu : Nat) : ∀ f xs o, pcf_cmp_Or_int fu f xs = some o → ∀ y, o.x = some y → Good E Tryz.prog f xs (o.g y) := by
  intro f xs o h
  cases h
theorem hpx_cmp_Or_int (fu : Nat) : ∀ f xs ins o, pcx_cmp_Or_int fu f xs ins = some o → ∀ y, o.x = some y → GoodX E Tryz.prog f xs ins (o.g y).1 (o.g y).2 := by
  intro f xs ins o h
  cases h
theorem goodv_cmp_Or_int (fu : Nat) (vals_0 : (Sl Int)) (y : Int) (hy : F_cmp_Or_int fu vals_0 = some y) : Good E Tryz.prog 100 [(.rs vals_0.z .i64 vals_0.n vals_0.f)] (enc_i64 y) :=
  fun_good E_ok (pc_good (pc := pc_cmp_Or_int fu) (hpc_cmp_Or_int fu) (hpx_cmp_Or_int fu)) (fn := Tryz.f100) (c := body_cmp_Or_int) (out := out_i64) (y := y) (by kernel_rfl) (by kernel_rfl) (by kernel_rfl) (lpok_cmp_Or_int fu) (fun d hd => out_i64_enc d _ hd) ((ev_cmp_Or_int fu vals_0).trans hy)
theorem good_cmp_Or_int (fu : Nat) : ∀ xs o, S_cmp_Or_int fu xs = some o → ∀ y, o.x = some y → Good E Tryz.prog 100 xs (o.g y) := by
  intro xs o h y hy
  unfold S_cmp_Or_int at h
  split at h
  · rename_i za0_0 na0_0 fa0_0
    cases h
    exact goodv_cmp_Or_int fu (⟨za0_0, na0_0, fa0_0⟩ : (Sl Int)) y hy
  · cases h

/-! impl.compareVip -/
def F_impl_compareVip (fu : Nat) (a_0 : S_impl_Vip) (b_1 : S_impl_Vip) : Option (Int) :=
  ((F_cmp_Compare_int64 fu a_0.Address b_1.Address).bind fun y273 => ((F_cmp_Compare_int64 fu a_0.Port b_1.Port).bind fun y274 => ((F_cmp_Compare_int64 fu a_0.Proto b_1.Proto).bind fun y275 =>
    ((F_cmp_Or_int fu (⟨(some false), 3, (fun i => [y273, y274, y275].getD i (dflt .i64))⟩ : (Sl Int))).bind fun y276 => (some y276)))))
def pcf_impl_compareVip (fu : Nat) (f : Nat) (xs : List (D RT den)) : Option (Out RT den) := match f with | 100 => S_cmp_Or_int fu xs | 101 => S_cmp_Compare_int64 fu xs | _ => none
def pcx_impl_compareVip (fu : Nat) (f : Nat) (xs : List (D RT den)) (ins : List (Ob RT den)) : Option (OutX RT den) := none
def pc_impl_compareVip (fu : Nat) : Pc RT den := ⟨pcf_impl_compareVip fu, fun _ => false, fun _ => false, pcx_impl_compareVip fu⟩
def msk_impl_compareVip (b : Nat) : List Nat := []
def lp_impl_compareVip (fu : Nat) : Lp RT den (Int) := fun b s k => none
theorem ev_impl_compareVip (fu : Nat) (a_0 : S_impl_Vip) (b_1 : S_impl_Vip) : evFun E (pc_impl_compareVip fu) msk_impl_compareVip (lp_impl_compareVip fu) out_i64 75 [(.agg [(.int .i64 a_0.Address), (.int .i64 a_0.Port), (.int .i64 a_0.Proto), (.rs a_0.Names.z .i64 a_0.Names.n a_0.Names.f)]), (.agg [(.int .i64 b_1.Address), (.int .i64 b_1.Port), (.int .i64 b_1.Proto), (.rs b_1.Names.z .i64 b_1.Names.n b_1.Names.f)])] = F_impl_compareVip fu a_0 b_1 := by kernel_rfl
noncomputable def body_impl_compareVip : Code := Tryz.f75.body.getD .skip
theorem lpok_impl_compareVip (fu : Nat) : LpOk E (pc_impl_compareVip fu) msk_impl_compareVip (lp_impl_compareVip fu) (loops 0 body_impl_compareVip) := by
  have h : loops 0 body_impl_compareVip = [] := by kernel_rfl
  rw [h]; intro p hp; cases hp
def S_impl_compareVip (fu : Nat) (xs : List (D RT den)) : Option (Out RT den) := match xs with | [.agg [.int .i64 a0_1, .int .i64 a0_2, .int .i64 a0_3, .rs za0_4 .i64 na0_4 fa0_4], .agg [.int .i64 a1_1, .int .i64 a1_2, .int .i64 a1_3, .rs za1_4 .i64 na1_4 fa1_4]] => some ⟨Int, F_impl_compareVip fu (⟨a0_1, a0_2, a0_3, (⟨za0_4, na0_4, fa0_4⟩ : (Sl Int))⟩ : S_impl_Vip) (⟨a1_1, a1_2, a1_3, (⟨za1_4, na1_4, fa1_4⟩ : (Sl Int))⟩ : S_impl_Vip), enc_i64, fun _ => true⟩ | _ => none
theorem hpc_impl_compareVip (fu : Nat) : ∀ f xs o, pcf_impl_compareVip fu f xs = some o → ∀ y, o.x = some y → Good E Tryz.prog f xs (o.g y) := by
  intro f xs o h
  unfold pcf_impl_compareVip at h
  split at h
  · exact good_cmp_Or_int fu xs o h
  · exact good_cmp_Compare_int64 fu xs o h
  · cases h
theorem hpx_impl_compareVip (fu : Nat) : ∀ f xs ins o, pcx_impl_compareVip fu f xs ins = some o → ∀ y, o.x = some y → GoodX E Tryz.prog f xs ins (o.g y).1 (o.g y).2 := by
  intro f xs ins o h
  cases h
theorem goodv_impl_compareVip (fu : Nat) (a_0 : S_impl_Vip) (b_1 : S_impl_Vip) (y : Int) (hy : F_impl_compareVip fu a_0 b_1 = some y) : Good E Tryz.prog 75 [(.agg [(.int .i64 a_0.Address), (.int .i64 a_0.Port), (.int .i64 a_0.Proto), (.rs a_0.Names.z .i64 a_0.Names.n a_0.Names.f)]), (.agg [(.int .i64 b_1.Address), (.int .i64 b_1.Port), (.int .i64 b_1.Proto), (.rs b_1.Names.z .i64 b_1.Names.n b_1.Names.f)])] (enc_i64 y) :=
  fun_good E_ok (pc_good (pc := pc_impl_compareVip fu) (hpc_impl_compareVip fu) (hpx_impl_compareVip fu)) (fn := Tryz.f75) (c := body_impl_compareVip) (out := out_i64) (y := y) (by kernel_rfl) (by kernel_rfl) (by kernel_rfl) (lpok_impl_compareVip fu) (fun d hd => out_i64_enc d _ hd) ((ev_impl_compareVip fu a_0 b_1).trans hy)
theorem good_impl_compareVip (fu : Nat) : ∀ xs o, S_impl_compareVip fu xs = some o → ∀ y, o.x = some y → Good E Tryz.prog 75 xs (o.g y) := by
  intro xs o h y hy
  unfold S_impl_compareVip at h
  split at h
  · rename_i a0_1 a0_2 a0_3 za0_4 na0_4 fa0_4 a1_1 a1_2 a1_3 za1_4 na1_4 fa1_4
    cases h
    exact goodv_impl_compareVip fu (⟨a0_1, a0_2, a0_3, (⟨za0_4, na0_4, fa0_4⟩ : (Sl Int))⟩ : S_impl_Vip) (⟨a1_1, a1_2, a1_3, (⟨za1_4, na1_4, fa1_4⟩ : (Sl Int))⟩ : S_impl_Vip) y hy
  · cases h

/-! (*impl.Config).backend'1 -/
def F_impl_Config_backend_c1 (fu : Nat) (b_0 : S_impl_Backend) (x_1_1 : Int) : Option (Bool) :=
  (some (b_0.Name == x_1_1))
def pcf_impl_Config_backend_c1 (fu : Nat) (f : Nat) (xs : List (D RT den)) : Option (Out RT den) := none
def pcx_impl_Config_backend_c1 (fu : Nat) (f : Nat) (xs : List (D RT den)) (ins : List (Ob RT den)) : Option (OutX RT den) := none
def pc_impl_Config_backend_c1 (fu : Nat) : Pc RT den := ⟨pcf_impl_Config_backend_c1 fu, fun _ => false, fun _ => false, pcx_impl_Config_backend_c1 fu⟩
def msk_impl_Config_backend_c1 (b : Nat) : List Nat := []
def lp_impl_Config_backend_c1 (fu : Nat) : Lp RT den (Bool) := fun b s k => none
theorem ev_impl_Config_backend_c1 (fu : Nat) (b_0 : S_impl_Backend) (x_1_1 : Int) : evFun E (pc_impl_Config_backend_c1 fu) msk_impl_Config_backend_c1 (lp_impl_Config_backend_c1 fu) out_bo 83 [(.agg [(.int .i64 b_0.Name), (.int .i64 b_0.Address), (.int .i64 b_0.Weight), (.int .i64 b_0.Stage), (.bool b_0.Up)]), (.rptr [(.int .i64 x_1_1)])] = F_impl_Config_backend_c1 fu b_0 x_1_1 := by kernel_rfl
noncomputable def body_impl_Config_backend_c1 : Code := Tryz.f83.body.getD .skip
theorem lpok_impl_Config_backend_c1 (fu : Nat) : LpOk E (pc_impl_Config_backend_c1 fu) msk_impl_Config_backend_c1 (lp_impl_Config_backend_c1 fu) (loops 0 body_impl_Config_backend_c1) := by
  have h : loops 0 body_impl_Config_backend_c1 = [] := by kernel_rfl
  rw [h]; intro p hp; cases hp
def S_impl_Config_backend_c1 (fu : Nat) (xs : List (D RT den)) : Option (Out RT den) := match xs with | [.agg [.int .i64 a0_1, .int .i64 a0_2, .int .i64 a0_3, .int .i64 a0_4, .bool a0_5], .rptr [.int .i64 a1_0]] => some ⟨Bool, F_impl_Config_backend_c1 fu (⟨a0_1, a0_2, a0_3, a0_4, a0_5⟩ : S_impl_Backend) a1_0, enc_bo, fun _ => true⟩ | _ => none
theorem hpc_impl_Config_backend_c1 (fu : Nat) : ∀ f xs o, pcf_impl_Config_backend_c1 fu f xs = some o → ∀ y, o.x = some y → Good E Tryz.prog f xs (o.g y) := by
  intro f xs o h
  cases h
theorem hpx_impl_Config_backend_c1 (fu : Nat) : ∀ f xs ins o, pcx_impl_Config_backend_c1 fu f xs ins = some o → ∀ y, o.x = some y → GoodX E Tryz.prog f xs ins (o.g y).1 (o.g y).2 := by
  intro f xs ins o h
  cases h
theorem goodv_impl_Config_backend_c1 (fu : Nat) (b_0 : S_impl_Backend) (x_1_1 : Int) (y : Bool) (hy : F_impl_Config_backend_c1 fu b_0 x_1_1 = some y) : Good E Tryz.prog 83 [(.agg [(.int .i64 b_0.Name), (.int .i64 b_0.Address), (.int .i64 b_0.Weight), (.int .i64 b_0.Stage), (.bool b_0.Up)]), (.rptr [(.int .i64 x_1_1)])] (enc_bo y) :=
  fun_good E_ok (pc_good (pc := pc_impl_Config_backend_c1 fu) (hpc_impl_Config_backend_c1 fu) (hpx_impl_Config_backend_c1 fu)) (fn := Tryz.f83) (c := body_impl_Config_backend_c1) (out := out_bo) (y := y) (by kernel_rfl) (by kernel_rfl) (by kernel_rfl) (lpok_impl_Config_backend_c1 fu) (fun d hd => out_bo_enc d _ hd) ((ev_impl_Config_backend_c1 fu b_0 x_1_1).trans hy)
theorem good_impl_Config_backend_c1 (fu : Nat) : ∀ xs o, S_impl_Config_backend_c1 fu xs = some o → ∀ y, o.x = some y → Good E Tryz.prog 83 xs (o.g y) := by
  intro xs o h y hy
  unfold S_impl_Config_backend_c1 at h
  split at h
  · rename_i a0_1 a0_2 a0_3 a0_4 a0_5 a1_0
    cases h
    exact goodv_impl_Config_backend_c1 fu (⟨a0_1, a0_2, a0_3, a0_4, a0_5⟩ : S_impl_Backend) a1_0 y hy
  · cases h
end Go.Proofs.YtmgndndkkeinfaaGreat.Pc
