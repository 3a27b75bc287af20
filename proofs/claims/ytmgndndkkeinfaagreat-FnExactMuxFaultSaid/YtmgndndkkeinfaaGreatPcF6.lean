/- The functions' evaluated forms, each a proved summary. Conditions: none. -/
import Derived.Test.YtmgndndkkeinfaaGreatPcF5
namespace Go.Proofs.YtmgndndkkeinfaaGreat.Pc
open Go Go.RowKit Go.Proofs Vm
set_option linter.unusedVariables false
set_option linter.unusedSimpArgs false
set_option maxRecDepth 100000
/-! slices.Equal[[]int64,int64] -/
def F_slices_Equal_int64_int64_B0 {ρ : Type} (fu : Nat) (s10_0 : (Sl Int)) (s21_1 : (Sl Int)) (t12_2 : Int) (k0 : Option ρ) (k1 : Option ρ) (t13_3 : Int) (go : Int → Option ρ) : Option ρ :=
  (bif (decide (t13_3 < t12_2)) then ((bif (decide (0 ≤ t13_3) && decide ((Int.toNat t13_3) < s10_0.n)) then some () else none : Option Unit).bind fun _ => ((bif (decide (0 ≤ t13_3) &&
    decide ((Int.toNat t13_3) < s21_1.n)) then some () else none : Option Unit).bind fun _ => (bif ((s10_0.f (Int.toNat t13_3)) != (s21_1.f (Int.toNat t13_3))) then k0 else (go (IntKind.wrap .i64 (t13_3 + 1)))))) else
    k1)
def F_slices_Equal_int64_int64 (fu : Nat) (s1_0 : (Sl Int)) (s2_1 : (Sl Int)) : Option (Bool) :=
  (bif (((s1_0.n : Nat) : Int) != ((s2_1.n : Nat) : Int)) then (some false) else (L (fun w0 go0 => F_slices_Equal_int64_int64_B0 fu s1_0 s2_1 ((s1_0.n : Nat) : Int) (some false) (some true) w0 go0) fu (0 : Int)))
def pcf_slices_Equal_int64_int64 (fu : Nat) (f : Nat) (xs : List (D RT den)) : Option (Out RT den) := none
def pcx_slices_Equal_int64_int64 (fu : Nat) (f : Nat) (xs : List (D RT den)) (ins : List (Ob RT den)) : Option (OutX RT den) := none
def pc_slices_Equal_int64_int64 (fu : Nat) : Pc RT den := ⟨pcf_slices_Equal_int64_int64 fu, fun _ => false, fun _ => false, pcx_slices_Equal_int64_int64 fu⟩
def msk_slices_Equal_int64_int64 (b : Nat) : List Nat := match b with | 0 => [2, 3, 4, 5, 6, 7, 8, 9, 10, 11, 14, 15, 16, 17, 18, 19, 20, 21, 22, 23, 24, 25] | 100000 => [0, 1, 2, 3, 5, 6, 7, 8, 9, 10, 11, 12, 13, 14, 15, 16, 17, 18, 19, 20, 21, 22, 23, 24, 25] | _ => []
def ps_slices_Equal_int64_int64_0 : List (Pat RT) := [.flat (.rs .i64), .flat (.rs .i64), .flat .dead, .flat .dead, .flat .dead, .flat .dead, .flat .dead, .flat .dead, .flat .dead, .flat .dead, .flat .dead, .flat .dead, .flat (.int .i64), .flat (.int .i64), .flat .dead, .flat .dead, .flat .dead, .flat .dead, .flat .dead, .flat .dead, .flat .dead, .flat .dead, .flat .dead, .flat .dead, .flat .dead, .flat .dead]
def os_slices_Equal_int64_int64_0 : List (OP RT) := []
def conv_slices_Equal_int64_int64_0 (r : Raw den ps_slices_Equal_int64_int64_0 os_slices_Equal_int64_int64_0) : ((Sl Int) × (Sl Int) × Int) × (Int) := ((r.1.1, r.1.2.1, r.1.2.2.2.2.2.2.2.2.2.2.2.2.1), r.1.2.2.2.2.2.2.2.2.2.2.2.2.2.1)
def back_slices_Equal_int64_int64_0 (c : (Sl Int) × (Sl Int) × Int) (w : Int) : St RT den := ⟨[(.rs c.1.z .i64 c.1.n c.1.f), (.rs c.2.1.z .i64 c.2.1.n c.2.1.f), .dead, .dead, .dead, .dead, .dead, .dead, .dead, .dead, .dead, .dead, (.int .i64 c.2.2), (.int .i64 w), .dead, .dead, .dead, .dead, .dead, .dead, .dead, .dead, .dead, .dead, .dead, .dead], []⟩
def Bk_slices_Equal_int64_int64_0 {ρ : Type} (fu : Nat) (c : (Sl Int) × (Sl Int) × Int) (k : Ex → St RT den → Option ρ) (w : Int) (go : (Int) → Option ρ) : Option ρ := F_slices_Equal_int64_int64_B0 fu c.1 c.2.1 c.2.2 (k .ret ⟨[.dead, .dead, .dead, .dead, (.bool false), .dead, .dead, .dead, .dead, .dead, .dead, .dead, .dead, .dead, .dead, .dead, .dead, .dead, .dead, .dead, .dead, .dead, .dead, .dead, .dead, .dead], []⟩) (k (.exit 0) ⟨[.dead, .dead, .dead, .dead, .dead, .dead, .dead, .dead, .dead, .dead, .dead, .dead, .dead, .dead, .dead, .dead, .dead, .dead, .dead, .dead, .dead, .dead, .dead, .dead, .dead, .dead], []⟩) w go
def lp_slices_Equal_int64_int64 (fu : Nat) : Lp RT den (Bool) := fun b s k => match b with | 0 => handle ps_slices_Equal_int64_int64_0 os_slices_Equal_int64_int64_0 conv_slices_Equal_int64_int64_0 (Bk_slices_Equal_int64_int64_0 fu) fu s k | _ => none
theorem ev_slices_Equal_int64_int64 (fu : Nat) (s1_0 : (Sl Int)) (s2_1 : (Sl Int)) : evFun E (pc_slices_Equal_int64_int64 fu) msk_slices_Equal_int64_int64 (lp_slices_Equal_int64_int64 fu) out_bo 26 [(.rs s1_0.z .i64 s1_0.n s1_0.f), (.rs s2_1.z .i64 s2_1.n s2_1.f)] = F_slices_Equal_int64_int64 fu s1_0 s2_1 := by kernel_rfl
noncomputable def body_slices_Equal_int64_int64 : Code := Tryz.f26.body.getD .skip
noncomputable def lc_slices_Equal_int64_int64_0 : Code := ((loops 0 body_slices_Equal_int64_int64).getD 0 (0, .skip)).2
theorem round_slices_Equal_int64_int64_0 (fu : Nat) (it : St RT den → Option (Bool)) (k : Ex → St RT den → Option (Bool)) c w : evCode E (pc_slices_Equal_int64_int64 fu) msk_slices_Equal_int64_int64 (lp_slices_Equal_int64_int64 fu) 0 lc_slices_Equal_int64_int64_0 (back_slices_Equal_int64_int64_0 c w) (after (msk_slices_Equal_int64_int64 0) (msk_slices_Equal_int64_int64 100000) 0 it k) = Bk_slices_Equal_int64_int64_0 fu c k w (fun w => it (back_slices_Equal_int64_int64_0 c w)) := by kernel_rfl
theorem lpok_slices_Equal_int64_int64_0 (fu : Nat) : ∀ s k r, lp_slices_Equal_int64_int64 fu 0 s k = some r → ∃ fuel, iter (msk_slices_Equal_int64_int64 0) (msk_slices_Equal_int64_int64 100000) s.objs.length (evCode E (pc_slices_Equal_int64_int64 fu) msk_slices_Equal_int64_int64 (lp_slices_Equal_int64_int64 fu) 0 lc_slices_Equal_int64_int64_0) fuel s k = some r :=
  handle_ok (ps := ps_slices_Equal_int64_int64_0) (os := os_slices_Equal_int64_int64_0) (conv := conv_slices_Equal_int64_int64_0) (B := Bk_slices_Equal_int64_int64_0 fu) (fu := fu) back_slices_Equal_int64_int64_0 (fun raw => by kernel_rfl) 0 (fun c w => by kernel_rfl) (round_slices_Equal_int64_int64_0 fu)
theorem lpok_slices_Equal_int64_int64 (fu : Nat) : LpOk E (pc_slices_Equal_int64_int64 fu) msk_slices_Equal_int64_int64 (lp_slices_Equal_int64_int64 fu) (loops 0 body_slices_Equal_int64_int64) := loop_all 1 (by kernel_rfl) fun i hi => match i, hi with
  | 0, _ => by
    have h : (loops 0 body_slices_Equal_int64_int64).getD 0 (0, .skip) = (0, lc_slices_Equal_int64_int64_0) := by kernel_rfl
    rw [h]; exact lpok_slices_Equal_int64_int64_0 fu
  | i + 1, hi => absurd hi (by omega)
def S_slices_Equal_int64_int64 (fu : Nat) (xs : List (D RT den)) : Option (Out RT den) := match xs with | [.rs za0_0 .i64 na0_0 fa0_0, .rs za1_0 .i64 na1_0 fa1_0] => some ⟨Bool, F_slices_Equal_int64_int64 fu (⟨za0_0, na0_0, fa0_0⟩ : (Sl Int)) (⟨za1_0, na1_0, fa1_0⟩ : (Sl Int)), enc_bo, fun _ => true⟩ | _ => none
theorem hpc_slices_Equal_int64_int64 (fu : Nat) : ∀ f xs o, pcf_slices_Equal_int64_int64 fu f xs = some o → ∀ y, o.x = some y → Good E Tryz.prog f xs (o.g y) := by
  intro f xs o h
  cases h
theorem hpx_slices_Equal_int64_int64 (fu : Nat) : ∀ f xs ins o, pcx_slices_Equal_int64_int64 fu f xs ins = some o → ∀ y, o.x = some y → GoodX E Tryz.prog f xs ins (o.g y).1 (o.g y).2 := by
  intro f xs ins o h
  cases h
theorem goodv_slices_Equal_int64_int64 (fu : Nat) (s1_0 : (Sl Int)) (s2_1 : (Sl Int)) (y : Bool) (hy : F_slices_Equal_int64_int64 fu s1_0 s2_1 = some y) : Good E Tryz.prog 26 [(.rs s1_0.z .i64 s1_0.n s1_0.f), (.rs s2_1.z .i64 s2_1.n s2_1.f)] (enc_bo y) :=
  fun_good E_ok (pc_good (pc := pc_slices_Equal_int64_int64 fu) (hpc_slices_Equal_int64_int64 fu) (hpx_slices_Equal_int64_int64 fu)) (fn := Tryz.f26) (c := body_slices_Equal_int64_int64) (out := out_bo) (y := y) (by kernel_rfl) (by kernel_rfl) (by kernel_rfl) (lpok_slices_Equal_int64_int64 fu) (fun d hd => out_bo_enc d _ hd) ((ev_slices_Equal_int64_int64 fu s1_0 s2_1).trans hy)
theorem good_slices_Equal_int64_int64 (fu : Nat) : ∀ xs o, S_slices_Equal_int64_int64 fu xs = some o → ∀ y, o.x = some y → Good E Tryz.prog 26 xs (o.g y) := by
  intro xs o h y hy
  unfold S_slices_Equal_int64_int64 at h
  split at h
  · rename_i za0_0 na0_0 fa0_0 za1_0 na1_0 fa1_0
    cases h
    exact goodv_slices_Equal_int64_int64 fu (⟨za0_0, na0_0, fa0_0⟩ : (Sl Int)) (⟨za1_0, na1_0, fa1_0⟩ : (Sl Int)) y hy
  · cases h

/-! slices.EqualFunc[[][]int64,[][]int64,[]int64,[]int64] -/
def F_slices_EqualFunc_int64_int64_int64_int64_w_slices_Equal_int64_int64_B0 {ρ : Type} (fu : Nat) (s21_0 : (Sl (Sl Int))) (t15_1 : (Sl (Sl Int))) (t16_2 : Int) (k0 : Option ρ) (k1 : Option ρ) (t17_3 : Int) (go : Int → Option ρ) : Option ρ :=
  (bif (decide (t17_3 < t16_2)) then ((bif (decide (0 ≤ t17_3) && decide ((Int.toNat t17_3) < t15_1.n)) then some () else none : Option Unit).bind fun _ => ((bif (decide (0 ≤ t17_3) &&
    decide ((Int.toNat t17_3) < s21_0.n)) then some () else none : Option Unit).bind fun _ => ((F_slices_Equal_int64_int64 fu (t15_1.f (Int.toNat t17_3)) (s21_0.f (Int.toNat t17_3))).bind fun y335 =>
    (bif (!y335) then k0 else (go (IntKind.wrap .i64 (t17_3 + 1))))))) else k1)
def F_slices_EqualFunc_int64_int64_int64_int64_w_slices_Equal_int64_int64 (fu : Nat) (s1_0 : (Sl (Sl Int))) (s2_1 : (Sl (Sl Int))) : Option (Bool) :=
  (bif (((s1_0.n : Nat) : Int) != ((s2_1.n : Nat) : Int)) then (some false) else (L (fun w0 go0 => F_slices_EqualFunc_int64_int64_int64_int64_w_slices_Equal_int64_int64_B0 fu s2_1 s1_0 ((s1_0.n : Nat) : Int) (some false) (some true) w0 go0) fu (0 : Int)))
def pcf_slices_EqualFunc_int64_int64_int64_int64_w_slices_Equal_int64_int64 (fu : Nat) (f : Nat) (xs : List (D RT den)) : Option (Out RT den) := match f with | 26 => S_slices_Equal_int64_int64 fu xs | _ => none
def pcx_slices_EqualFunc_int64_int64_int64_int64_w_slices_Equal_int64_int64 (fu : Nat) (f : Nat) (xs : List (D RT den)) (ins : List (Ob RT den)) : Option (OutX RT den) := none
def pc_slices_EqualFunc_int64_int64_int64_int64_w_slices_Equal_int64_int64 (fu : Nat) : Pc RT den := ⟨pcf_slices_EqualFunc_int64_int64_int64_int64_w_slices_Equal_int64_int64 fu, fun _ => false, fun _ => false, pcx_slices_EqualFunc_int64_int64_int64_int64_w_slices_Equal_int64_int64 fu⟩
def msk_slices_EqualFunc_int64_int64_int64_int64_w_slices_Equal_int64_int64 (b : Nat) : List Nat := match b with | 0 => [0, 3, 4, 5, 6, 7, 8, 9, 10, 11, 12, 13, 14, 18, 19, 20, 21, 22, 23, 24, 25, 26, 27, 28, 29, 30, 31] | 100000 => [0, 1, 2, 3, 4, 5, 7, 8, 9, 10, 11, 12, 13, 14, 15, 16, 17, 18, 19, 20, 21, 22, 23, 24, 25, 26, 27, 28, 29, 30, 31] | _ => []
def ps_slices_EqualFunc_int64_int64_int64_int64_w_slices_Equal_int64_int64_0 : List (Pat RT) := [.flat .dead, .flat (.rs .sl_i64), .fn 26 [], .flat .dead, .flat .dead, .flat .dead, .flat .dead, .flat .dead, .flat .dead, .flat .dead, .flat .dead, .flat .dead, .flat .dead, .flat .dead, .flat .dead, .flat (.rs .sl_i64), .flat (.int .i64), .flat (.int .i64), .flat .dead, .flat .dead, .flat .dead, .flat .dead, .flat .dead, .flat .dead, .flat .dead, .flat .dead, .flat .dead, .flat .dead, .flat .dead, .flat .dead, .flat .dead, .flat .dead]
def os_slices_EqualFunc_int64_int64_int64_int64_w_slices_Equal_int64_int64_0 : List (OP RT) := []
def conv_slices_EqualFunc_int64_int64_int64_int64_w_slices_Equal_int64_int64_0 (r : Raw den ps_slices_EqualFunc_int64_int64_int64_int64_w_slices_Equal_int64_int64_0 os_slices_EqualFunc_int64_int64_int64_int64_w_slices_Equal_int64_int64_0) : ((Sl (Sl Int)) × (Sl (Sl Int)) × Int) × (Int) := ((r.1.2.1, r.1.2.2.2.2.2.2.2.2.2.2.2.2.2.2.2.1, r.1.2.2.2.2.2.2.2.2.2.2.2.2.2.2.2.2.1), r.1.2.2.2.2.2.2.2.2.2.2.2.2.2.2.2.2.2.1)
def back_slices_EqualFunc_int64_int64_int64_int64_w_slices_Equal_int64_int64_0 (c : (Sl (Sl Int)) × (Sl (Sl Int)) × Int) (w : Int) : St RT den := ⟨[.dead, (.rs c.1.z .sl_i64 c.1.n c.1.f), (.fn 26 []), .dead, .dead, .dead, .dead, .dead, .dead, .dead, .dead, .dead, .dead, .dead, .dead, (.rs c.2.1.z .sl_i64 c.2.1.n c.2.1.f), (.int .i64 c.2.2), (.int .i64 w), .dead, .dead, .dead, .dead, .dead, .dead, .dead, .dead, .dead, .dead, .dead, .dead, .dead, .dead], []⟩
def Bk_slices_EqualFunc_int64_int64_int64_int64_w_slices_Equal_int64_int64_0 {ρ : Type} (fu : Nat) (c : (Sl (Sl Int)) × (Sl (Sl Int)) × Int) (k : Ex → St RT den → Option ρ) (w : Int) (go : (Int) → Option ρ) : Option ρ := F_slices_EqualFunc_int64_int64_int64_int64_w_slices_Equal_int64_int64_B0 fu c.1 c.2.1 c.2.2 (k .ret ⟨[.dead, .dead, .dead, .dead, .dead, .dead, (.bool false), .dead, .dead, .dead, .dead, .dead, .dead, .dead, .dead, .dead, .dead, .dead, .dead, .dead, .dead, .dead, .dead, .dead, .dead, .dead, .dead, .dead, .dead, .dead, .dead, .dead], []⟩) (k (.exit 0) ⟨[.dead, .dead, .dead, .dead, .dead, .dead, .dead, .dead, .dead, .dead, .dead, .dead, .dead, .dead, .dead, .dead, .dead, .dead, .dead, .dead, .dead, .dead, .dead, .dead, .dead, .dead, .dead, .dead, .dead, .dead, .dead, .dead], []⟩) w go
def lp_slices_EqualFunc_int64_int64_int64_int64_w_slices_Equal_int64_int64 (fu : Nat) : Lp RT den (Bool) := fun b s k => match b with | 0 => handle ps_slices_EqualFunc_int64_int64_int64_int64_w_slices_Equal_int64_int64_0 os_slices_EqualFunc_int64_int64_int64_int64_w_slices_Equal_int64_int64_0 conv_slices_EqualFunc_int64_int64_int64_int64_w_slices_Equal_int64_int64_0 (Bk_slices_EqualFunc_int64_int64_int64_int64_w_slices_Equal_int64_int64_0 fu) fu s k | _ => none
theorem ev_slices_EqualFunc_int64_int64_int64_int64_w_slices_Equal_int64_int64 (fu : Nat) (s1_0 : (Sl (Sl Int))) (s2_1 : (Sl (Sl Int))) : evFun E (pc_slices_EqualFunc_int64_int64_int64_int64_w_slices_Equal_int64_int64 fu) msk_slices_EqualFunc_int64_int64_int64_int64_w_slices_Equal_int64_int64 (lp_slices_EqualFunc_int64_int64_int64_int64_w_slices_Equal_int64_int64 fu) out_bo 24 [(.rs s1_0.z .sl_i64 s1_0.n s1_0.f), (.rs s2_1.z .sl_i64 s2_1.n s2_1.f), (.fn 26 [])] = F_slices_EqualFunc_int64_int64_int64_int64_w_slices_Equal_int64_int64 fu s1_0 s2_1 := by kernel_rfl
noncomputable def body_slices_EqualFunc_int64_int64_int64_int64_w_slices_Equal_int64_int64 : Code := Tryz.f24.body.getD .skip
noncomputable def lc_slices_EqualFunc_int64_int64_int64_int64_w_slices_Equal_int64_int64_0 : Code := ((loops 0 body_slices_EqualFunc_int64_int64_int64_int64_w_slices_Equal_int64_int64).getD 0 (0, .skip)).2
theorem round_slices_EqualFunc_int64_int64_int64_int64_w_slices_Equal_int64_int64_0 (fu : Nat) (it : St RT den → Option (Bool)) (k : Ex → St RT den → Option (Bool)) c w : evCode E (pc_slices_EqualFunc_int64_int64_int64_int64_w_slices_Equal_int64_int64 fu) msk_slices_EqualFunc_int64_int64_int64_int64_w_slices_Equal_int64_int64 (lp_slices_EqualFunc_int64_int64_int64_int64_w_slices_Equal_int64_int64 fu) 0 lc_slices_EqualFunc_int64_int64_int64_int64_w_slices_Equal_int64_int64_0 (back_slices_EqualFunc_int64_int64_int64_int64_w_slices_Equal_int64_int64_0 c w) (after (msk_slices_EqualFunc_int64_int64_int64_int64_w_slices_Equal_int64_int64 0) (msk_slices_EqualFunc_int64_int64_int64_int64_w_slices_Equal_int64_int64 100000) 0 it k) = Bk_slices_EqualFunc_int64_int64_int64_int64_w_slices_Equal_int64_int64_0 fu c k w (fun w => it (back_slices_EqualFunc_int64_int64_int64_int64_w_slices_Equal_int64_int64_0 c w)) := by kernel_rfl
theorem lpok_slices_EqualFunc_int64_int64_int64_int64_w_slices_Equal_int64_int64_0 (fu : Nat) : ∀ s k r, lp_slices_EqualFunc_int64_int64_int64_int64_w_slices_Equal_int64_int64 fu 0 s k = some r → ∃ fuel, iter (msk_slices_EqualFunc_int64_int64_int64_int64_w_slices_Equal_int64_int64 0) (msk_slices_EqualFunc_int64_int64_int64_int64_w_slices_Equal_int64_int64 100000) s.objs.length (evCode E (pc_slices_EqualFunc_int64_int64_int64_int64_w_slices_Equal_int64_int64 fu) msk_slices_EqualFunc_int64_int64_int64_int64_w_slices_Equal_int64_int64 (lp_slices_EqualFunc_int64_int64_int64_int64_w_slices_Equal_int64_int64 fu) 0 lc_slices_EqualFunc_int64_int64_int64_int64_w_slices_Equal_int64_int64_0) fuel s k = some r :=
  handle_ok (ps := ps_slices_EqualFunc_int64_int64_int64_int64_w_slices_Equal_int64_int64_0) (os := os_slices_EqualFunc_int64_int64_int64_int64_w_slices_Equal_int64_int64_0) (conv := conv_slices_EqualFunc_int64_int64_int64_int64_w_slices_Equal_int64_int64_0) (B := Bk_slices_EqualFunc_int64_int64_int64_int64_w_slices_Equal_int64_int64_0 fu) (fu := fu) back_slices_EqualFunc_int64_int64_int64_int64_w_slices_Equal_int64_int64_0 (fun raw => by kernel_rfl) 0 (fun c w => by kernel_rfl) (round_slices_EqualFunc_int64_int64_int64_int64_w_slices_Equal_int64_int64_0 fu)
theorem lpok_slices_EqualFunc_int64_int64_int64_int64_w_slices_Equal_int64_int64 (fu : Nat) : LpOk E (pc_slices_EqualFunc_int64_int64_int64_int64_w_slices_Equal_int64_int64 fu) msk_slices_EqualFunc_int64_int64_int64_int64_w_slices_Equal_int64_int64 (lp_slices_EqualFunc_int64_int64_int64_int64_w_slices_Equal_int64_int64 fu) (loops 0 body_slices_EqualFunc_int64_int64_int64_int64_w_slices_Equal_int64_int64) := loop_all 1 (by kernel_rfl) fun i hi => match i, hi with
  | 0, _ => by
    have h : (loops 0 body_slices_EqualFunc_int64_int64_int64_int64_w_slices_Equal_int64_int64).getD 0 (0, .skip) = (0, lc_slices_EqualFunc_int64_int64_int64_int64_w_slices_Equal_int64_int64_0) := by kernel_rfl
    rw [h]; exact lpok_slices_EqualFunc_int64_int64_int64_int64_w_slices_Equal_int64_int64_0 fu
  | i + 1, hi => absurd hi (by omega)
def S_slices_EqualFunc_int64_int64_int64_int64_w_slices_Equal_int64_int64 (fu : Nat) (xs : List (D RT den)) : Option (Out RT den) := match xs with | [.rs za0_0 .sl_i64 na0_0 fa0_0, .rs za1_0 .sl_i64 na1_0 fa1_0, .fn 26 []] => some ⟨Bool, F_slices_EqualFunc_int64_int64_int64_int64_w_slices_Equal_int64_int64 fu (⟨za0_0, na0_0, fa0_0⟩ : (Sl (Sl Int))) (⟨za1_0, na1_0, fa1_0⟩ : (Sl (Sl Int))), enc_bo, fun _ => true⟩ | _ => none
theorem hpc_slices_EqualFunc_int64_int64_int64_int64_w_slices_Equal_int64_int64 (fu : Nat) : ∀ f xs o, pcf_slices_EqualFunc_int64_int64_int64_int64_w_slices_Equal_int64_int64 fu f xs = some o → ∀ y, o.x = some y → Good E Tryz.prog f xs (o.g y) := by
  intro f xs o h
  unfold pcf_slices_EqualFunc_int64_int64_int64_int64_w_slices_Equal_int64_int64 at h
  split at h
  · exact good_slices_Equal_int64_int64 fu xs o h
  · cases h
theorem hpx_slices_EqualFunc_int64_int64_int64_int64_w_slices_Equal_int64_int64 (fu : Nat) : ∀ f xs ins o, pcx_slices_EqualFunc_int64_int64_int64_int64_w_slices_Equal_int64_int64 fu f xs ins = some o → ∀ y, o.x = some y → GoodX E Tryz.prog f xs ins (o.g y).1 (o.g y).2 := by
  intro f xs ins o h
  cases h
theorem goodv_slices_EqualFunc_int64_int64_int64_int64_w_slices_Equal_int64_int64 (fu : Nat) (s1_0 : (Sl (Sl Int))) (s2_1 : (Sl (Sl Int))) (y : Bool) (hy : F_slices_EqualFunc_int64_int64_int64_int64_w_slices_Equal_int64_int64 fu s1_0 s2_1 = some y) : Good E Tryz.prog 24 [(.rs s1_0.z .sl_i64 s1_0.n s1_0.f), (.rs s2_1.z .sl_i64 s2_1.n s2_1.f), (.fn 26 [])] (enc_bo y) :=
  fun_good E_ok (pc_good (pc := pc_slices_EqualFunc_int64_int64_int64_int64_w_slices_Equal_int64_int64 fu) (hpc_slices_EqualFunc_int64_int64_int64_int64_w_slices_Equal_int64_int64 fu) (hpx_slices_EqualFunc_int64_int64_int64_int64_w_slices_Equal_int64_int64 fu)) (fn := Tryz.f24) (c := body_slices_EqualFunc_int64_int64_int64_int64_w_slices_Equal_int64_int64) (out := out_bo) (y := y) (by kernel_rfl) (by kernel_rfl) (by kernel_rfl) (lpok_slices_EqualFunc_int64_int64_int64_int64_w_slices_Equal_int64_int64 fu) (fun d hd => out_bo_enc d _ hd) ((ev_slices_EqualFunc_int64_int64_int64_int64_w_slices_Equal_int64_int64 fu s1_0 s2_1).trans hy)
theorem good_slices_EqualFunc_int64_int64_int64_int64_w_slices_Equal_int64_int64 (fu : Nat) : ∀ xs o, S_slices_EqualFunc_int64_int64_int64_int64_w_slices_Equal_int64_int64 fu xs = some o → ∀ y, o.x = some y → Good E Tryz.prog 24 xs (o.g y) := by
  intro xs o h y hy
  unfold S_slices_EqualFunc_int64_int64_int64_int64_w_slices_Equal_int64_int64 at h
  split at h
  · rename_i za0_0 na0_0 fa0_0 za1_0 na1_0 fa1_0
    cases h
    exact goodv_slices_EqualFunc_int64_int64_int64_int64_w_slices_Equal_int64_int64 fu (⟨za0_0, na0_0, fa0_0⟩ : (Sl (Sl Int))) (⟨za1_0, na1_0, fa1_0⟩ : (Sl (Sl Int))) y hy
  · cases h

/-! impl.PacketFault -/
def F_impl_PacketFault (fu : Nat) (p_0 : S_impl_Packet) : Option (Int) :=
  ((((F_impl_isAddress fu p_0.From).bind fun y337 => (bif (!y337) then (some true) else ((F_impl_isAddress fu p_0.To).bind fun y338 => (bif (!y338) then (some true) else
    ((F_impl_isProto fu p_0.Proto).bind fun y339 => (bif (!y339) then (some true) else ((F_impl_isPort fu p_0.FromP).bind fun y340 => (bif (!y340) then (some true) else
    ((F_impl_isPort fu p_0.ToP).bind fun y341 => (some (!y341))))))))))) : Option Bool).bind fun m342 => (bif m342 then (some 3) else (bif (decide (((p_0.Load.n : Nat) : Int) > 200)) then
    (some 2) else (some 0))))
def pcf_impl_PacketFault (fu : Nat) (f : Nat) (xs : List (D RT den)) : Option (Out RT den) := match f with | 21 => S_impl_isAddress fu xs | 73 => S_impl_isPort fu xs | 74 => S_impl_isProto fu xs | _ => none
def pcx_impl_PacketFault (fu : Nat) (f : Nat) (xs : List (D RT den)) (ins : List (Ob RT den)) : Option (OutX RT den) := none
def pc_impl_PacketFault (fu : Nat) : Pc RT den := ⟨pcf_impl_PacketFault fu, fun _ => false, fun _ => false, pcx_impl_PacketFault fu⟩
def msk_impl_PacketFault (b : Nat) : List Nat := match b with | 200001 => [3] | _ => []
def lp_impl_PacketFault (fu : Nat) : Lp RT den (Int) := fun b s k => none
theorem ev_impl_PacketFault (fu : Nat) (p_0 : S_impl_Packet) : evFun E (pc_impl_PacketFault fu) msk_impl_PacketFault (lp_impl_PacketFault fu) out_i64 52 [(.agg [(.int .i64 p_0.From), (.int .i64 p_0.To), (.int .i64 p_0.Proto), (.int .i64 p_0.FromP), (.int .i64 p_0.ToP), (.rs p_0.Load.z .u8 p_0.Load.n p_0.Load.f)])] = F_impl_PacketFault fu p_0 := by kernel_rfl
noncomputable def body_impl_PacketFault : Code := Tryz.f52.body.getD .skip
theorem lpok_impl_PacketFault (fu : Nat) : LpOk E (pc_impl_PacketFault fu) msk_impl_PacketFault (lp_impl_PacketFault fu) (loops 0 body_impl_PacketFault) := by
  have h : loops 0 body_impl_PacketFault = [] := by kernel_rfl
  rw [h]; intro p hp; cases hp
def S_impl_PacketFault (fu : Nat) (xs : List (D RT den)) : Option (Out RT den) := match xs with | [.agg [.int .i64 a0_1, .int .i64 a0_2, .int .i64 a0_3, .int .i64 a0_4, .int .i64 a0_5, .rs za0_6 .u8 na0_6 fa0_6]] => some ⟨Int, F_impl_PacketFault fu (⟨a0_1, a0_2, a0_3, a0_4, a0_5, (⟨za0_6, na0_6, fa0_6⟩ : (Sl Int))⟩ : S_impl_Packet), enc_i64, fun _ => true⟩ | _ => none
theorem hpc_impl_PacketFault (fu : Nat) : ∀ f xs o, pcf_impl_PacketFault fu f xs = some o → ∀ y, o.x = some y → Good E Tryz.prog f xs (o.g y) := by
  intro f xs o h
  unfold pcf_impl_PacketFault at h
  split at h
  · exact good_impl_isAddress fu xs o h
  · exact good_impl_isPort fu xs o h
  · exact good_impl_isProto fu xs o h
  · cases h
theorem hpx_impl_PacketFault (fu : Nat) : ∀ f xs ins o, pcx_impl_PacketFault fu f xs ins = some o → ∀ y, o.x = some y → GoodX E Tryz.prog f xs ins (o.g y).1 (o.g y).2 := by
  intro f xs ins o h
  cases h
theorem goodv_impl_PacketFault (fu : Nat) (p_0 : S_impl_Packet) (y : Int) (hy : F_impl_PacketFault fu p_0 = some y) : Good E Tryz.prog 52 [(.agg [(.int .i64 p_0.From), (.int .i64 p_0.To), (.int .i64 p_0.Proto), (.int .i64 p_0.FromP), (.int .i64 p_0.ToP), (.rs p_0.Load.z .u8 p_0.Load.n p_0.Load.f)])] (enc_i64 y) :=
  fun_good E_ok (pc_good (pc := pc_impl_PacketFault fu) (hpc_impl_PacketFault fu) (hpx_impl_PacketFault fu)) (fn := Tryz.f52) (c := body_impl_PacketFault) (out := out_i64) (y := y) (by kernel_rfl) (by kernel_rfl) (by kernel_rfl) (lpok_impl_PacketFault fu) (fun d hd => out_i64_enc d _ hd) ((ev_impl_PacketFault fu p_0).trans hy)
theorem good_impl_PacketFault (fu : Nat) : ∀ xs o, S_impl_PacketFault fu xs = some o → ∀ y, o.x = some y → Good E Tryz.prog 52 xs (o.g y) := by
  intro xs o h y hy
  unfold S_impl_PacketFault at h
  split at h
  · rename_i a0_1 a0_2 a0_3 a0_4 a0_5 za0_6 na0_6 fa0_6
    cases h
    exact goodv_impl_PacketFault fu (⟨a0_1, a0_2, a0_3, a0_4, a0_5, (⟨za0_6, na0_6, fa0_6⟩ : (Sl Int))⟩ : S_impl_Packet) y hy
  · cases h

/-! impl.isFlow -/
def F_impl_isFlow (fu : Nat) (f_0 : S_impl_Flow) : Option (Bool) :=
  ((F_impl_PacketFault fu (⟨f_0.From, f_0.To, f_0.Proto, f_0.FromP, f_0.ToP, (⟨(some true), 0, (fun _ => dflt .u8)⟩ : (Sl Int))⟩ : S_impl_Packet)).bind fun y336 => (some (y336 == 0)))
def pcf_impl_isFlow (fu : Nat) (f : Nat) (xs : List (D RT den)) : Option (Out RT den) := match f with | 52 => S_impl_PacketFault fu xs | _ => none
def pcx_impl_isFlow (fu : Nat) (f : Nat) (xs : List (D RT den)) (ins : List (Ob RT den)) : Option (OutX RT den) := none
def pc_impl_isFlow (fu : Nat) : Pc RT den := ⟨pcf_impl_isFlow fu, fun _ => false, fun _ => false, pcx_impl_isFlow fu⟩
def msk_impl_isFlow (b : Nat) : List Nat := []
def lp_impl_isFlow (fu : Nat) : Lp RT den (Bool) := fun b s k => none
theorem ev_impl_isFlow (fu : Nat) (f_0 : S_impl_Flow) : evFun E (pc_impl_isFlow fu) msk_impl_isFlow (lp_impl_isFlow fu) out_bo 27 [(.agg [(.int .i64 f_0.From), (.int .i64 f_0.To), (.int .i64 f_0.Proto), (.int .i64 f_0.FromP), (.int .i64 f_0.ToP)])] = F_impl_isFlow fu f_0 := by kernel_rfl
noncomputable def body_impl_isFlow : Code := Tryz.f27.body.getD .skip
theorem lpok_impl_isFlow (fu : Nat) : LpOk E (pc_impl_isFlow fu) msk_impl_isFlow (lp_impl_isFlow fu) (loops 0 body_impl_isFlow) := by
  have h : loops 0 body_impl_isFlow = [] := by kernel_rfl
  rw [h]; intro p hp; cases hp
def S_impl_isFlow (fu : Nat) (xs : List (D RT den)) : Option (Out RT den) := match xs with | [.agg [.int .i64 a0_1, .int .i64 a0_2, .int .i64 a0_3, .int .i64 a0_4, .int .i64 a0_5]] => some ⟨Bool, F_impl_isFlow fu (⟨a0_1, a0_2, a0_3, a0_4, a0_5⟩ : S_impl_Flow), enc_bo, fun _ => true⟩ | _ => none
theorem hpc_impl_isFlow (fu : Nat) : ∀ f xs o, pcf_impl_isFlow fu f xs = some o → ∀ y, o.x = some y → Good E Tryz.prog f xs (o.g y) := by
  intro f xs o h
  unfold pcf_impl_isFlow at h
  split at h
  · exact good_impl_PacketFault fu xs o h
  · cases h
theorem hpx_impl_isFlow (fu : Nat) : ∀ f xs ins o, pcx_impl_isFlow fu f xs ins = some o → ∀ y, o.x = some y → GoodX E Tryz.prog f xs ins (o.g y).1 (o.g y).2 := by
  intro f xs ins o h
  cases h
theorem goodv_impl_isFlow (fu : Nat) (f_0 : S_impl_Flow) (y : Bool) (hy : F_impl_isFlow fu f_0 = some y) : Good E Tryz.prog 27 [(.agg [(.int .i64 f_0.From), (.int .i64 f_0.To), (.int .i64 f_0.Proto), (.int .i64 f_0.FromP), (.int .i64 f_0.ToP)])] (enc_bo y) :=
  fun_good E_ok (pc_good (pc := pc_impl_isFlow fu) (hpc_impl_isFlow fu) (hpx_impl_isFlow fu)) (fn := Tryz.f27) (c := body_impl_isFlow) (out := out_bo) (y := y) (by kernel_rfl) (by kernel_rfl) (by kernel_rfl) (lpok_impl_isFlow fu) (fun d hd => out_bo_enc d _ hd) ((ev_impl_isFlow fu f_0).trans hy)
theorem good_impl_isFlow (fu : Nat) : ∀ xs o, S_impl_isFlow fu xs = some o → ∀ y, o.x = some y → Good E Tryz.prog 27 xs (o.g y) := by
  intro xs o h y hy
  unfold S_impl_isFlow at h
  split at h
  · rename_i a0_1 a0_2 a0_3 a0_4 a0_5
    cases h
    exact goodv_impl_isFlow fu (⟨a0_1, a0_2, a0_3, a0_4, a0_5⟩ : S_impl_Flow) y hy
  · cases h

/-! (*impl.Config).vip'1 -/
def F_impl_Config_vip_c1 (fu : Nat) (v_0 : S_impl_Vip) (x_1_1 : Int) (x_2_2 : Int) (x_3_3 : Int) : Option (Bool) :=
  (((bif (v_0.Address == x_1_1) then (bif (v_0.Port == x_2_2) then (some (v_0.Proto == x_3_3)) else (some false)) else (some false)) : Option Bool).bind fun m351 => (some m351))
def pcf_impl_Config_vip_c1 (fu : Nat) (f : Nat) (xs : List (D RT den)) : Option (Out RT den) := none
def pcx_impl_Config_vip_c1 (fu : Nat) (f : Nat) (xs : List (D RT den)) (ins : List (Ob RT den)) : Option (OutX RT den) := none
def pc_impl_Config_vip_c1 (fu : Nat) : Pc RT den := ⟨pcf_impl_Config_vip_c1 fu, fun _ => false, fun _ => false, pcx_impl_Config_vip_c1 fu⟩
def msk_impl_Config_vip_c1 (b : Nat) : List Nat := match b with | 200001 => [5] | _ => []
def lp_impl_Config_vip_c1 (fu : Nat) : Lp RT den (Bool) := fun b s k => none
theorem ev_impl_Config_vip_c1 (fu : Nat) (v_0 : S_impl_Vip) (x_1_1 : Int) (x_2_2 : Int) (x_3_3 : Int) : evFun E (pc_impl_Config_vip_c1 fu) msk_impl_Config_vip_c1 (lp_impl_Config_vip_c1 fu) out_bo 107 [(.agg [(.int .i64 v_0.Address), (.int .i64 v_0.Port), (.int .i64 v_0.Proto), (.rs v_0.Names.z .i64 v_0.Names.n v_0.Names.f)]), (.rptr [(.int .i64 x_1_1)]), (.rptr [(.int .i64 x_2_2)]), (.rptr [(.int .i64 x_3_3)])] = F_impl_Config_vip_c1 fu v_0 x_1_1 x_2_2 x_3_3 := by kernel_rfl
noncomputable def body_impl_Config_vip_c1 : Code := Tryz.f107.body.getD .skip
theorem lpok_impl_Config_vip_c1 (fu : Nat) : LpOk E (pc_impl_Config_vip_c1 fu) msk_impl_Config_vip_c1 (lp_impl_Config_vip_c1 fu) (loops 0 body_impl_Config_vip_c1) := by
  have h : loops 0 body_impl_Config_vip_c1 = [] := by kernel_rfl
  rw [h]; intro p hp; cases hp
def S_impl_Config_vip_c1 (fu : Nat) (xs : List (D RT den)) : Option (Out RT den) := match xs with | [.agg [.int .i64 a0_1, .int .i64 a0_2, .int .i64 a0_3, .rs za0_4 .i64 na0_4 fa0_4], .rptr [.int .i64 a1_0], .rptr [.int .i64 a2_0], .rptr [.int .i64 a3_0]] => some ⟨Bool, F_impl_Config_vip_c1 fu (⟨a0_1, a0_2, a0_3, (⟨za0_4, na0_4, fa0_4⟩ : (Sl Int))⟩ : S_impl_Vip) a1_0 a2_0 a3_0, enc_bo, fun _ => true⟩ | _ => none
theorem hpc_impl_Config_vip_c1 (fu : Nat) : ∀ f xs o, pcf_impl_Config_vip_c1 fu f xs = some o → ∀ y, o.x = some y → Good E Tryz.prog f xs (o.g y) := by
  intro f xs o h
  cases h
theorem hpx_impl_Config_vip_c1 (fu : Nat) : ∀ f xs ins o, pcx_impl_Config_vip_c1 fu f xs ins = some o → ∀ y, o.x = some y → GoodX E Tryz.prog f xs ins (o.g y).1 (o.g y).2 := by
  intro f xs ins o h
  cases h
theorem goodv_impl_Config_vip_c1 (fu : Nat) (v_0 : S_impl_Vip) (x_1_1 : Int) (x_2_2 : Int) (x_3_3 : Int) (y : Bool) (hy : F_impl_Config_vip_c1 fu v_0 x_1_1 x_2_2 x_3_3 = some y) : Good E Tryz.prog 107 [(.agg [(.int .i64 v_0.Address), (.int .i64 v_0.Port), (.int .i64 v_0.Proto), (.rs v_0.Names.z .i64 v_0.Names.n v_0.Names.f)]), (.rptr [(.int .i64 x_1_1)]), (.rptr [(.int .i64 x_2_2)]), (.rptr [(.int .i64 x_3_3)])] (enc_bo y) :=
  fun_good E_ok (pc_good (pc := pc_impl_Config_vip_c1 fu) (hpc_impl_Config_vip_c1 fu) (hpx_impl_Config_vip_c1 fu)) (fn := Tryz.f107) (c := body_impl_Config_vip_c1) (out := out_bo) (y := y) (by kernel_rfl) (by kernel_rfl) (by kernel_rfl) (lpok_impl_Config_vip_c1 fu) (fun d hd => out_bo_enc d _ hd) ((ev_impl_Config_vip_c1 fu v_0 x_1_1 x_2_2 x_3_3).trans hy)
theorem good_impl_Config_vip_c1 (fu : Nat) : ∀ xs o, S_impl_Config_vip_c1 fu xs = some o → ∀ y, o.x = some y → Good E Tryz.prog 107 xs (o.g y) := by
  intro xs o h y hy
  unfold S_impl_Config_vip_c1 at h
  split at h
  · rename_i a0_1 a0_2 a0_3 za0_4 na0_4 fa0_4 a1_0 a2_0 a3_0
    cases h
    exact goodv_impl_Config_vip_c1 fu (⟨a0_1, a0_2, a0_3, (⟨za0_4, na0_4, fa0_4⟩ : (Sl Int))⟩ : S_impl_Vip) a1_0 a2_0 a3_0 y hy
  · cases h

/-! slices.IndexFunc[[]impl.Vip,impl.Vip] -/
def F_slices_IndexFunc_impl_Vip_impl_Vip_w_impl_Config_vip_c1_B0 {ρ : Type} (fu : Nat) (s0_0 : (Sl S_impl_Vip)) (f1_1 : Int) (f1_2 : Int) (f1_3 : Int) (t7_4 : Int) (k0 : Int → Option ρ) (k1 : Option ρ) (t8_5 : Int) (go : Int → Option ρ) : Option ρ :=
  (bif (decide (t8_5 < t7_4)) then ((bif (decide (0 ≤ t8_5) && decide ((Int.toNat t8_5) < s0_0.n)) then some () else none : Option Unit).bind fun _ => ((F_impl_Config_vip_c1 fu (s0_0.f (Int.toNat t8_5)) f1_1 f1_2 f1_3).bind fun y349 =>
    (bif y349 then (k0 t8_5) else (go (IntKind.wrap .i64 (t8_5 + 1)))))) else k1)
def F_slices_IndexFunc_impl_Vip_impl_Vip_w_impl_Config_vip_c1 (fu : Nat) (s_0 : (Sl S_impl_Vip)) (f_1_1 : Int) (f_1_2 : Int) (f_1_3 : Int) : Option (Int) :=
  (L (fun w0 go0 => F_slices_IndexFunc_impl_Vip_impl_Vip_w_impl_Config_vip_c1_B0 fu s_0 f_1_1 f_1_2 f_1_3 ((s_0.n : Nat) : Int) (fun z350 => (some z350)) (some (-1)) w0 go0) fu (0 : Int))
def pcf_slices_IndexFunc_impl_Vip_impl_Vip_w_impl_Config_vip_c1 (fu : Nat) (f : Nat) (xs : List (D RT den)) : Option (Out RT den) := match f with | 107 => S_impl_Config_vip_c1 fu xs | _ => none
def pcx_slices_IndexFunc_impl_Vip_impl_Vip_w_impl_Config_vip_c1 (fu : Nat) (f : Nat) (xs : List (D RT den)) (ins : List (Ob RT den)) : Option (OutX RT den) := none
def pc_slices_IndexFunc_impl_Vip_impl_Vip_w_impl_Config_vip_c1 (fu : Nat) : Pc RT den := ⟨pcf_slices_IndexFunc_impl_Vip_impl_Vip_w_impl_Config_vip_c1 fu, fun _ => false, fun _ => false, pcx_slices_IndexFunc_impl_Vip_impl_Vip_w_impl_Config_vip_c1 fu⟩
def msk_slices_IndexFunc_impl_Vip_impl_Vip_w_impl_Config_vip_c1 (b : Nat) : List Nat := match b with | 0 => [2, 3, 4, 5, 6, 9, 10, 11, 12, 13, 14, 15, 16, 17, 18] | 100000 => [0, 1, 2, 3, 5, 6, 7, 8, 9, 10, 11, 12, 13, 14, 15, 16, 17, 18] | _ => []
def ps_slices_IndexFunc_impl_Vip_impl_Vip_w_impl_Config_vip_c1_0 : List (Pat RT) := [.flat (.rs .impl_Vip), .fn 107 [.rptr [(.int .i64)], .rptr [(.int .i64)], .rptr [(.int .i64)]], .flat .dead, .flat .dead, .flat .dead, .flat .dead, .flat .dead, .flat (.int .i64), .flat (.int .i64), .flat .dead, .flat .dead, .flat .dead, .flat .dead, .flat .dead, .flat .dead, .flat .dead, .flat .dead, .flat .dead, .flat .dead]
def os_slices_IndexFunc_impl_Vip_impl_Vip_w_impl_Config_vip_c1_0 : List (OP RT) := []
def conv_slices_IndexFunc_impl_Vip_impl_Vip_w_impl_Config_vip_c1_0 (r : Raw den ps_slices_IndexFunc_impl_Vip_impl_Vip_w_impl_Config_vip_c1_0 os_slices_IndexFunc_impl_Vip_impl_Vip_w_impl_Config_vip_c1_0) : ((Sl S_impl_Vip) × Int × Int × Int × Int) × (Int) := ((r.1.1, r.1.2.1.1.1, r.1.2.1.2.1.1, r.1.2.1.2.2.1.1, r.1.2.2.2.2.2.2.2.1), r.1.2.2.2.2.2.2.2.2.1)
def back_slices_IndexFunc_impl_Vip_impl_Vip_w_impl_Config_vip_c1_0 (c : (Sl S_impl_Vip) × Int × Int × Int × Int) (w : Int) : St RT den := ⟨[(.rs c.1.z .impl_Vip c.1.n c.1.f), (.fn 107 [(.rptr [(.int .i64 c.2.1)]), (.rptr [(.int .i64 c.2.2.1)]), (.rptr [(.int .i64 c.2.2.2.1)])]), .dead, .dead, .dead, .dead, .dead, (.int .i64 c.2.2.2.2), (.int .i64 w), .dead, .dead, .dead, .dead, .dead, .dead, .dead, .dead, .dead, .dead], []⟩
def Bk_slices_IndexFunc_impl_Vip_impl_Vip_w_impl_Config_vip_c1_0 {ρ : Type} (fu : Nat) (c : (Sl S_impl_Vip) × Int × Int × Int × Int) (k : Ex → St RT den → Option ρ) (w : Int) (go : (Int) → Option ρ) : Option ρ := F_slices_IndexFunc_impl_Vip_impl_Vip_w_impl_Config_vip_c1_B0 fu c.1 c.2.1 c.2.2.1 c.2.2.2.1 c.2.2.2.2 (fun a0 => k .ret ⟨[.dead, .dead, .dead, .dead, (.int .i64 a0), .dead, .dead, .dead, .dead, .dead, .dead, .dead, .dead, .dead, .dead, .dead, .dead, .dead, .dead], []⟩) (k (.exit 0) ⟨[.dead, .dead, .dead, .dead, .dead, .dead, .dead, .dead, .dead, .dead, .dead, .dead, .dead, .dead, .dead, .dead, .dead, .dead, .dead], []⟩) w go
def lp_slices_IndexFunc_impl_Vip_impl_Vip_w_impl_Config_vip_c1 (fu : Nat) : Lp RT den (Int) := fun b s k => match b with | 0 => handle ps_slices_IndexFunc_impl_Vip_impl_Vip_w_impl_Config_vip_c1_0 os_slices_IndexFunc_impl_Vip_impl_Vip_w_impl_Config_vip_c1_0 conv_slices_IndexFunc_impl_Vip_impl_Vip_w_impl_Config_vip_c1_0 (Bk_slices_IndexFunc_impl_Vip_impl_Vip_w_impl_Config_vip_c1_0 fu) fu s k | _ => none
theorem ev_slices_IndexFunc_impl_Vip_impl_Vip_w_impl_Config_vip_c1 (fu : Nat) (s_0 : (Sl S_impl_Vip)) (f_1_1 : Int) (f_1_2 : Int) (f_1_3 : Int) : evFun E (pc_slices_IndexFunc_impl_Vip_impl_Vip_w_impl_Config_vip_c1 fu) msk_slices_IndexFunc_impl_Vip_impl_Vip_w_impl_Config_vip_c1 (lp_slices_IndexFunc_impl_Vip_impl_Vip_w_impl_Config_vip_c1 fu) out_i64 106 [(.rs s_0.z .impl_Vip s_0.n s_0.f), (.fn 107 [(.rptr [(.int .i64 f_1_1)]), (.rptr [(.int .i64 f_1_2)]), (.rptr [(.int .i64 f_1_3)])])] = F_slices_IndexFunc_impl_Vip_impl_Vip_w_impl_Config_vip_c1 fu s_0 f_1_1 f_1_2 f_1_3 := by kernel_rfl
noncomputable def body_slices_IndexFunc_impl_Vip_impl_Vip_w_impl_Config_vip_c1 : Code := Tryz.f106.body.getD .skip
noncomputable def lc_slices_IndexFunc_impl_Vip_impl_Vip_w_impl_Config_vip_c1_0 : Code := ((loops 0 body_slices_IndexFunc_impl_Vip_impl_Vip_w_impl_Config_vip_c1).getD 0 (0, .skip)).2
theorem round_slices_IndexFunc_impl_Vip_impl_Vip_w_impl_Config_vip_c1_0 (fu : Nat) (it : St RT den → Option (Int)) (k : Ex → St RT den → Option (Int)) c w : evCode E (pc_slices_IndexFunc_impl_Vip_impl_Vip_w_impl_Config_vip_c1 fu) msk_slices_IndexFunc_impl_Vip_impl_Vip_w_impl_Config_vip_c1 (lp_slices_IndexFunc_impl_Vip_impl_Vip_w_impl_Config_vip_c1 fu) 0 lc_slices_IndexFunc_impl_Vip_impl_Vip_w_impl_Config_vip_c1_0 (back_slices_IndexFunc_impl_Vip_impl_Vip_w_impl_Config_vip_c1_0 c w) (after (msk_slices_IndexFunc_impl_Vip_impl_Vip_w_impl_Config_vip_c1 0) (msk_slices_IndexFunc_impl_Vip_impl_Vip_w_impl_Config_vip_c1 100000) 0 it k) = Bk_slices_IndexFunc_impl_Vip_impl_Vip_w_impl_Config_vip_c1_0 fu c k w (fun w => it (back_slices_IndexFunc_impl_Vip_impl_Vip_w_impl_Config_vip_c1_0 c w)) := by kernel_rfl
theorem lpok_slices_IndexFunc_impl_Vip_impl_Vip_w_impl_Config_vip_c1_0 (fu : Nat) : ∀ s k r, lp_slices_IndexFunc_impl_Vip_impl_Vip_w_impl_Config_vip_c1 fu 0 s k = some r → ∃ fuel, iter (msk_slices_IndexFunc_impl_Vip_impl_Vip_w_impl_Config_vip_c1 0) (msk_slices_IndexFunc_impl_Vip_impl_Vip_w_impl_Config_vip_c1 100000) s.objs.length (evCode E (pc_slices_IndexFunc_impl_Vip_impl_Vip_w_impl_Config_vip_c1 fu) msk_slices_IndexFunc_impl_Vip_impl_Vip_w_impl_Config_vip_c1 (lp_slices_IndexFunc_impl_Vip_impl_Vip_w_impl_Config_vip_c1 fu) 0 lc_slices_IndexFunc_impl_Vip_impl_Vip_w_impl_Config_vip_c1_0) fuel s k = some r :=
  handle_ok (ps := ps_slices_IndexFunc_impl_Vip_impl_Vip_w_impl_Config_vip_c1_0) (os := os_slices_IndexFunc_impl_Vip_impl_Vip_w_impl_Config_vip_c1_0) (conv := conv_slices_IndexFunc_impl_Vip_impl_Vip_w_impl_Config_vip_c1_0) (B := Bk_slices_IndexFunc_impl_Vip_impl_Vip_w_impl_Config_vip_c1_0 fu) (fu := fu) back_slices_IndexFunc_impl_Vip_impl_Vip_w_impl_Config_vip_c1_0 (fun raw => by kernel_rfl) 0 (fun c w => by kernel_rfl) (round_slices_IndexFunc_impl_Vip_impl_Vip_w_impl_Config_vip_c1_0 fu)
theorem lpok_slices_IndexFunc_impl_Vip_impl_Vip_w_impl_Config_vip_c1 (fu : Nat) : LpOk E (pc_slices_IndexFunc_impl_Vip_impl_Vip_w_impl_Config_vip_c1 fu) msk_slices_IndexFunc_impl_Vip_impl_Vip_w_impl_Config_vip_c1 (lp_slices_IndexFunc_impl_Vip_impl_Vip_w_impl_Config_vip_c1 fu) (loops 0 body_slices_IndexFunc_impl_Vip_impl_Vip_w_impl_Config_vip_c1) := loop_all 1 (by kernel_rfl) fun i hi => match i, hi with
  | 0, _ => by
    have h : (loops 0 body_slices_IndexFunc_impl_Vip_impl_Vip_w_impl_Config_vip_c1).getD 0 (0, .skip) = (0, lc_slices_IndexFunc_impl_Vip_impl_Vip_w_impl_Config_vip_c1_0) := by kernel_rfl
    rw [h]; exact lpok_slices_IndexFunc_impl_Vip_impl_Vip_w_impl_Config_vip_c1_0 fu
  | i + 1, hi => absurd hi (by omega)
def S_slices_IndexFunc_impl_Vip_impl_Vip_w_impl_Config_vip_c1 (fu : Nat) (xs : List (D RT den)) : Option (Out RT den) := match xs with | [.rs za0_0 .impl_Vip na0_0 fa0_0, .fn 107 [.rptr [.int .i64 a1_0], .rptr [.int .i64 a1_1], .rptr [.int .i64 a1_2]]] => some ⟨Int, F_slices_IndexFunc_impl_Vip_impl_Vip_w_impl_Config_vip_c1 fu (⟨za0_0, na0_0, fa0_0⟩ : (Sl S_impl_Vip)) a1_0 a1_1 a1_2, enc_i64, fun _ => true⟩ | _ => none
theorem hpc_slices_IndexFunc_impl_Vip_impl_Vip_w_impl_Config_vip_c1 (fu : Nat) : ∀ f xs o, pcf_slices_IndexFunc_impl_Vip_impl_Vip_w_impl_Config_vip_c1 fu f xs = some o → ∀ y, o.x = some y → Good E Tryz.prog f xs (o.g y) := by
  intro f xs o h
  unfold pcf_slices_IndexFunc_impl_Vip_impl_Vip_w_impl_Config_vip_c1 at h
  split at h
  · exact good_impl_Config_vip_c1 fu xs o h
  · cases h
theorem hpx_slices_IndexFunc_impl_Vip_impl_Vip_w_impl_Config_vip_c1 (fu : Nat) : ∀ f xs ins o, pcx_slices_IndexFunc_impl_Vip_impl_Vip_w_impl_Config_vip_c1 fu f xs ins = some o → ∀ y, o.x = some y → GoodX E Tryz.prog f xs ins (o.g y).1 (o.g y).2 := by
  intro f xs ins o h
  cases h
theorem goodv_slices_IndexFunc_impl_Vip_impl_Vip_w_impl_Config_vip_c1 (fu : Nat) (s_0 : (Sl S_impl_Vip)) (f_1_1 : Int) (f_1_2 : Int) (f_1_3 : Int) (y : Int) (hy : F_slices_IndexFunc_impl_Vip_impl_Vip_w_impl_Config_vip_c1 fu s_0 f_1_1 f_1_2 f_1_3 = some y) : Good E Tryz.prog 106 [(.rs s_0.z .impl_Vip s_0.n s_0.f), (.fn 107 [(.rptr [(.int .i64 f_1_1)]), (.rptr [(.int .i64 f_1_2)]), (.rptr [(.int .i64 f_1_3)])])] (enc_i64 y) :=
  fun_good E_ok (pc_good (pc := pc_slices_IndexFunc_impl_Vip_impl_Vip_w_impl_Config_vip_c1 fu) (hpc_slices_IndexFunc_impl_Vip_impl_Vip_w_impl_Config_vip_c1 fu) (hpx_slices_IndexFunc_impl_Vip_impl_Vip_w_impl_Config_vip_c1 fu)) (fn := Tryz.f106) (c := body_slices_IndexFunc_impl_Vip_impl_Vip_w_impl_Config_vip_c1) (out := out_i64) (y := y) (by kernel_rfl) (by kernel_rfl) (by kernel_rfl) (lpok_slices_IndexFunc_impl_Vip_impl_Vip_w_impl_Config_vip_c1 fu) (fun d hd => out_i64_enc d _ hd) ((ev_slices_IndexFunc_impl_Vip_impl_Vip_w_impl_Config_vip_c1 fu s_0 f_1_1 f_1_2 f_1_3).trans hy)
theorem good_slices_IndexFunc_impl_Vip_impl_Vip_w_impl_Config_vip_c1 (fu : Nat) : ∀ xs o, S_slices_IndexFunc_impl_Vip_impl_Vip_w_impl_Config_vip_c1 fu xs = some o → ∀ y, o.x = some y → Good E Tryz.prog 106 xs (o.g y) := by
  intro xs o h y hy
  unfold S_slices_IndexFunc_impl_Vip_impl_Vip_w_impl_Config_vip_c1 at h
  split at h
  · rename_i za0_0 na0_0 fa0_0 a1_0 a1_1 a1_2
    cases h
    exact goodv_slices_IndexFunc_impl_Vip_impl_Vip_w_impl_Config_vip_c1 fu (⟨za0_0, na0_0, fa0_0⟩ : (Sl S_impl_Vip)) a1_0 a1_1 a1_2 y hy
  · cases h

/-! (*impl.Config).vip -/
def F_impl_Config_vip (fu : Nat) (c_0 : S_impl_Config) (address_1 : Int) (port_2 : Int) (proto_3 : Int) : Option (Int) :=
  ((F_slices_IndexFunc_impl_Vip_impl_Vip_w_impl_Config_vip_c1 fu c_0.Vips address_1 port_2 proto_3).bind fun y348 => (some y348))
def pcf_impl_Config_vip (fu : Nat) (f : Nat) (xs : List (D RT den)) : Option (Out RT den) := match f with | 106 => S_slices_IndexFunc_impl_Vip_impl_Vip_w_impl_Config_vip_c1 fu xs | _ => none
def pcx_impl_Config_vip (fu : Nat) (f : Nat) (xs : List (D RT den)) (ins : List (Ob RT den)) : Option (OutX RT den) := none
def pc_impl_Config_vip (fu : Nat) : Pc RT den := ⟨pcf_impl_Config_vip fu, fun _ => false, fun _ => false, pcx_impl_Config_vip fu⟩
def msk_impl_Config_vip (b : Nat) : List Nat := []
def lp_impl_Config_vip (fu : Nat) : Lp RT den (Int) := fun b s k => none
theorem ev_impl_Config_vip (fu : Nat) (c_0 : S_impl_Config) (address_1 : Int) (port_2 : Int) (proto_3 : Int) : evFun E (pc_impl_Config_vip fu) msk_impl_Config_vip (lp_impl_Config_vip fu) out_i64 81 [(.rptr [(.int .i64 c_0.Version), (.rs c_0.Backends.z .impl_Backend c_0.Backends.n c_0.Backends.f), (.rs c_0.Vips.z .impl_Vip c_0.Vips.n c_0.Vips.f)]), (.int .i64 address_1), (.int .i64 port_2), (.int .i64 proto_3)] = F_impl_Config_vip fu c_0 address_1 port_2 proto_3 := by kernel_rfl
noncomputable def body_impl_Config_vip : Code := Tryz.f81.body.getD .skip
theorem lpok_impl_Config_vip (fu : Nat) : LpOk E (pc_impl_Config_vip fu) msk_impl_Config_vip (lp_impl_Config_vip fu) (loops 0 body_impl_Config_vip) := by
  have h : loops 0 body_impl_Config_vip = [] := by kernel_rfl
  rw [h]; intro p hp; cases hp
def S_impl_Config_vip (fu : Nat) (xs : List (D RT den)) : Option (Out RT den) := match xs with | [.rptr (.int .i64 a0_1 :: .rs za0_2 .impl_Backend na0_2 fa0_2 :: .rs za0_3 .impl_Vip na0_3 fa0_3 :: ra0), .int .i64 a1_0, .int .i64 a2_0, .int .i64 a3_0] => some ⟨Int, F_impl_Config_vip fu (⟨a0_1, (⟨za0_2, na0_2, fa0_2⟩ : (Sl S_impl_Backend)), (⟨za0_3, na0_3, fa0_3⟩ : (Sl S_impl_Vip))⟩ : S_impl_Config) a1_0 a2_0 a3_0, enc_i64, fun _ => true⟩ | _ => none
theorem hpc_impl_Config_vip (fu : Nat) : ∀ f xs o, pcf_impl_Config_vip fu f xs = some o → ∀ y, o.x = some y → Good E Tryz.prog f xs (o.g y) := by
  intro f xs o h
  unfold pcf_impl_Config_vip at h
  split at h
  · exact good_slices_IndexFunc_impl_Vip_impl_Vip_w_impl_Config_vip_c1 fu xs o h
  · cases h
theorem hpx_impl_Config_vip (fu : Nat) : ∀ f xs ins o, pcx_impl_Config_vip fu f xs ins = some o → ∀ y, o.x = some y → GoodX E Tryz.prog f xs ins (o.g y).1 (o.g y).2 := by
  intro f xs ins o h
  cases h
theorem goodv_impl_Config_vip (fu : Nat) (c_0 : S_impl_Config) (address_1 : Int) (port_2 : Int) (proto_3 : Int) (y : Int) (hy : F_impl_Config_vip fu c_0 address_1 port_2 proto_3 = some y) : Good E Tryz.prog 81 [(.rptr [(.int .i64 c_0.Version), (.rs c_0.Backends.z .impl_Backend c_0.Backends.n c_0.Backends.f), (.rs c_0.Vips.z .impl_Vip c_0.Vips.n c_0.Vips.f)]), (.int .i64 address_1), (.int .i64 port_2), (.int .i64 proto_3)] (enc_i64 y) :=
  fun_good E_ok (pc_good (pc := pc_impl_Config_vip fu) (hpc_impl_Config_vip fu) (hpx_impl_Config_vip fu)) (fn := Tryz.f81) (c := body_impl_Config_vip) (out := out_i64) (y := y) (by kernel_rfl) (by kernel_rfl) (by kernel_rfl) (lpok_impl_Config_vip fu) (fun d hd => out_i64_enc d _ hd) ((ev_impl_Config_vip fu c_0 address_1 port_2 proto_3).trans hy)
theorem good_impl_Config_vip (fu : Nat) : ∀ xs o, S_impl_Config_vip fu xs = some o → ∀ y, o.x = some y → Good E Tryz.prog 81 xs (o.g y) := by
  intro xs o h y hy
  unfold S_impl_Config_vip at h
  split at h
  · rename_i a0_1 za0_2 na0_2 fa0_2 za0_3 na0_3 fa0_3 ra0 a1_0 a2_0 a3_0
    cases h
    exact (goodv_impl_Config_vip fu (⟨a0_1, (⟨za0_2, na0_2, fa0_2⟩ : (Sl S_impl_Backend)), (⟨za0_3, na0_3, fa0_3⟩ : (Sl S_impl_Vip))⟩ : S_impl_Config) a1_0 a2_0 a3_0 y hy).sub ⟨Sub.of_eq ra0 rfl, .refl _, .refl _, .refl _, trivial⟩
  · cases h

/-! (*impl.Config).vipOf -/
def F_impl_Config_vipOf (fu : Nat) (c_0 : S_impl_Config) (f_1 : S_impl_Flow) : Option (Int) :=
  ((F_impl_Config_vip fu c_0 f_1.To f_1.ToP f_1.Proto).bind fun y347 => (some y347))
def pcf_impl_Config_vipOf (fu : Nat) (f : Nat) (xs : List (D RT den)) : Option (Out RT den) := match f with | 81 => S_impl_Config_vip fu xs | _ => none
def pcx_impl_Config_vipOf (fu : Nat) (f : Nat) (xs : List (D RT den)) (ins : List (Ob RT den)) : Option (OutX RT den) := none
def pc_impl_Config_vipOf (fu : Nat) : Pc RT den := ⟨pcf_impl_Config_vipOf fu, fun _ => false, fun _ => false, pcx_impl_Config_vipOf fu⟩
def msk_impl_Config_vipOf (b : Nat) : List Nat := []
def lp_impl_Config_vipOf (fu : Nat) : Lp RT den (Int) := fun b s k => none
theorem ev_impl_Config_vipOf (fu : Nat) (c_0 : S_impl_Config) (f_1 : S_impl_Flow) : evFun E (pc_impl_Config_vipOf fu) msk_impl_Config_vipOf (lp_impl_Config_vipOf fu) out_i64 53 [(.rptr [(.int .i64 c_0.Version), (.rs c_0.Backends.z .impl_Backend c_0.Backends.n c_0.Backends.f), (.rs c_0.Vips.z .impl_Vip c_0.Vips.n c_0.Vips.f)]), (.agg [(.int .i64 f_1.From), (.int .i64 f_1.To), (.int .i64 f_1.Proto), (.int .i64 f_1.FromP), (.int .i64 f_1.ToP)])] = F_impl_Config_vipOf fu c_0 f_1 := by kernel_rfl
noncomputable def body_impl_Config_vipOf : Code := Tryz.f53.body.getD .skip
theorem lpok_impl_Config_vipOf (fu : Nat) : LpOk E (pc_impl_Config_vipOf fu) msk_impl_Config_vipOf (lp_impl_Config_vipOf fu) (loops 0 body_impl_Config_vipOf) := by
  have h : loops 0 body_impl_Config_vipOf = [] := by kernel_rfl
  rw [h]; intro p hp; cases hp
def S_impl_Config_vipOf (fu : Nat) (xs : List (D RT den)) : Option (Out RT den) := match xs with | [.rptr (.int .i64 a0_1 :: .rs za0_2 .impl_Backend na0_2 fa0_2 :: .rs za0_3 .impl_Vip na0_3 fa0_3 :: ra0), .agg [.int .i64 a1_1, .int .i64 a1_2, .int .i64 a1_3, .int .i64 a1_4, .int .i64 a1_5]] => some ⟨Int, F_impl_Config_vipOf fu (⟨a0_1, (⟨za0_2, na0_2, fa0_2⟩ : (Sl S_impl_Backend)), (⟨za0_3, na0_3, fa0_3⟩ : (Sl S_impl_Vip))⟩ : S_impl_Config) (⟨a1_1, a1_2, a1_3, a1_4, a1_5⟩ : S_impl_Flow), enc_i64, fun _ => true⟩ | _ => none
theorem hpc_impl_Config_vipOf (fu : Nat) : ∀ f xs o, pcf_impl_Config_vipOf fu f xs = some o → ∀ y, o.x = some y → Good E Tryz.prog f xs (o.g y) := by
  intro f xs o h
  unfold pcf_impl_Config_vipOf at h
  split at h
  · exact good_impl_Config_vip fu xs o h
  · cases h
theorem hpx_impl_Config_vipOf (fu : Nat) : ∀ f xs ins o, pcx_impl_Config_vipOf fu f xs ins = some o → ∀ y, o.x = some y → GoodX E Tryz.prog f xs ins (o.g y).1 (o.g y).2 := by
  intro f xs ins o h
  cases h
theorem goodv_impl_Config_vipOf (fu : Nat) (c_0 : S_impl_Config) (f_1 : S_impl_Flow) (y : Int) (hy : F_impl_Config_vipOf fu c_0 f_1 = some y) : Good E Tryz.prog 53 [(.rptr [(.int .i64 c_0.Version), (.rs c_0.Backends.z .impl_Backend c_0.Backends.n c_0.Backends.f), (.rs c_0.Vips.z .impl_Vip c_0.Vips.n c_0.Vips.f)]), (.agg [(.int .i64 f_1.From), (.int .i64 f_1.To), (.int .i64 f_1.Proto), (.int .i64 f_1.FromP), (.int .i64 f_1.ToP)])] (enc_i64 y) :=
  fun_good E_ok (pc_good (pc := pc_impl_Config_vipOf fu) (hpc_impl_Config_vipOf fu) (hpx_impl_Config_vipOf fu)) (fn := Tryz.f53) (c := body_impl_Config_vipOf) (out := out_i64) (y := y) (by kernel_rfl) (by kernel_rfl) (by kernel_rfl) (lpok_impl_Config_vipOf fu) (fun d hd => out_i64_enc d _ hd) ((ev_impl_Config_vipOf fu c_0 f_1).trans hy)
theorem good_impl_Config_vipOf (fu : Nat) : ∀ xs o, S_impl_Config_vipOf fu xs = some o → ∀ y, o.x = some y → Good E Tryz.prog 53 xs (o.g y) := by
  intro xs o h y hy
  unfold S_impl_Config_vipOf at h
  split at h
  · rename_i a0_1 za0_2 na0_2 fa0_2 za0_3 na0_3 fa0_3 ra0 a1_1 a1_2 a1_3 a1_4 a1_5
    cases h
    exact (goodv_impl_Config_vipOf fu (⟨a0_1, (⟨za0_2, na0_2, fa0_2⟩ : (Sl S_impl_Backend)), (⟨za0_3, na0_3, fa0_3⟩ : (Sl S_impl_Vip))⟩ : S_impl_Config) (⟨a1_1, a1_2, a1_3, a1_4, a1_5⟩ : S_impl_Flow) y hy).sub ⟨Sub.of_eq ra0 rfl, .refl _, trivial⟩
  · cases h

/-! slices.Index[[]int64,int64] -/
def F_slices_Index_int64_int64_B0 {ρ : Type} (fu : Nat) (s0_0 : (Sl Int)) (v1_1 : Int) (t7_2 : Int) (k0 : Int → Option ρ) (k1 : Option ρ) (t8_3 : Int) (go : Int → Option ρ) : Option ρ :=
  (bif (decide (t8_3 < t7_2)) then ((bif (decide (0 ≤ t8_3) && decide ((Int.toNat t8_3) < s0_0.n)) then some () else none : Option Unit).bind fun _ => (bif (v1_1 == (s0_0.f (Int.toNat t8_3))) then
    (k0 t8_3) else (go (IntKind.wrap .i64 (t8_3 + 1))))) else k1)
def F_slices_Index_int64_int64 (fu : Nat) (s_0 : (Sl Int)) (v_1 : Int) : Option (Int) :=
  (L (fun w0 go0 => F_slices_Index_int64_int64_B0 fu s_0 v_1 ((s_0.n : Nat) : Int) (fun z353 => (some z353)) (some (-1)) w0 go0) fu (0 : Int))
def pcf_slices_Index_int64_int64 (fu : Nat) (f : Nat) (xs : List (D RT den)) : Option (Out RT den) := none
def pcx_slices_Index_int64_int64 (fu : Nat) (f : Nat) (xs : List (D RT den)) (ins : List (Ob RT den)) : Option (OutX RT den) := none
def pc_slices_Index_int64_int64 (fu : Nat) : Pc RT den := ⟨pcf_slices_Index_int64_int64 fu, fun _ => false, fun _ => false, pcx_slices_Index_int64_int64 fu⟩
def msk_slices_Index_int64_int64 (b : Nat) : List Nat := match b with | 0 => [2, 3, 4, 5, 6, 9, 10, 11, 12, 13, 14, 15, 16, 17, 18] | 100000 => [0, 1, 2, 3, 5, 6, 7, 8, 9, 10, 11, 12, 13, 14, 15, 16, 17, 18] | _ => []
def ps_slices_Index_int64_int64_0 : List (Pat RT) := [.flat (.rs .i64), .flat (.int .i64), .flat .dead, .flat .dead, .flat .dead, .flat .dead, .flat .dead, .flat (.int .i64), .flat (.int .i64), .flat .dead, .flat .dead, .flat .dead, .flat .dead, .flat .dead, .flat .dead, .flat .dead, .flat .dead, .flat .dead, .flat .dead]
def os_slices_Index_int64_int64_0 : List (OP RT) := []
def conv_slices_Index_int64_int64_0 (r : Raw den ps_slices_Index_int64_int64_0 os_slices_Index_int64_int64_0) : ((Sl Int) × Int × Int) × (Int) := ((r.1.1, r.1.2.1, r.1.2.2.2.2.2.2.2.1), r.1.2.2.2.2.2.2.2.2.1)
def back_slices_Index_int64_int64_0 (c : (Sl Int) × Int × Int) (w : Int) : St RT den := ⟨[(.rs c.1.z .i64 c.1.n c.1.f), (.int .i64 c.2.1), .dead, .dead, .dead, .dead, .dead, (.int .i64 c.2.2), (.int .i64 w), .dead, .dead, .dead, .dead, .dead, .dead, .dead, .dead, .dead, .dead], []⟩
def Bk_slices_Index_int64_int64_0 {ρ : Type} (fu : Nat) (c : (Sl Int) × Int × Int) (k : Ex → St RT den → Option ρ) (w : Int) (go : (Int) → Option ρ) : Option ρ := F_slices_Index_int64_int64_B0 fu c.1 c.2.1 c.2.2 (fun a0 => k .ret ⟨[.dead, .dead, .dead, .dead, (.int .i64 a0), .dead, .dead, .dead, .dead, .dead, .dead, .dead, .dead, .dead, .dead, .dead, .dead, .dead, .dead], []⟩) (k (.exit 0) ⟨[.dead, .dead, .dead, .dead, .dead, .dead, .dead, .dead, .dead, .dead, .dead, .dead, .dead, .dead, .dead, .dead, .dead, .dead, .dead], []⟩) w go
def lp_slices_Index_int64_int64 (fu : Nat) : Lp RT den (Int) := fun b s k => match b with | 0 => handle ps_slices_Index_int64_int64_0 os_slices_Index_int64_int64_0 conv_slices_Index_int64_int64_0 (Bk_slices_Index_int64_int64_0 fu) fu s k | _ => none
theorem ev_slices_Index_int64_int64 (fu : Nat) (s_0 : (Sl Int)) (v_1 : Int) : evFun E (pc_slices_Index_int64_int64 fu) msk_slices_Index_int64_int64 (lp_slices_Index_int64_int64 fu) out_i64 84 [(.rs s_0.z .i64 s_0.n s_0.f), (.int .i64 v_1)] = F_slices_Index_int64_int64 fu s_0 v_1 := by kernel_rfl
noncomputable def body_slices_Index_int64_int64 : Code := Tryz.f84.body.getD .skip
noncomputable def lc_slices_Index_int64_int64_0 : Code := ((loops 0 body_slices_Index_int64_int64).getD 0 (0, .skip)).2
theorem round_slices_Index_int64_int64_0 (fu : Nat) (it : St RT den → Option (Int)) (k : Ex → St RT den → Option (Int)) c w : evCode E (pc_slices_Index_int64_int64 fu) msk_slices_Index_int64_int64 (lp_slices_Index_int64_int64 fu) 0 lc_slices_Index_int64_int64_0 (back_slices_Index_int64_int64_0 c w) (after (msk_slices_Index_int64_int64 0) (msk_slices_Index_int64_int64 100000) 0 it k) = Bk_slices_Index_int64_int64_0 fu c k w (fun w => it (back_slices_Index_int64_int64_0 c w)) := by kernel_rfl
theorem lpok_slices_Index_int64_int64_0 (fu : Nat) : ∀ s k r, lp_slices_Index_int64_int64 fu 0 s k = some r → ∃ fuel, iter (msk_slices_Index_int64_int64 0) (msk_slices_Index_int64_int64 100000) s.objs.length (evCode E (pc_slices_Index_int64_int64 fu) msk_slices_Index_int64_int64 (lp_slices_Index_int64_int64 fu) 0 lc_slices_Index_int64_int64_0) fuel s k = some r :=
  handle_ok (ps := ps_slices_Index_int64_int64_0) (os := os_slices_Index_int64_int64_0) (conv := conv_slices_Index_int64_int64_0) (B := Bk_slices_Index_int64_int64_0 fu) (fu := fu) back_slices_Index_int64_int64_0 (fun raw => by kernel_rfl) 0 (fun c w => by kernel_rfl) (round_slices_Index_int64_int64_0 fu)
theorem lpok_slices_Index_int64_int64 (fu : Nat) : LpOk E (pc_slices_Index_int64_int64 fu) msk_slices_Index_int64_int64 (lp_slices_Index_int64_int64 fu) (loops 0 body_slices_Index_int64_int64) := loop_all 1 (by kernel_rfl) fun i hi => match i, hi with
  | 0, _ => by
    have h : (loops 0 body_slices_Index_int64_int64).getD 0 (0, .skip) = (0, lc_slices_Index_int64_int64_0) := by kernel_rfl
    rw [h]; exact lpok_slices_Index_int64_int64_0 fu
  | i + 1, hi => absurd hi (by omega)
def S_slices_Index_int64_int64 (fu : Nat) (xs : List (D RT den)) : Option (Out RT den) := match xs with | [.rs za0_0 .i64 na0_0 fa0_0, .int .i64 a1_0] => some ⟨Int, F_slices_Index_int64_int64 fu (⟨za0_0, na0_0, fa0_0⟩ : (Sl Int)) a1_0, enc_i64, fun _ => true⟩ | _ => none
theorem hpc_slices_Index_int64_int64 (fu : Nat) : ∀ f xs o, pcf_slices_Index_int64_int64 fu f xs = some o → ∀ y, o.x = some y → Good E Tryz.prog f xs (o.g y) := by
  intro f xs o h
  cases h
theorem hpx_slices_Index_int64_int64 (fu : Nat) : ∀ f xs ins o, pcx_slices_Index_int64_int64 fu f xs ins = some o → ∀ y, o.x = some y → GoodX E Tryz.prog f xs ins (o.g y).1 (o.g y).2 := by
  intro f xs ins o h
  cases h
theorem goodv_slices_Index_int64_int64 (fu : Nat) (s_0 : (Sl Int)) (v_1 : Int) (y : Int) (hy : F_slices_Index_int64_int64 fu s_0 v_1 = some y) : Good E Tryz.prog 84 [(.rs s_0.z .i64 s_0.n s_0.f), (.int .i64 v_1)] (enc_i64 y) :=
  fun_good E_ok (pc_good (pc := pc_slices_Index_int64_int64 fu) (hpc_slices_Index_int64_int64 fu) (hpx_slices_Index_int64_int64 fu)) (fn := Tryz.f84) (c := body_slices_Index_int64_int64) (out := out_i64) (y := y) (by kernel_rfl) (by kernel_rfl) (by kernel_rfl) (lpok_slices_Index_int64_int64 fu) (fun d hd => out_i64_enc d _ hd) ((ev_slices_Index_int64_int64 fu s_0 v_1).trans hy)
theorem good_slices_Index_int64_int64 (fu : Nat) : ∀ xs o, S_slices_Index_int64_int64 fu xs = some o → ∀ y, o.x = some y → Good E Tryz.prog 84 xs (o.g y) := by
  intro xs o h y hy
  unfold S_slices_Index_int64_int64 at h
  split at h
  · rename_i za0_0 na0_0 fa0_0 a1_0
    cases h
    exact goodv_slices_Index_int64_int64 fu (⟨za0_0, na0_0, fa0_0⟩ : (Sl Int)) a1_0 y hy
  · cases h

/-! slices.Contains[[]int64,int64] -/
def F_slices_Contains_int64_int64 (fu : Nat) (s_0 : (Sl Int)) (v_1 : Int) : Option (Bool) :=
  ((F_slices_Index_int64_int64 fu s_0 v_1).bind fun y352 => (some (decide (y352 ≥ 0))))
def pcf_slices_Contains_int64_int64 (fu : Nat) (f : Nat) (xs : List (D RT den)) : Option (Out RT den) := match f with | 84 => S_slices_Index_int64_int64 fu xs | _ => none
def pcx_slices_Contains_int64_int64 (fu : Nat) (f : Nat) (xs : List (D RT den)) (ins : List (Ob RT den)) : Option (OutX RT den) := none
def pc_slices_Contains_int64_int64 (fu : Nat) : Pc RT den := ⟨pcf_slices_Contains_int64_int64 fu, fun _ => false, fun _ => false, pcx_slices_Contains_int64_int64 fu⟩
def msk_slices_Contains_int64_int64 (b : Nat) : List Nat := []
def lp_slices_Contains_int64_int64 (fu : Nat) : Lp RT den (Bool) := fun b s k => none
theorem ev_slices_Contains_int64_int64 (fu : Nat) (s_0 : (Sl Int)) (v_1 : Int) : evFun E (pc_slices_Contains_int64_int64 fu) msk_slices_Contains_int64_int64 (lp_slices_Contains_int64_int64 fu) out_bo 55 [(.rs s_0.z .i64 s_0.n s_0.f), (.int .i64 v_1)] = F_slices_Contains_int64_int64 fu s_0 v_1 := by kernel_rfl
noncomputable def body_slices_Contains_int64_int64 : Code := Tryz.f55.body.getD .skip
theorem lpok_slices_Contains_int64_int64 (fu : Nat) : LpOk E (pc_slices_Contains_int64_int64 fu) msk_slices_Contains_int64_int64 (lp_slices_Contains_int64_int64 fu) (loops 0 body_slices_Contains_int64_int64) := by
  have h : loops 0 body_slices_Contains_int64_int64 = [] := by kernel_rfl
  rw [h]; intro p hp; cases hp
def S_slices_Contains_int64_int64 (fu : Nat) (xs : List (D RT den)) : Option (Out RT den) := match xs with | [.rs za0_0 .i64 na0_0 fa0_0, .int .i64 a1_0] => some ⟨Bool, F_slices_Contains_int64_int64 fu (⟨za0_0, na0_0, fa0_0⟩ : (Sl Int)) a1_0, enc_bo, fun _ => true⟩ | _ => none
theorem hpc_slices_Contains_int64_int64 (fu : Nat) : ∀ f xs o, pcf_slices_Contains_int64_int64 fu f xs = some o → ∀ y, o.x = some y → Good E Tryz.prog f xs (o.g y) := by
  intro f xs o h
  unfold pcf_slices_Contains_int64_int64 at h
  split at h
  · exact good_slices_Index_int64_int64 fu xs o h
  · cases h
theorem hpx_slices_Contains_int64_int64 (fu : Nat) : ∀ f xs ins o, pcx_slices_Contains_int64_int64 fu f xs ins = some o → ∀ y, o.x = some y → GoodX E Tryz.prog f xs ins (o.g y).1 (o.g y).2 := by
  intro f xs ins o h
  cases h
theorem goodv_slices_Contains_int64_int64 (fu : Nat) (s_0 : (Sl Int)) (v_1 : Int) (y : Bool) (hy : F_slices_Contains_int64_int64 fu s_0 v_1 = some y) : Good E Tryz.prog 55 [(.rs s_0.z .i64 s_0.n s_0.f), (.int .i64 v_1)] (enc_bo y) :=
  fun_good E_ok (pc_good (pc := pc_slices_Contains_int64_int64 fu) (hpc_slices_Contains_int64_int64 fu) (hpx_slices_Contains_int64_int64 fu)) (fn := Tryz.f55) (c := body_slices_Contains_int64_int64) (out := out_bo) (y := y) (by kernel_rfl) (by kernel_rfl) (by kernel_rfl) (lpok_slices_Contains_int64_int64 fu) (fun d hd => out_bo_enc d _ hd) ((ev_slices_Contains_int64_int64 fu s_0 v_1).trans hy)
theorem good_slices_Contains_int64_int64 (fu : Nat) : ∀ xs o, S_slices_Contains_int64_int64 fu xs = some o → ∀ y, o.x = some y → Good E Tryz.prog 55 xs (o.g y) := by
  intro xs o h y hy
  unfold S_slices_Contains_int64_int64 at h
  split at h
  · rename_i za0_0 na0_0 fa0_0 a1_0
    cases h
    exact goodv_slices_Contains_int64_int64 fu (⟨za0_0, na0_0, fa0_0⟩ : (Sl Int)) a1_0 y hy
  · cases h

/-! (*impl.Config).serves -/
def F_impl_Config_serves (fu : Nat) (c_0 : S_impl_Config) (f_1 : S_impl_Flow) (name_2 : Int) : Option (Bool) :=
  ((F_impl_Config_vipOf fu c_0 f_1).bind fun y343 => ((F_impl_Config_backend fu c_0 name_2).bind fun y344 => (((bif (decide (y343 ≥ 0)) then (bif (decide (y344 ≥ 0)) then ((bif (decide (0 ≤ y343) &&
    decide ((Int.toNat y343) < c_0.Vips.n)) then some () else none : Option Unit).bind fun _ => ((F_slices_Contains_int64_int64 fu (c_0.Vips.f (Int.toNat y343)).Names name_2).bind fun y345 =>
    (bif y345 then ((bif (decide (0 ≤ y344) && decide ((Int.toNat y344) < c_0.Backends.n)) then some () else none : Option Unit).bind fun _ => (some ((c_0.Backends.f (Int.toNat y344)).Stage != 3))) else
    (some false)))) else (some false)) else (some false)) : Option Bool).bind fun m346 => (some m346))))
def pcf_impl_Config_serves (fu : Nat) (f : Nat) (xs : List (D RT den)) : Option (Out RT den) := match f with | 53 => S_impl_Config_vipOf fu xs | 54 => S_impl_Config_backend fu xs | 55 => S_slices_Contains_int64_int64 fu xs | _ => none
def pcx_impl_Config_serves (fu : Nat) (f : Nat) (xs : List (D RT den)) (ins : List (Ob RT den)) : Option (OutX RT den) := none
def pc_impl_Config_serves (fu : Nat) : Pc RT den := ⟨pcf_impl_Config_serves fu, fun _ => false, fun _ => false, pcx_impl_Config_serves fu⟩
def msk_impl_Config_serves (b : Nat) : List Nat := match b with | 200002 => [6] | _ => []
def lp_impl_Config_serves (fu : Nat) : Lp RT den (Bool) := fun b s k => none
theorem ev_impl_Config_serves (fu : Nat) (c_0 : S_impl_Config) (f_1 : S_impl_Flow) (name_2 : Int) : evFun E (pc_impl_Config_serves fu) msk_impl_Config_serves (lp_impl_Config_serves fu) out_bo 28 [(.rptr [(.int .i64 c_0.Version), (.rs c_0.Backends.z .impl_Backend c_0.Backends.n c_0.Backends.f), (.rs c_0.Vips.z .impl_Vip c_0.Vips.n c_0.Vips.f)]), (.agg [(.int .i64 f_1.From), (.int .i64 f_1.To), (.int .i64 f_1.Proto), (.int .i64 f_1.FromP), (.int .i64 f_1.ToP)]), (.int .i64 name_2)] = F_impl_Config_serves fu c_0 f_1 name_2 := by kernel_rfl
noncomputable def body_impl_Config_serves : Code := Tryz.f28.body.getD .skip
theorem lpok_impl_Config_serves (fu : Nat) : LpOk E (pc_impl_Config_serves fu) msk_impl_Config_serves (lp_impl_Config_serves fu) (loops 0 body_impl_Config_serves) := by
  have h : loops 0 body_impl_Config_serves = [] := by kernel_rfl
  rw [h]; intro p hp; cases hp
def S_impl_Config_serves (fu : Nat) (xs : List (D RT den)) : Option (Out RT den) := match xs with | [.rptr (.int .i64 a0_1 :: .rs za0_2 .impl_Backend na0_2 fa0_2 :: .rs za0_3 .impl_Vip na0_3 fa0_3 :: ra0), .agg [.int .i64 a1_1, .int .i64 a1_2, .int .i64 a1_3, .int .i64 a1_4, .int .i64 a1_5], .int .i64 a2_0] => some ⟨Bool, F_impl_Config_serves fu (⟨a0_1, (⟨za0_2, na0_2, fa0_2⟩ : (Sl S_impl_Backend)), (⟨za0_3, na0_3, fa0_3⟩ : (Sl S_impl_Vip))⟩ : S_impl_Config) (⟨a1_1, a1_2, a1_3, a1_4, a1_5⟩ : S_impl_Flow) a2_0, enc_bo, fun _ => true⟩ | _ => none
theorem hpc_impl_Config_serves (fu : Nat) : ∀ f xs o, pcf_impl_Config_serves fu f xs = some o → ∀ y, o.x = some y → Good E Tryz.prog f xs (o.g y) := by
  intro f xs o h
  unfold pcf_impl_Config_serves at h
  split at h
  · exact good_impl_Config_vipOf fu xs o h
  · exact good_impl_Config_backend fu xs o h
  · exact good_slices_Contains_int64_int64 fu xs o h
  · cases h
theorem hpx_impl_Config_serves (fu : Nat) : ∀ f xs ins o, pcx_impl_Config_serves fu f xs ins = some o → ∀ y, o.x = some y → GoodX E Tryz.prog f xs ins (o.g y).1 (o.g y).2 := by
  intro f xs ins o h
  cases h
theorem goodv_impl_Config_serves (fu : Nat) (c_0 : S_impl_Config) (f_1 : S_impl_Flow) (name_2 : Int) (y : Bool) (hy : F_impl_Config_serves fu c_0 f_1 name_2 = some y) : Good E Tryz.prog 28 [(.rptr [(.int .i64 c_0.Version), (.rs c_0.Backends.z .impl_Backend c_0.Backends.n c_0.Backends.f), (.rs c_0.Vips.z .impl_Vip c_0.Vips.n c_0.Vips.f)]), (.agg [(.int .i64 f_1.From), (.int .i64 f_1.To), (.int .i64 f_1.Proto), (.int .i64 f_1.FromP), (.int .i64 f_1.ToP)]), (.int .i64 name_2)] (enc_bo y) :=
  fun_good E_ok (pc_good (pc := pc_impl_Config_serves fu) (hpc_impl_Config_serves fu) (hpx_impl_Config_serves fu)) (fn := Tryz.f28) (c := body_impl_Config_serves) (out := out_bo) (y := y) (by kernel_rfl) (by kernel_rfl) (by kernel_rfl) (lpok_impl_Config_serves fu) (fun d hd => out_bo_enc d _ hd) ((ev_impl_Config_serves fu c_0 f_1 name_2).trans hy)
theorem good_impl_Config_serves (fu : Nat) : ∀ xs o, S_impl_Config_serves fu xs = some o → ∀ y, o.x = some y → Good E Tryz.prog 28 xs (o.g y) := by
  intro xs o h y hy
  unfold S_impl_Config_serves at h
  split at h
  · rename_i a0_1 za0_2 na0_2 fa0_2 za0_3 na0_3 fa0_3 ra0 a1_1 a1_2 a1_3 a1_4 a1_5 a2_0
    cases h
    exact (goodv_impl_Config_serves fu (⟨a0_1, (⟨za0_2, na0_2, fa0_2⟩ : (Sl S_impl_Backend)), (⟨za0_3, na0_3, fa0_3⟩ : (Sl S_impl_Vip))⟩ : S_impl_Config) (⟨a1_1, a1_2, a1_3, a1_4, a1_5⟩ : S_impl_Flow) a2_0 y hy).sub ⟨Sub.of_eq ra0 rfl, .refl _, .refl _, trivial⟩
  · cases h

/-! impl.MuxFault'1 -/
def F_impl_MuxFault_c1 (fu : Nat) (o_0 : S_impl_Held) (x_1_1 : Int) (x_1_2 : Int) (x_1_3 : Int) (x_1_4 : Int) (x_1_5 : Int) (x_1_6 : Int) (x_1_7 : Int) : Option (Bool) :=
  (some ((o_0.Flow.From == x_1_1) && ((o_0.Flow.To == x_1_2) && ((o_0.Flow.Proto == x_1_3) && ((o_0.Flow.FromP == x_1_4) && ((o_0.Flow.ToP == x_1_5) && true))))))
def pcf_impl_MuxFault_c1 (fu : Nat) (f : Nat) (xs : List (D RT den)) : Option (Out RT den) := none
def pcx_impl_MuxFault_c1 (fu : Nat) (f : Nat) (xs : List (D RT den)) (ins : List (Ob RT den)) : Option (OutX RT den) := none
def pc_impl_MuxFault_c1 (fu : Nat) : Pc RT den := ⟨pcf_impl_MuxFault_c1 fu, fun _ => false, fun _ => false, pcx_impl_MuxFault_c1 fu⟩
def msk_impl_MuxFault_c1 (b : Nat) : List Nat := []
def lp_impl_MuxFault_c1 (fu : Nat) : Lp RT den (Bool) := fun b s k => none
theorem ev_impl_MuxFault_c1 (fu : Nat) (o_0 : S_impl_Held) (x_1_1 : Int) (x_1_2 : Int) (x_1_3 : Int) (x_1_4 : Int) (x_1_5 : Int) (x_1_6 : Int) (x_1_7 : Int) : evFun E (pc_impl_MuxFault_c1 fu) msk_impl_MuxFault_c1 (lp_impl_MuxFault_c1 fu) out_bo 30 [(.agg [(.int .i64 o_0.Flow.From), (.int .i64 o_0.Flow.To), (.int .i64 o_0.Flow.Proto), (.int .i64 o_0.Flow.FromP), (.int .i64 o_0.Flow.ToP), (.int .i64 o_0.Name), (.int .i64 o_0.Seen)]), (.rptr [(.int .i64 x_1_1), (.int .i64 x_1_2), (.int .i64 x_1_3), (.int .i64 x_1_4), (.int .i64 x_1_5), (.int .i64 x_1_6), (.int .i64 x_1_7)])] = F_impl_MuxFault_c1 fu o_0 x_1_1 x_1_2 x_1_3 x_1_4 x_1_5 x_1_6 x_1_7 := by kernel_rfl
noncomputable def body_impl_MuxFault_c1 : Code := Tryz.f30.body.getD .skip
theorem lpok_impl_MuxFault_c1 (fu : Nat) : LpOk E (pc_impl_MuxFault_c1 fu) msk_impl_MuxFault_c1 (lp_impl_MuxFault_c1 fu) (loops 0 body_impl_MuxFault_c1) := by
  have h : loops 0 body_impl_MuxFault_c1 = [] := by kernel_rfl
  rw [h]; intro p hp; cases hp
def S_impl_MuxFault_c1 (fu : Nat) (xs : List (D RT den)) : Option (Out RT den) := match xs with | [.agg [.int .i64 a0_2, .int .i64 a0_3, .int .i64 a0_4, .int .i64 a0_5, .int .i64 a0_6, .int .i64 a0_7, .int .i64 a0_8], .rptr [.int .i64 a1_0, .int .i64 a1_1, .int .i64 a1_2, .int .i64 a1_3, .int .i64 a1_4, .int .i64 a1_5, .int .i64 a1_6]] => some ⟨Bool, F_impl_MuxFault_c1 fu (⟨(⟨a0_2, a0_3, a0_4, a0_5, a0_6⟩ : S_impl_Flow), a0_7, a0_8⟩ : S_impl_Held) a1_0 a1_1 a1_2 a1_3 a1_4 a1_5 a1_6, enc_bo, fun _ => true⟩ | _ => none
theorem hpc_impl_MuxFault_c1 (fu : Nat) : ∀ f xs o, pcf_impl_MuxFault_c1 fu f xs = some o → ∀ y, o.x = some y → Good E Tryz.prog f xs (o.g y) := by
  intro f xs o h
  cases h
theorem hpx_impl_MuxFault_c1 (fu : Nat) : ∀ f xs ins o, pcx_impl_MuxFault_c1 fu f xs ins = some o → ∀ y, o.x = some y → GoodX E Tryz.prog f xs ins (o.g y).1 (o.g y).2 := by
  intro f xs ins o h
  cases h
theorem goodv_impl_MuxFault_c1 (fu : Nat) (o_0 : S_impl_Held) (x_1_1 : Int) (x_1_2 : Int) (x_1_3 : Int) (x_1_4 : Int) (x_1_5 : Int) (x_1_6 : Int) (x_1_7 : Int) (y : Bool) (hy : F_impl_MuxFault_c1 fu o_0 x_1_1 x_1_2 x_1_3 x_1_4 x_1_5 x_1_6 x_1_7 = some y) : Good E Tryz.prog 30 [(.agg [(.int .i64 o_0.Flow.From), (.int .i64 o_0.Flow.To), (.int .i64 o_0.Flow.Proto), (.int .i64 o_0.Flow.FromP), (.int .i64 o_0.Flow.ToP), (.int .i64 o_0.Name), (.int .i64 o_0.Seen)]), (.rptr [(.int .i64 x_1_1), (.int .i64 x_1_2), (.int .i64 x_1_3), (.int .i64 x_1_4), (.int .i64 x_1_5), (.int .i64 x_1_6), (.int .i64 x_1_7)])] (enc_bo y) :=
  fun_good E_ok (pc_good (pc := pc_impl_MuxFault_c1 fu) (hpc_impl_MuxFault_c1 fu) (hpx_impl_MuxFault_c1 fu)) (fn := Tryz.f30) (c := body_impl_MuxFault_c1) (out := out_bo) (y := y) (by kernel_rfl) (by kernel_rfl) (by kernel_rfl) (lpok_impl_MuxFault_c1 fu) (fun d hd => out_bo_enc d _ hd) ((ev_impl_MuxFault_c1 fu o_0 x_1_1 x_1_2 x_1_3 x_1_4 x_1_5 x_1_6 x_1_7).trans hy)
theorem good_impl_MuxFault_c1 (fu : Nat) : ∀ xs o, S_impl_MuxFault_c1 fu xs = some o → ∀ y, o.x = some y → Good E Tryz.prog 30 xs (o.g y) := by
  intro xs o h y hy
  unfold S_impl_MuxFault_c1 at h
  split at h
  · rename_i a0_2 a0_3 a0_4 a0_5 a0_6 a0_7 a0_8 a1_0 a1_1 a1_2 a1_3 a1_4 a1_5 a1_6
    cases h
    exact goodv_impl_MuxFault_c1 fu (⟨(⟨a0_2, a0_3, a0_4, a0_5, a0_6⟩ : S_impl_Flow), a0_7, a0_8⟩ : S_impl_Held) a1_0 a1_1 a1_2 a1_3 a1_4 a1_5 a1_6 y hy
  · cases h

/-! slices.IndexFunc[[]impl.Held,impl.Held] -/
def F_slices_IndexFunc_impl_Held_impl_Held_w_impl_MuxFault_c1_B0 {ρ : Type} (fu : Nat) (s0_0 : (Sl S_impl_Held)) (f1_1 : Int) (f1_2 : Int) (f1_3 : Int) (f1_4 : Int) (f1_5 : Int) (f1_6 : Int) (f1_7 : Int) (t7_8 : Int) (k0 : Int → Option ρ) (k1 : Option ρ) (t8_9 : Int) (go : Int → Option ρ) : Option ρ :=
  (bif (decide (t8_9 < t7_8)) then ((bif (decide (0 ≤ t8_9) && decide ((Int.toNat t8_9) < s0_0.n)) then some () else none : Option Unit).bind fun _ => ((F_impl_MuxFault_c1 fu (s0_0.f (Int.toNat t8_9)) f1_1 f1_2 f1_3 f1_4 f1_5 f1_6 f1_7).bind fun y355 =>
    (bif y355 then (k0 t8_9) else (go (IntKind.wrap .i64 (t8_9 + 1)))))) else k1)
def F_slices_IndexFunc_impl_Held_impl_Held_w_impl_MuxFault_c1 (fu : Nat) (s_0 : (Sl S_impl_Held)) (f_1_1 : Int) (f_1_2 : Int) (f_1_3 : Int) (f_1_4 : Int) (f_1_5 : Int) (f_1_6 : Int) (f_1_7 : Int) : Option (Int) :=
  (L (fun w0 go0 => F_slices_IndexFunc_impl_Held_impl_Held_w_impl_MuxFault_c1_B0 fu s_0 f_1_1 f_1_2 f_1_3 f_1_4 f_1_5 f_1_6 f_1_7 ((s_0.n : Nat) : Int) (fun z356 => (some z356)) (some (-1)) w0 go0) fu (0 : Int))
def pcf_slices_IndexFunc_impl_Held_impl_Held_w_impl_MuxFault_c1 (fu : Nat) (f : Nat) (xs : List (D RT den)) : Option (Out RT den) := match f with | 30 => S_impl_MuxFault_c1 fu xs | _ => none
def pcx_slices_IndexFunc_impl_Held_impl_Held_w_impl_MuxFault_c1 (fu : Nat) (f : Nat) (xs : List (D RT den)) (ins : List (Ob RT den)) : Option (OutX RT den) := none
def pc_slices_IndexFunc_impl_Held_impl_Held_w_impl_MuxFault_c1 (fu : Nat) : Pc RT den := ⟨pcf_slices_IndexFunc_impl_Held_impl_Held_w_impl_MuxFault_c1 fu, fun _ => false, fun _ => false, pcx_slices_IndexFunc_impl_Held_impl_Held_w_impl_MuxFault_c1 fu⟩
def msk_slices_IndexFunc_impl_Held_impl_Held_w_impl_MuxFault_c1 (b : Nat) : List Nat := match b with | 0 => [2, 3, 4, 5, 6, 9, 10, 11, 12, 13, 14, 15, 16, 17, 18] | 100000 => [0, 1, 2, 3, 5, 6, 7, 8, 9, 10, 11, 12, 13, 14, 15, 16, 17, 18] | _ => []
def ps_slices_IndexFunc_impl_Held_impl_Held_w_impl_MuxFault_c1_0 : List (Pat RT) := [.flat (.rs .impl_Held), .fn 30 [.rptr [(.int .i64), (.int .i64), (.int .i64), (.int .i64), (.int .i64), (.int .i64), (.int .i64)]], .flat .dead, .flat .dead, .flat .dead, .flat .dead, .flat .dead, .flat (.int .i64), .flat (.int .i64), .flat .dead, .flat .dead, .flat .dead, .flat .dead, .flat .dead, .flat .dead, .flat .dead, .flat .dead, .flat .dead, .flat .dead]
def os_slices_IndexFunc_impl_Held_impl_Held_w_impl_MuxFault_c1_0 : List (OP RT) := []
def conv_slices_IndexFunc_impl_Held_impl_Held_w_impl_MuxFault_c1_0 (r : Raw den ps_slices_IndexFunc_impl_Held_impl_Held_w_impl_MuxFault_c1_0 os_slices_IndexFunc_impl_Held_impl_Held_w_impl_MuxFault_c1_0) : ((Sl S_impl_Held) × Int × Int × Int × Int × Int × Int × Int × Int) × (Int) := ((r.1.1, r.1.2.1.1.1, r.1.2.1.1.2.1, r.1.2.1.1.2.2.1, r.1.2.1.1.2.2.2.1, r.1.2.1.1.2.2.2.2.1, r.1.2.1.1.2.2.2.2.2.1, r.1.2.1.1.2.2.2.2.2.2.1, r.1.2.2.2.2.2.2.2.1), r.1.2.2.2.2.2.2.2.2.1)
def back_slices_IndexFunc_impl_Held_impl_Held_w_impl_MuxFault_c1_0 (c : (Sl S_impl_Held) × Int × Int × Int × Int × Int × Int × Int × Int) (w : Int) : St RT den := ⟨[(.rs c.1.z .impl_Held c.1.n c.1.f), (.fn 30 [(.rptr [(.int .i64 c.2.1), (.int .i64 c.2.2.1), (.int .i64 c.2.2.2.1), (.int .i64 c.2.2.2.2.1), (.int .i64 c.2.2.2.2.2.1), (.int .i64 c.2.2.2.2.2.2.1), (.int .i64 c.2.2.2.2.2.2.2.1)])]), .dead, .dead, .dead, .dead, .dead, (.int .i64 c.2.2.2.2.2.2.2.2), (.int .i64 w), .dead, .dead, .dead, .dead, .dead, .dead, .dead, .dead, .dead, .dead], []⟩
def Bk_slices_IndexFunc_impl_Held_impl_Held_w_impl_MuxFault_c1_0 {ρ : Type} (fu : Nat) (c : (Sl S_impl_Held) × Int × Int × Int × Int × Int × Int × Int × Int) (k : Ex → St RT den → Option ρ) (w : Int) (go : (Int) → Option ρ) : Option ρ := F_slices_IndexFunc_impl_Held_impl_Held_w_impl_MuxFault_c1_B0 fu c.1 c.2.1 c.2.2.1 c.2.2.2.1 c.2.2.2.2.1 c.2.2.2.2.2.1 c.2.2.2.2.2.2.1 c.2.2.2.2.2.2.2.1 c.2.2.2.2.2.2.2.2 (fun a0 => k .ret ⟨[.dead, .dead, .dead, .dead, (.int .i64 a0), .dead, .dead, .dead, .dead, .dead, .dead, .dead, .dead, .dead, .dead, .dead, .dead, .dead, .dead], []⟩) (k (.exit 0) ⟨[.dead, .dead, .dead, .dead, .dead, .dead, .dead, .dead, .dead, .dead, .dead, .dead, .dead, .dead, .dead, .dead, .dead, .dead, .dead], []⟩) w go
def lp_slices_IndexFunc_impl_Held_impl_Held_w_impl_MuxFault_c1 (fu : Nat) : Lp RT den (Int) := fun b s k => match b with | 0 => handle ps_slices_IndexFunc_impl_Held_impl_Held_w_impl_MuxFault_c1_0 os_slices_IndexFunc_impl_Held_impl_Held_w_impl_MuxFault_c1_0 conv_slices_IndexFunc_impl_Held_impl_Held_w_impl_MuxFault_c1_0 (Bk_slices_IndexFunc_impl_Held_impl_Held_w_impl_MuxFault_c1_0 fu) fu s k | _ => none
theorem ev_slices_IndexFunc_impl_Held_impl_Held_w_impl_MuxFault_c1 (fu : Nat) (s_0 : (Sl S_impl_Held)) (f_1_1 : Int) (f_1_2 : Int) (f_1_3 : Int) (f_1_4 : Int) (f_1_5 : Int) (f_1_6 : Int) (f_1_7 : Int) : evFun E (pc_slices_IndexFunc_impl_Held_impl_Held_w_impl_MuxFault_c1 fu) msk_slices_IndexFunc_impl_Held_impl_Held_w_impl_MuxFault_c1 (lp_slices_IndexFunc_impl_Held_impl_Held_w_impl_MuxFault_c1 fu) out_i64 56 [(.rs s_0.z .impl_Held s_0.n s_0.f), (.fn 30 [(.rptr [(.int .i64 f_1_1), (.int .i64 f_1_2), (.int .i64 f_1_3), (.int .i64 f_1_4), (.int .i64 f_1_5), (.int .i64 f_1_6), (.int .i64 f_1_7)])])] = F_slices_IndexFunc_impl_Held_impl_Held_w_impl_MuxFault_c1 fu s_0 f_1_1 f_1_2 f_1_3 f_1_4 f_1_5 f_1_6 f_1_7 := by kernel_rfl
noncomputable def body_slices_IndexFunc_impl_Held_impl_Held_w_impl_MuxFault_c1 : Code := Tryz.f56.body.getD .skip
noncomputable def lc_slices_IndexFunc_impl_Held_impl_Held_w_impl_MuxFault_c1_0 : Code := ((loops 0 body_slices_IndexFunc_impl_Held_impl_Held_w_impl_MuxFault_c1).getD 0 (0, .skip)).2
theorem round_slices_IndexFunc_impl_Held_impl_Held_w_impl_MuxFault_c1_0 (fu : Nat) (it : St RT den → Option (Int)) (k : Ex → St RT den → Option (Int)) c w : evCode E (pc_slices_IndexFunc_impl_Held_impl_Held_w_impl_MuxFault_c1 fu) msk_slices_IndexFunc_impl_Held_impl_Held_w_impl_MuxFault_c1 (lp_slices_IndexFunc_impl_Held_impl_Held_w_impl_MuxFault_c1 fu) 0 lc_slices_IndexFunc_impl_Held_impl_Held_w_impl_MuxFault_c1_0 (back_slices_IndexFunc_impl_Held_impl_Held_w_impl_MuxFault_c1_0 c w) (after (msk_slices_IndexFunc_impl_Held_impl_Held_w_impl_MuxFault_c1 0) (msk_slices_IndexFunc_impl_Held_impl_Held_w_impl_MuxFault_c1 100000) 0 it k) = Bk_slices_IndexFunc_impl_Held_impl_Held_w_impl_MuxFault_c1_0 fu c k w (fun w => it (back_slices_IndexFunc_impl_Held_impl_Held_w_impl_MuxFault_c1_0 c w)) := by kernel_rfl
theorem lpok_slices_IndexFunc_impl_Held_impl_Held_w_impl_MuxFault_c1_0 (fu : Nat) : ∀ s k r, lp_slices_IndexFunc_impl_Held_impl_Held_w_impl_MuxFault_c1 fu 0 s k = some r → ∃ fuel, iter (msk_slices_IndexFunc_impl_Held_impl_Held_w_impl_MuxFault_c1 0) (msk_slices_IndexFunc_impl_Held_impl_Held_w_impl_MuxFault_c1 100000) s.objs.length (evCode E (pc_slices_IndexFunc_impl_Held_impl_Held_w_impl_MuxFault_c1 fu) msk_slices_IndexFunc_impl_Held_impl_Held_w_impl_MuxFault_c1 (lp_slices_IndexFunc_impl_Held_impl_Held_w_impl_MuxFault_c1 fu) 0 lc_slices_IndexFunc_impl_Held_impl_Held_w_impl_MuxFault_c1_0) fuel s k = some r :=
  handle_ok (ps := ps_slices_IndexFunc_impl_Held_impl_Held_w_impl_MuxFault_c1_0) (os := os_slices_IndexFunc_impl_Held_impl_Held_w_impl_MuxFault_c1_0) (conv := conv_slices_IndexFunc_impl_Held_impl_Held_w_impl_MuxFault_c1_0) (B := Bk_slices_IndexFunc_impl_Held_impl_Held_w_impl_MuxFault_c1_0 fu) (fu := fu) back_slices_IndexFunc_impl_Held_impl_Held_w_impl_MuxFault_c1_0 (fun raw => by kernel_rfl) 0 (fun c w => by kernel_rfl) (round_slices_IndexFunc_impl_Held_impl_Held_w_impl_MuxFault_c1_0 fu)
theorem lpok_slices_IndexFunc_impl_Held_impl_Held_w_impl_MuxFault_c1 (fu : Nat) : LpOk E (pc_slices_IndexFunc_impl_Held_impl_Held_w_impl_MuxFault_c1 fu) msk_slices_IndexFunc_impl_Held_impl_Held_w_impl_MuxFault_c1 (lp_slices_IndexFunc_impl_Held_impl_Held_w_impl_MuxFault_c1 fu) (loops 0 body_slices_IndexFunc_impl_Held_impl_Held_w_impl_MuxFault_c1) := loop_all 1 (by kernel_rfl) fun i hi => match i, hi with
  | 0, _ => by
    have h : (loops 0 body_slices_IndexFunc_impl_Held_impl_Held_w_impl_MuxFault_c1).getD 0 (0, .skip) = (0, lc_slices_IndexFunc_impl_Held_impl_Held_w_impl_MuxFault_c1_0) := by kernel_rfl
    rw [h]; exact lpok_slices_IndexFunc_impl_Held_impl_Held_w_impl_MuxFault_c1_0 fu
  | i + 1, hi => absurd hi (by omega)
def S_slices_IndexFunc_impl_Held_impl_Held_w_impl_MuxFault_c1 (fu : Nat) (xs : List (D RT den)) : Option (Out RT den) := match xs with | [.rs za0_0 .impl_Held na0_0 fa0_0, .fn 30 [.rptr [.int .i64 a1_0, .int .i64 a1_1, .int .i64 a1_2, .int .i64 a1_3, .int .i64 a1_4, .int .i64 a1_5, .int .i64 a1_6]]] => some ⟨Int, F_slices_IndexFunc_impl_Held_impl_Held_w_impl_MuxFault_c1 fu (⟨za0_0, na0_0, fa0_0⟩ : (Sl S_impl_Held)) a1_0 a1_1 a1_2 a1_3 a1_4 a1_5 a1_6, enc_i64, fun _ => true⟩ | _ => none
theorem hpc_slices_IndexFunc_impl_Held_impl_Held_w_impl_MuxFault_c1 (fu : Nat) : ∀ f xs o, pcf_slices_IndexFunc_impl_Held_impl_Held_w_impl_MuxFault_c1 fu f xs = some o → ∀ y, o.x = some y → Good E Tryz.prog f xs (o.g y) := by
  intro f xs o h
  unfold pcf_slices_IndexFunc_impl_Held_impl_Held_w_impl_MuxFault_c1 at h
  split at h
  · exact good_impl_MuxFault_c1 fu xs o h
  · cases h
theorem hpx_slices_IndexFunc_impl_Held_impl_Held_w_impl_MuxFault_c1 (fu : Nat) : ∀ f xs ins o, pcx_slices_IndexFunc_impl_Held_impl_Held_w_impl_MuxFault_c1 fu f xs ins = some o → ∀ y, o.x = some y → GoodX E Tryz.prog f xs ins (o.g y).1 (o.g y).2 := by
  intro f xs ins o h
  cases h
theorem goodv_slices_IndexFunc_impl_Held_impl_Held_w_impl_MuxFault_c1 (fu : Nat) (s_0 : (Sl S_impl_Held)) (f_1_1 : Int) (f_1_2 : Int) (f_1_3 : Int) (f_1_4 : Int) (f_1_5 : Int) (f_1_6 : Int) (f_1_7 : Int) (y : Int) (hy : F_slices_IndexFunc_impl_Held_impl_Held_w_impl_MuxFault_c1 fu s_0 f_1_1 f_1_2 f_1_3 f_1_4 f_1_5 f_1_6 f_1_7 = some y) : Good E Tryz.prog 56 [(.rs s_0.z .impl_Held s_0.n s_0.f), (.fn 30 [(.rptr [(.int .i64 f_1_1), (.int .i64 f_1_2), (.int .i64 f_1_3), (.int .i64 f_1_4), (.int .i64 f_1_5), (.int .i64 f_1_6), (.int .i64 f_1_7)])])] (enc_i64 y) :=
  fun_good E_ok (pc_good (pc := pc_slices_IndexFunc_impl_Held_impl_Held_w_impl_MuxFault_c1 fu) (hpc_slices_IndexFunc_impl_Held_impl_Held_w_impl_MuxFault_c1 fu) (hpx_slices_IndexFunc_impl_Held_impl_Held_w_impl_MuxFault_c1 fu)) (fn := Tryz.f56) (c := body_slices_IndexFunc_impl_Held_impl_Held_w_impl_MuxFault_c1) (out := out_i64) (y := y) (by kernel_rfl) (by kernel_rfl) (by kernel_rfl) (lpok_slices_IndexFunc_impl_Held_impl_Held_w_impl_MuxFault_c1 fu) (fun d hd => out_i64_enc d _ hd) ((ev_slices_IndexFunc_impl_Held_impl_Held_w_impl_MuxFault_c1 fu s_0 f_1_1 f_1_2 f_1_3 f_1_4 f_1_5 f_1_6 f_1_7).trans hy)
theorem good_slices_IndexFunc_impl_Held_impl_Held_w_impl_MuxFault_c1 (fu : Nat) : ∀ xs o, S_slices_IndexFunc_impl_Held_impl_Held_w_impl_MuxFault_c1 fu xs = some o → ∀ y, o.x = some y → Good E Tryz.prog 56 xs (o.g y) := by
  intro xs o h y hy
  unfold S_slices_IndexFunc_impl_Held_impl_Held_w_impl_MuxFault_c1 at h
  split at h
  · rename_i za0_0 na0_0 fa0_0 a1_0 a1_1 a1_2 a1_3 a1_4 a1_5 a1_6
    cases h
    exact goodv_slices_IndexFunc_impl_Held_impl_Held_w_impl_MuxFault_c1 fu (⟨za0_0, na0_0, fa0_0⟩ : (Sl S_impl_Held)) a1_0 a1_1 a1_2 a1_3 a1_4 a1_5 a1_6 y hy
  · cases h

/-! slices.ContainsFunc[[]impl.Held,impl.Held] -/
def F_slices_ContainsFunc_impl_Held_impl_Held_w_impl_MuxFault_c1 (fu : Nat) (s_0 : (Sl S_impl_Held)) (f_1_1 : Int) (f_1_2 : Int) (f_1_3 : Int) (f_1_4 : Int) (f_1_5 : Int) (f_1_6 : Int) (f_1_7 : Int) : Option (Bool) :=
  ((F_slices_IndexFunc_impl_Held_impl_Held_w_impl_MuxFault_c1 fu s_0 f_1_1 f_1_2 f_1_3 f_1_4 f_1_5 f_1_6 f_1_7).bind fun y354 => (some (decide (y354 ≥ 0))))
def pcf_slices_ContainsFunc_impl_Held_impl_Held_w_impl_MuxFault_c1 (fu : Nat) (f : Nat) (xs : List (D RT den)) : Option (Out RT den) := match f with | 56 => S_slices_IndexFunc_impl_Held_impl_Held_w_impl_MuxFault_c1 fu xs | _ => none
def pcx_slices_ContainsFunc_impl_Held_impl_Held_w_impl_MuxFault_c1 (fu : Nat) (f : Nat) (xs : List (D RT den)) (ins : List (Ob RT den)) : Option (OutX RT den) := none
def pc_slices_ContainsFunc_impl_Held_impl_Held_w_impl_MuxFault_c1 (fu : Nat) : Pc RT den := ⟨pcf_slices_ContainsFunc_impl_Held_impl_Held_w_impl_MuxFault_c1 fu, fun _ => false, fun _ => false, pcx_slices_ContainsFunc_impl_Held_impl_Held_w_impl_MuxFault_c1 fu⟩
def msk_slices_ContainsFunc_impl_Held_impl_Held_w_impl_MuxFault_c1 (b : Nat) : List Nat := []
def lp_slices_ContainsFunc_impl_Held_impl_Held_w_impl_MuxFault_c1 (fu : Nat) : Lp RT den (Bool) := fun b s k => none
theorem ev_slices_ContainsFunc_impl_Held_impl_Held_w_impl_MuxFault_c1 (fu : Nat) (s_0 : (Sl S_impl_Held)) (f_1_1 : Int) (f_1_2 : Int) (f_1_3 : Int) (f_1_4 : Int) (f_1_5 : Int) (f_1_6 : Int) (f_1_7 : Int) : evFun E (pc_slices_ContainsFunc_impl_Held_impl_Held_w_impl_MuxFault_c1 fu) msk_slices_ContainsFunc_impl_Held_impl_Held_w_impl_MuxFault_c1 (lp_slices_ContainsFunc_impl_Held_impl_Held_w_impl_MuxFault_c1 fu) out_bo 29 [(.rs s_0.z .impl_Held s_0.n s_0.f), (.fn 30 [(.rptr [(.int .i64 f_1_1), (.int .i64 f_1_2), (.int .i64 f_1_3), (.int .i64 f_1_4), (.int .i64 f_1_5), (.int .i64 f_1_6), (.int .i64 f_1_7)])])] = F_slices_ContainsFunc_impl_Held_impl_Held_w_impl_MuxFault_c1 fu s_0 f_1_1 f_1_2 f_1_3 f_1_4 f_1_5 f_1_6 f_1_7 := by kernel_rfl
noncomputable def body_slices_ContainsFunc_impl_Held_impl_Held_w_impl_MuxFault_c1 : Code := Tryz.f29.body.getD .skip
theorem lpok_slices_ContainsFunc_impl_Held_impl_Held_w_impl_MuxFault_c1 (fu : Nat) : LpOk E (pc_slices_ContainsFunc_impl_Held_impl_Held_w_impl_MuxFault_c1 fu) msk_slices_ContainsFunc_impl_Held_impl_Held_w_impl_MuxFault_c1 (lp_slices_ContainsFunc_impl_Held_impl_Held_w_impl_MuxFault_c1 fu) (loops 0 body_slices_ContainsFunc_impl_Held_impl_Held_w_impl_MuxFault_c1) := by
  have h : loops 0 body_slices_ContainsFunc_impl_Held_impl_Held_w_impl_MuxFault_c1 = [] := by kernel_rfl
  rw [h]; intro p hp; cases hp
def S_slices_ContainsFunc_impl_Held_impl_Held_w_impl_MuxFault_c1 (fu : Nat) (xs : List (D RT den)) : Option (Out RT den) := match xs with | [.rs za0_0 .impl_Held na0_0 fa0_0, .fn 30 [.rptr [.int .i64 a1_0, .int .i64 a1_1, .int .i64 a1_2, .int .i64 a1_3, .int .i64 a1_4, .int .i64 a1_5, .int .i64 a1_6]]] => some ⟨Bool, F_slices_ContainsFunc_impl_Held_impl_Held_w_impl_MuxFault_c1 fu (⟨za0_0, na0_0, fa0_0⟩ : (Sl S_impl_Held)) a1_0 a1_1 a1_2 a1_3 a1_4 a1_5 a1_6, enc_bo, fun _ => true⟩ | _ => none
theorem hpc_slices_ContainsFunc_impl_Held_impl_Held_w_impl_MuxFault_c1 (fu : Nat) : ∀ f xs o, pcf_slices_ContainsFunc_impl_Held_impl_Held_w_impl_MuxFault_c1 fu f xs = some o → ∀ y, o.x = some y → Good E Tryz.prog f xs (o.g y) := by
  intro f xs o h
  unfold pcf_slices_ContainsFunc_impl_Held_impl_Held_w_impl_MuxFault_c1 at h
  split at h
  · exact good_slices_IndexFunc_impl_Held_impl_Held_w_impl_MuxFault_c1 fu xs o h
  · cases h
theorem hpx_slices_ContainsFunc_impl_Held_impl_Held_w_impl_MuxFault_c1 (fu : Nat) : ∀ f xs ins o, pcx_slices_ContainsFunc_impl_Held_impl_Held_w_impl_MuxFault_c1 fu f xs ins = some o → ∀ y, o.x = some y → GoodX E Tryz.prog f xs ins (o.g y).1 (o.g y).2 := by
  intro f xs ins o h
  cases h
theorem goodv_slices_ContainsFunc_impl_Held_impl_Held_w_impl_MuxFault_c1 (fu : Nat) (s_0 : (Sl S_impl_Held)) (f_1_1 : Int) (f_1_2 : Int) (f_1_3 : Int) (f_1_4 : Int) (f_1_5 : Int) (f_1_6 : Int) (f_1_7 : Int) (y : Bool) (hy : F_slices_ContainsFunc_impl_Held_impl_Held_w_impl_MuxFault_c1 fu s_0 f_1_1 f_1_2 f_1_3 f_1_4 f_1_5 f_1_6 f_1_7 = some y) : Good E Tryz.prog 29 [(.rs s_0.z .impl_Held s_0.n s_0.f), (.fn 30 [(.rptr [(.int .i64 f_1_1), (.int .i64 f_1_2), (.int .i64 f_1_3), (.int .i64 f_1_4), (.int .i64 f_1_5), (.int .i64 f_1_6), (.int .i64 f_1_7)])])] (enc_bo y) :=
  fun_good E_ok (pc_good (pc := pc_slices_ContainsFunc_impl_Held_impl_Held_w_impl_MuxFault_c1 fu) (hpc_slices_ContainsFunc_impl_Held_impl_Held_w_impl_MuxFault_c1 fu) (hpx_slices_ContainsFunc_impl_Held_impl_Held_w_impl_MuxFault_c1 fu)) (fn := Tryz.f29) (c := body_slices_ContainsFunc_impl_Held_impl_Held_w_impl_MuxFault_c1) (out := out_bo) (y := y) (by kernel_rfl) (by kernel_rfl) (by kernel_rfl) (lpok_slices_ContainsFunc_impl_Held_impl_Held_w_impl_MuxFault_c1 fu) (fun d hd => out_bo_enc d _ hd) ((ev_slices_ContainsFunc_impl_Held_impl_Held_w_impl_MuxFault_c1 fu s_0 f_1_1 f_1_2 f_1_3 f_1_4 f_1_5 f_1_6 f_1_7).trans hy)
theorem good_slices_ContainsFunc_impl_Held_impl_Held_w_impl_MuxFault_c1 (fu : Nat) : ∀ xs o, S_slices_ContainsFunc_impl_Held_impl_Held_w_impl_MuxFault_c1 fu xs = some o → ∀ y, o.x = some y → Good E Tryz.prog 29 xs (o.g y) := by
  intro xs o h y hy
  unfold S_slices_ContainsFunc_impl_Held_impl_Held_w_impl_MuxFault_c1 at h
  split at h
  · rename_i za0_0 na0_0 fa0_0 a1_0 a1_1 a1_2 a1_3 a1_4 a1_5 a1_6
    cases h
    exact goodv_slices_ContainsFunc_impl_Held_impl_Held_w_impl_MuxFault_c1 fu (⟨za0_0, na0_0, fa0_0⟩ : (Sl S_impl_Held)) a1_0 a1_1 a1_2 a1_3 a1_4 a1_5 a1_6 y hy
  · cases h
end Go.Proofs.YtmgndndkkeinfaaGreat.Pc
