/- The functions' evaluated forms, each a proved summary. Conditions: none. -/
import Derived.Test.YtmdjkdgjmbfegaaPcF0
namespace Go.Proofs.Ytmdjkdgjmbfegaa.Pc
open Go Go.RowKit Go.Proofs Vm
set_option linter.unusedVariables false
set_option linter.unusedSimpArgs false
set_option maxRecDepth 100000
/-! impl.take -/
def F_impl_take_H_B0 {ρ : Type} (fu : Nat) (index1_0 : Int) (more2_1 : (Sl S_impl_Entry)) (out7_2 : Nat) (t13_3 : (Sl S_impl_Entry)) (t14_4 : Int) (o0_6 : Int) (on1_7 : Nat) (of1_8 : (Nat → S_impl_Entry)) (k0 : Nat → Nat → (Nat → S_impl_Entry) → Int → Int → Int → Int → Int → Int → Int → Int → Int → Option ρ) (k1 : Option ρ) (t15_5 : Int) (go : Int → Option ρ) : Option ρ :=
  (bif (decide (t15_5 < t14_4)) then ((bif (decide (0 ≤ t15_5) && decide ((Int.toNat t15_5) < t13_3.n)) then some () else none : Option Unit).bind fun _ =>
    ((((F_impl_size_impl_Entry fu (⟨none, out7_2, of1_8⟩ : (Sl S_impl_Entry))).bind fun y85 => (bif (decide ((IntKind.wrap .i64 (index1_0 + t15_5)) < y85)) then ((bif (decide (0 ≤ (IntKind.wrap .i64 (index1_0 + t15_5))) &&
    decide ((Int.toNat (IntKind.wrap .i64 (index1_0 + t15_5))) < out7_2)) then some () else none : Option Unit).bind fun _ => (some ((of1_8 (Int.toNat (IntKind.wrap .i64 (index1_0 + t15_5)))).Term == (t13_3.f (Int.toNat t15_5)).Term))) else
    (some false))) : Option Bool).bind fun m86 => (bif m86 then (go (IntKind.wrap .i64 (t15_5 + 1))) else ((bif (decide (0 ≤ (IntKind.wrap .i64 (index1_0 + t15_5))) && decide ((Int.toNat (IntKind.wrap .i64 (index1_0 + t15_5))) ≤ out7_2)) then
    some () else none : Option Unit).bind fun _ => ((bif (decide (0 ≤ t15_5) && (decide (t15_5 ≤ ((more2_1.n : Nat) : Int)) && decide (more2_1.n ≤ more2_1.n))) then some () else
    none : Option Unit).bind fun _ => (bif (decide (((Int.toNat (IntKind.wrap .i64 (index1_0 + t15_5))) + (more2_1.n - (Int.toNat t15_5))) ≤ 9223372036854775807) && decide (((Int.toNat (IntKind.wrap .i64 (index1_0 + t15_5))) + (more2_1.n - (Int.toNat t15_5))) * 72 ≤ 140737488355328)) then
    (k0 ((Int.toNat (IntKind.wrap .i64 (index1_0 + t15_5))) + (more2_1.n - (Int.toNat t15_5))) ((Int.toNat (IntKind.wrap .i64 (index1_0 + t15_5))) + (more2_1.n - (Int.toNat t15_5))) (fun i =>
    if i < (Int.toNat (IntKind.wrap .i64 (index1_0 + t15_5))) then (of1_8 i) else ((fun i => more2_1.f ((Int.toNat t15_5) + i)) (i - (Int.toNat (IntKind.wrap .i64 (index1_0 + t15_5)))))) (t13_3.f (Int.toNat t15_5)).Term (t13_3.f (Int.toNat t15_5)).Client (t13_3.f (Int.toNat t15_5)).Seq (t13_3.f (Int.toNat t15_5)).Cmd.Kind (t13_3.f (Int.toNat t15_5)).Cmd.Expect (t13_3.f (Int.toNat t15_5)).Cmd.Name (t13_3.f (Int.toNat t15_5)).Cmd.Addr (t13_3.f (Int.toNat t15_5)).Cmd.Number (t13_3.f (Int.toNat t15_5)).Cmd.Proto) else
    none)))))) else k1)
def F_impl_take_H (fu : Nat) (log_0 : (Sl S_impl_Entry)) (index_1 : Int) (more_2 : (Sl S_impl_Entry)) : Option (S_impl_EntriesResult) :=
  ((F_slices_Clone_impl_Entry_impl_Entry_H fu log_0).bind fun y84 => (L (fun w0 go0 => F_impl_take_H_B0 fu index_1 more_2 y84.n more_2 ((more_2.n : Nat) : Int) 0 y84.n y84.f (fun z87 z88 z89 z90 z91 z92 z93 z94 z95 z96 z97 z98 =>
    (bif (decide (((z87 : Nat) : Int) > 40)) then (some (⟨2, (⟨(some true), 0, (fun _ => dflt .impl_Entry)⟩ : (Sl S_impl_Entry))⟩ : S_impl_EntriesResult)) else (some (⟨0, (⟨none,
    z87, z89⟩ : (Sl S_impl_Entry))⟩ : S_impl_EntriesResult)))) (bif (decide (((y84.n : Nat) : Int) > 40)) then (some (⟨2, (⟨(some true), 0, (fun _ => dflt .impl_Entry)⟩ : (Sl S_impl_Entry))⟩ : S_impl_EntriesResult)) else
    (some (⟨0, (⟨none, y84.n, y84.f⟩ : (Sl S_impl_Entry))⟩ : S_impl_EntriesResult))) w0 go0) fu (0 : Int)))
def pcf_impl_take_H (fu : Nat) (f : Nat) (xs : List (D RT den)) : Option (Out RT den) := match f with | 80 => S_impl_size_impl_Entry fu xs | _ => none
def pcx_impl_take_H (fu : Nat) (f : Nat) (xs : List (D RT den)) (ins : List (Ob RT den)) : Option (OutX RT den) := match f with | 71 => S_slices_Clone_impl_Entry_impl_Entry_H fu xs ins | _ => none
def pc_impl_take_H (fu : Nat) : Pc RT den := ⟨pcf_impl_take_H fu, fun f => match f with | 71 => true | _ => false, fun _ => false, pcx_impl_take_H fu⟩
def msk_impl_take_H (b : Nat) : List Nat := match b with | 0 => [0, 3, 4, 5, 8, 9, 10, 11, 12, 16, 17, 18, 19, 20, 21, 22, 23, 24, 25, 26, 27, 28, 29, 30, 31, 32, 33, 34, 35, 36, 37, 38, 39, 40, 41, 42, 43, 44, 45, 46, 47, 48, 49, 50] | 100000 => [0, 1, 2, 3, 4, 5, 8, 9, 10, 11, 12, 13, 14, 15, 16, 17, 18, 19, 20, 21, 22, 23, 24, 25, 26, 27, 28, 29, 30, 31, 32, 33, 34, 35, 36, 37, 38, 39, 40, 41, 42, 43, 44, 45, 46, 47, 48, 49, 50] | 200006 => [36] | 300000 => [7] | _ => []
def ps_impl_take_H_0 : List (Pat RT) := [.flat .dead, .flat (.int .i64), .flat (.rs .impl_Entry), .flat .dead, .flat .dead, .flat .dead, .flat (.ref 0 0), .flat (.os 1), .flat .dead, .flat .dead, .flat .dead, .flat .dead, .flat .dead, .flat (.rs .impl_Entry), .flat (.int .i64), .flat (.int .i64), .flat .dead, .flat .dead, .flat .dead, .flat .dead, .flat .dead, .flat .dead, .flat .dead, .flat .dead, .flat .dead, .flat .dead, .flat .dead, .flat .dead, .flat .dead, .flat .dead, .flat .dead, .flat .dead, .flat .dead, .flat .dead, .flat .dead, .flat .dead, .flat .dead, .flat .dead, .flat .dead, .flat .dead, .flat .dead, .flat .dead, .flat .dead, .flat .dead, .flat .dead, .flat .dead, .flat .dead, .flat .dead, .flat .dead, .flat .dead, .flat .dead]
def os_impl_take_H_0 : List (OP RT) := [.box [(.int .i64), (.emp true .impl_Entry)], .row false .impl_Entry]
def conv_impl_take_H_0 (r : Raw den ps_impl_take_H_0 os_impl_take_H_0) : (Int × (Sl S_impl_Entry) × Nat × (Sl S_impl_Entry) × Int × Int × Nat × (Nat → S_impl_Entry)) × (Int) := ((r.1.2.1, r.1.2.2.1, r.1.2.2.2.2.2.2.2.1, r.1.2.2.2.2.2.2.2.2.2.2.2.2.2.1, r.1.2.2.2.2.2.2.2.2.2.2.2.2.2.2.1, r.2.1.1, r.2.2.1.1, r.2.2.1.2), r.1.2.2.2.2.2.2.2.2.2.2.2.2.2.2.2.1)
def back_impl_take_H_0 (c : Int × (Sl S_impl_Entry) × Nat × (Sl S_impl_Entry) × Int × Int × Nat × (Nat → S_impl_Entry)) (w : Int) : St RT den := ⟨[.dead, (.int .i64 c.1), (.rs c.2.1.z .impl_Entry c.2.1.n c.2.1.f), .dead, .dead, .dead, (.ref 0 0), (.os 1 c.2.2.1), .dead, .dead, .dead, .dead, .dead, (.rs c.2.2.2.1.z .impl_Entry c.2.2.2.1.n c.2.2.2.1.f), (.int .i64 c.2.2.2.2.1), (.int .i64 w), .dead, .dead, .dead, .dead, .dead, .dead, .dead, .dead, .dead, .dead, .dead, .dead, .dead, .dead, .dead, .dead, .dead, .dead, .dead, .dead, .dead, .dead, .dead, .dead, .dead, .dead, .dead, .dead, .dead, .dead, .dead, .dead, .dead, .dead, .dead], [(.box [(.int .i64 c.2.2.2.2.2.1), (.emp true .impl_Entry)]), (.row false .impl_Entry c.2.2.2.2.2.2.1 c.2.2.2.2.2.2.2)]⟩
def Bk_impl_take_H_0 {ρ : Type} (fu : Nat) (c : Int × (Sl S_impl_Entry) × Nat × (Sl S_impl_Entry) × Int × Int × Nat × (Nat → S_impl_Entry)) (k : Ex → St RT den → Option ρ) (w : Int) (go : (Int) → Option ρ) : Option ρ := F_impl_take_H_B0 fu c.1 c.2.1 c.2.2.1 c.2.2.2.1 c.2.2.2.2.1 c.2.2.2.2.2.1 c.2.2.2.2.2.2.1 c.2.2.2.2.2.2.2 (fun a0 a1 a2 a3 a4 a5 a6 a7 a8 a9 a10 a11 => k (.exit 0) ⟨[.dead, .dead, .dead, .dead, .dead, .dead, (.ref 0 0), (.os 1 a0), .dead, .dead, .dead, .dead, .dead, .dead, .dead, .dead, .dead, .dead, .dead, .dead, .dead, .dead, .dead, .dead, .dead, .dead, .dead, .dead, .dead, .dead, .dead, .dead, .dead, .dead, .dead, .dead, .dead, .dead, .dead, .dead, .dead, .dead, .dead, .dead, .dead, .dead, .dead, .dead, .dead, .dead, .dead], [(.box [(.int .i64 c.2.2.2.2.2.1), (.emp true .impl_Entry)]), (.row false .impl_Entry a1 a2), (.box [(.int .i64 a3), (.int .i64 a4), (.int .i64 a5), (.int .i64 a6), (.int .i64 a7), (.int .i64 a8), (.int .i64 a9), (.int .i64 a10), (.int .i64 a11)])]⟩) (k (.exit 0) ⟨[.dead, .dead, .dead, .dead, .dead, .dead, (.ref 0 0), (.os 1 c.2.2.1), .dead, .dead, .dead, .dead, .dead, .dead, .dead, .dead, .dead, .dead, .dead, .dead, .dead, .dead, .dead, .dead, .dead, .dead, .dead, .dead, .dead, .dead, .dead, .dead, .dead, .dead, .dead, .dead, .dead, .dead, .dead, .dead, .dead, .dead, .dead, .dead, .dead, .dead, .dead, .dead, .dead, .dead, .dead], [(.box [(.int .i64 c.2.2.2.2.2.1), (.emp true .impl_Entry)]), (.row false .impl_Entry c.2.2.2.2.2.2.1 c.2.2.2.2.2.2.2)]⟩) w go
def lp_impl_take_H (fu : Nat) : Lp RT den (S_impl_EntriesResult) := fun b s k => match b with | 0 => handle ps_impl_take_H_0 os_impl_take_H_0 conv_impl_take_H_0 (Bk_impl_take_H_0 fu) fu s k | _ => none
theorem ev_impl_take_H (fu : Nat) (log_0 : (Sl S_impl_Entry)) (index_1 : Int) (more_2 : (Sl S_impl_Entry)) : evFunX E (pc_impl_take_H fu) msk_impl_take_H (lp_impl_take_H fu) out_impl_EntriesResult_H 46 [(.rs log_0.z .impl_Entry log_0.n log_0.f), (.int .i64 index_1), (.rs more_2.z .impl_Entry more_2.n more_2.f)] [] = F_impl_take_H fu log_0 index_1 more_2 := by kernel_rfl
noncomputable def body_impl_take_H : Code := Try.f46.body.getD .skip
noncomputable def lc_impl_take_H_0 : Code := ((loops 0 body_impl_take_H).getD 0 (0, .skip)).2
theorem round_impl_take_H_0 (fu : Nat) (it : St RT den → Option (S_impl_EntriesResult)) (k : Ex → St RT den → Option (S_impl_EntriesResult)) c w : evCode E (pc_impl_take_H fu) msk_impl_take_H (lp_impl_take_H fu) 0 lc_impl_take_H_0 (back_impl_take_H_0 c w) (after (msk_impl_take_H 0) (msk_impl_take_H 100000) 2 it k) = Bk_impl_take_H_0 fu c k w (fun w => it (back_impl_take_H_0 c w)) := by kernel_rfl
theorem lpok_impl_take_H_0 (fu : Nat) : ∀ s k r, lp_impl_take_H fu 0 s k = some r → ∃ fuel, iter (msk_impl_take_H 0) (msk_impl_take_H 100000) s.objs.length (evCode E (pc_impl_take_H fu) msk_impl_take_H (lp_impl_take_H fu) 0 lc_impl_take_H_0) fuel s k = some r :=
  handle_ok (ps := ps_impl_take_H_0) (os := os_impl_take_H_0) (conv := conv_impl_take_H_0) (B := Bk_impl_take_H_0 fu) (fu := fu) back_impl_take_H_0 (fun raw => by kernel_rfl) 2 (fun c w => by kernel_rfl) (round_impl_take_H_0 fu)
theorem lpok_impl_take_H (fu : Nat) : LpOk E (pc_impl_take_H fu) msk_impl_take_H (lp_impl_take_H fu) (loops 0 body_impl_take_H) := loop_all 1 (by kernel_rfl) fun i hi => match i, hi with
  | 0, _ => by
    have h : (loops 0 body_impl_take_H).getD 0 (0, .skip) = (0, lc_impl_take_H_0) := by kernel_rfl
    rw [h]; exact lpok_impl_take_H_0 fu
  | i + 1, hi => absurd hi (by omega)
def S_impl_take_H (fu : Nat) (xs : List (D RT den)) (ins : List (Ob RT den)) : Option (OutX RT den) := match xs, ins with | [.rs za0_0 .impl_Entry na0_0 fa0_0, .int .i64 a1_0, .rs za2_0 .impl_Entry na2_0 fa2_0], [] => some ⟨S_impl_EntriesResult, F_impl_take_H fu (⟨za0_0, na0_0, fa0_0⟩ : (Sl S_impl_Entry)) a1_0 (⟨za2_0, na2_0, fa2_0⟩ : (Sl S_impl_Entry)), enc_impl_EntriesResult_H⟩ | _, _ => none
theorem hpc_impl_take_H (fu : Nat) : ∀ f xs o, pcf_impl_take_H fu f xs = some o → ∀ y, o.x = some y → Good E Try.prog f xs (o.g y) := by
  intro f xs o h
  unfold pcf_impl_take_H at h
  split at h
  · exact good_impl_size_impl_Entry fu xs o h
  · cases h
theorem hpx_impl_take_H (fu : Nat) : ∀ f xs ins o, pcx_impl_take_H fu f xs ins = some o → ∀ y, o.x = some y → GoodX E Try.prog f xs ins (o.g y).1 (o.g y).2 := by
  intro f xs ins o h
  unfold pcx_impl_take_H at h
  split at h
  · exact good_slices_Clone_impl_Entry_impl_Entry_H fu xs ins o h
  · cases h
theorem goodv_impl_take_H (fu : Nat) (log_0 : (Sl S_impl_Entry)) (index_1 : Int) (more_2 : (Sl S_impl_Entry)) (y : S_impl_EntriesResult) (hy : F_impl_take_H fu log_0 index_1 more_2 = some y) : GoodX E Try.prog 46 [(.rs log_0.z .impl_Entry log_0.n log_0.f), (.int .i64 index_1), (.rs more_2.z .impl_Entry more_2.n more_2.f)] [] (enc_impl_EntriesResult_H y).1 (enc_impl_EntriesResult_H y).2 :=
  funX_good E_ok (pc_good (pc := pc_impl_take_H fu) (hpc_impl_take_H fu) (hpx_impl_take_H fu)) (fn := Try.f46) (c := body_impl_take_H) (out := out_impl_EntriesResult_H) (y := y) (by kernel_rfl) (by kernel_rfl) (by kernel_rfl) (lpok_impl_take_H fu) (by kernel_rfl) (Nat.zero_le _) (fun d os hd => out_impl_EntriesResult_H_enc d os _ hd) ((ev_impl_take_H fu log_0 index_1 more_2).trans hy)
theorem good_impl_take_H (fu : Nat) : ∀ xs ins o, S_impl_take_H fu xs ins = some o → ∀ y, o.x = some y → GoodX E Try.prog 46 xs ins (o.g y).1 (o.g y).2 := by
  intro xs ins o h y hy
  unfold S_impl_take_H at h
  split at h
  · rename_i za0_0 na0_0 fa0_0 a1_0 za2_0 na2_0 fa2_0
    cases h
    exact goodv_impl_take_H fu (⟨za0_0, na0_0, fa0_0⟩ : (Sl S_impl_Entry)) a1_0 (⟨za2_0, na2_0, fa2_0⟩ : (Sl S_impl_Entry)) y hy
  · cases h

/-! impl.in -/
def F_impl_in (fu : Nat) (n_0 : Int) (low_1 : Int) (high_2 : Int) : Option (Bool) :=
  (((bif (decide (n_0 ≥ low_1)) then (some (decide (n_0 ≤ high_2))) else (some false)) : Option Bool).bind fun m129 => (some m129))
def pcf_impl_in (fu : Nat) (f : Nat) (xs : List (D RT den)) : Option (Out RT den) := none
def pcx_impl_in (fu : Nat) (f : Nat) (xs : List (D RT den)) (ins : List (Ob RT den)) : Option (OutX RT den) := none
def pc_impl_in (fu : Nat) : Pc RT den := ⟨pcf_impl_in fu, fun _ => false, fun _ => false, pcx_impl_in fu⟩
def msk_impl_in (b : Nat) : List Nat := match b with | 200001 => [6] | _ => []
def lp_impl_in (fu : Nat) : Lp RT den (Bool) := fun b s k => none
theorem ev_impl_in (fu : Nat) (n_0 : Int) (low_1 : Int) (high_2 : Int) : evFun E (pc_impl_in fu) msk_impl_in (lp_impl_in fu) out_bo 62 [(.int .i64 n_0), (.int .i64 low_1), (.int .i64 high_2)] = F_impl_in fu n_0 low_1 high_2 := by kernel_rfl
noncomputable def body_impl_in : Code := Try.f62.body.getD .skip
theorem lpok_impl_in (fu : Nat) : LpOk E (pc_impl_in fu) msk_impl_in (lp_impl_in fu) (loops 0 body_impl_in) := by
  have h : loops 0 body_impl_in = [] := by kernel_rfl
  rw [h]; intro p hp; cases hp
def S_impl_in (fu : Nat) (xs : List (D RT den)) : Option (Out RT den) := match xs with | [.int .i64 a0_0, .int .i64 a1_0, .int .i64 a2_0] => some ⟨Bool, F_impl_in fu a0_0 a1_0 a2_0, enc_bo, fun _ => true⟩ | _ => none
theorem hpc_impl_in (fu : Nat) : ∀ f xs o, pcf_impl_in fu f xs = some o → ∀ y, o.x = some y → Good E Try.prog f xs (o.g y) := by
  intro f xs o h
  cases h
theorem hpx_impl_in (fu : Nat) : ∀ f xs ins o, pcx_impl_in fu f xs ins = some o → ∀ y, o.x = some y → GoodX E Try.prog f xs ins (o.g y).1 (o.g y).2 := by
  intro f xs ins o h
  cases h
theorem goodv_impl_in (fu : Nat) (n_0 : Int) (low_1 : Int) (high_2 : Int) (y : Bool) (hy : F_impl_in fu n_0 low_1 high_2 = some y) : Good E Try.prog 62 [(.int .i64 n_0), (.int .i64 low_1), (.int .i64 high_2)] (enc_bo y) :=
  fun_good E_ok (pc_good (pc := pc_impl_in fu) (hpc_impl_in fu) (hpx_impl_in fu)) (fn := Try.f62) (c := body_impl_in) (out := out_bo) (y := y) (by kernel_rfl) (by kernel_rfl) (by kernel_rfl) (lpok_impl_in fu) (fun d hd => out_bo_enc d _ hd) ((ev_impl_in fu n_0 low_1 high_2).trans hy)
theorem good_impl_in (fu : Nat) : ∀ xs o, S_impl_in fu xs = some o → ∀ y, o.x = some y → Good E Try.prog 62 xs (o.g y) := by
  intro xs o h y hy
  unfold S_impl_in at h
  split at h
  · rename_i a0_0 a1_0 a2_0
    cases h
    exact goodv_impl_in fu a0_0 a1_0 a2_0 y hy
  · cases h

/-! impl.needs -/
def F_impl_needs (fu : Nat) (kind_0 : Int) : Option (Bool × Bool × Bool × Bool) :=
  ((F_impl_in fu kind_0 5 8).bind fun y150 => ((F_impl_in fu kind_0 5 6).bind fun y151 => (bif (kind_0 == 1) then (some ((!y151), true, (kind_0 != 4), y150)) else (some ((!y151),
    y150, (kind_0 != 4), y150)))))
def pcf_impl_needs (fu : Nat) (f : Nat) (xs : List (D RT den)) : Option (Out RT den) := match f with | 62 => S_impl_in fu xs | _ => none
def pcx_impl_needs (fu : Nat) (f : Nat) (xs : List (D RT den)) (ins : List (Ob RT den)) : Option (OutX RT den) := none
def pc_impl_needs (fu : Nat) : Pc RT den := ⟨pcf_impl_needs fu, fun _ => false, fun _ => false, pcx_impl_needs fu⟩
def msk_impl_needs (b : Nat) : List Nat := []
def lp_impl_needs (fu : Nat) : Lp RT den (Bool × Bool × Bool × Bool) := fun b s k => none
theorem ev_impl_needs (fu : Nat) (kind_0 : Int) : evFun E (pc_impl_needs fu) msk_impl_needs (lp_impl_needs fu) out_bo_bo_bo_bo 108 [(.int .i64 kind_0)] = F_impl_needs fu kind_0 := by kernel_rfl
noncomputable def body_impl_needs : Code := Try.f108.body.getD .skip
theorem lpok_impl_needs (fu : Nat) : LpOk E (pc_impl_needs fu) msk_impl_needs (lp_impl_needs fu) (loops 0 body_impl_needs) := by
  have h : loops 0 body_impl_needs = [] := by kernel_rfl
  rw [h]; intro p hp; cases hp
def S_impl_needs (fu : Nat) (xs : List (D RT den)) : Option (Out RT den) := match xs with | [.int .i64 a0_0] => some ⟨Bool × Bool × Bool × Bool, F_impl_needs fu a0_0, enc_bo_bo_bo_bo, fun _ => true⟩ | _ => none
theorem hpc_impl_needs (fu : Nat) : ∀ f xs o, pcf_impl_needs fu f xs = some o → ∀ y, o.x = some y → Good E Try.prog f xs (o.g y) := by
  intro f xs o h
  unfold pcf_impl_needs at h
  split at h
  · exact good_impl_in fu xs o h
  · cases h
theorem hpx_impl_needs (fu : Nat) : ∀ f xs ins o, pcx_impl_needs fu f xs ins = some o → ∀ y, o.x = some y → GoodX E Try.prog f xs ins (o.g y).1 (o.g y).2 := by
  intro f xs ins o h
  cases h
theorem goodv_impl_needs (fu : Nat) (kind_0 : Int) (y : Bool × Bool × Bool × Bool) (hy : F_impl_needs fu kind_0 = some y) : Good E Try.prog 108 [(.int .i64 kind_0)] (enc_bo_bo_bo_bo y) :=
  fun_good E_ok (pc_good (pc := pc_impl_needs fu) (hpc_impl_needs fu) (hpx_impl_needs fu)) (fn := Try.f108) (c := body_impl_needs) (out := out_bo_bo_bo_bo) (y := y) (by kernel_rfl) (by kernel_rfl) (by kernel_rfl) (lpok_impl_needs fu) (fun d hd => out_bo_bo_bo_bo_enc d _ hd) ((ev_impl_needs fu kind_0).trans hy)
theorem good_impl_needs (fu : Nat) : ∀ xs o, S_impl_needs fu xs = some o → ∀ y, o.x = some y → Good E Try.prog 108 xs (o.g y) := by
  intro xs o h y hy
  unfold S_impl_needs at h
  split at h
  · rename_i a0_0
    cases h
    exact goodv_impl_needs fu a0_0 y hy
  · cases h

/-! impl.isName -/
def F_impl_isName (fu : Nat) (name_0 : Int) : Option (Bool) :=
  ((F_impl_in fu name_0 1 999).bind fun y152 => (some y152))
def pcf_impl_isName (fu : Nat) (f : Nat) (xs : List (D RT den)) : Option (Out RT den) := match f with | 62 => S_impl_in fu xs | _ => none
def pcx_impl_isName (fu : Nat) (f : Nat) (xs : List (D RT den)) (ins : List (Ob RT den)) : Option (OutX RT den) := none
def pc_impl_isName (fu : Nat) : Pc RT den := ⟨pcf_impl_isName fu, fun _ => false, fun _ => false, pcx_impl_isName fu⟩
def msk_impl_isName (b : Nat) : List Nat := []
def lp_impl_isName (fu : Nat) : Lp RT den (Bool) := fun b s k => none
theorem ev_impl_isName (fu : Nat) (name_0 : Int) : evFun E (pc_impl_isName fu) msk_impl_isName (lp_impl_isName fu) out_bo 109 [(.int .i64 name_0)] = F_impl_isName fu name_0 := by kernel_rfl
noncomputable def body_impl_isName : Code := Try.f109.body.getD .skip
theorem lpok_impl_isName (fu : Nat) : LpOk E (pc_impl_isName fu) msk_impl_isName (lp_impl_isName fu) (loops 0 body_impl_isName) := by
  have h : loops 0 body_impl_isName = [] := by kernel_rfl
  rw [h]; intro p hp; cases hp
def S_impl_isName (fu : Nat) (xs : List (D RT den)) : Option (Out RT den) := match xs with | [.int .i64 a0_0] => some ⟨Bool, F_impl_isName fu a0_0, enc_bo, fun _ => true⟩ | _ => none
theorem hpc_impl_isName (fu : Nat) : ∀ f xs o, pcf_impl_isName fu f xs = some o → ∀ y, o.x = some y → Good E Try.prog f xs (o.g y) := by
  intro f xs o h
  unfold pcf_impl_isName at h
  split at h
  · exact good_impl_in fu xs o h
  · cases h
theorem hpx_impl_isName (fu : Nat) : ∀ f xs ins o, pcx_impl_isName fu f xs ins = some o → ∀ y, o.x = some y → GoodX E Try.prog f xs ins (o.g y).1 (o.g y).2 := by
  intro f xs ins o h
  cases h
theorem goodv_impl_isName (fu : Nat) (name_0 : Int) (y : Bool) (hy : F_impl_isName fu name_0 = some y) : Good E Try.prog 109 [(.int .i64 name_0)] (enc_bo y) :=
  fun_good E_ok (pc_good (pc := pc_impl_isName fu) (hpc_impl_isName fu) (hpx_impl_isName fu)) (fn := Try.f109) (c := body_impl_isName) (out := out_bo) (y := y) (by kernel_rfl) (by kernel_rfl) (by kernel_rfl) (lpok_impl_isName fu) (fun d hd => out_bo_enc d _ hd) ((ev_impl_isName fu name_0).trans hy)
theorem good_impl_isName (fu : Nat) : ∀ xs o, S_impl_isName fu xs = some o → ∀ y, o.x = some y → Good E Try.prog 109 xs (o.g y) := by
  intro xs o h y hy
  unfold S_impl_isName at h
  split at h
  · rename_i a0_0
    cases h
    exact goodv_impl_isName fu a0_0 y hy
  · cases h

/-! impl.isAddress -/
def F_impl_isAddress (fu : Nat) (a_0 : Int) : Option (Bool) :=
  ((F_impl_in fu a_0 0 4294967295).bind fun y153 => (some y153))
def pcf_impl_isAddress (fu : Nat) (f : Nat) (xs : List (D RT den)) : Option (Out RT den) := match f with | 62 => S_impl_in fu xs | _ => none
def pcx_impl_isAddress (fu : Nat) (f : Nat) (xs : List (D RT den)) (ins : List (Ob RT den)) : Option (OutX RT den) := none
def pc_impl_isAddress (fu : Nat) : Pc RT den := ⟨pcf_impl_isAddress fu, fun _ => false, fun _ => false, pcx_impl_isAddress fu⟩
def msk_impl_isAddress (b : Nat) : List Nat := []
def lp_impl_isAddress (fu : Nat) : Lp RT den (Bool) := fun b s k => none
theorem ev_impl_isAddress (fu : Nat) (a_0 : Int) : evFun E (pc_impl_isAddress fu) msk_impl_isAddress (lp_impl_isAddress fu) out_bo 110 [(.int .i64 a_0)] = F_impl_isAddress fu a_0 := by kernel_rfl
noncomputable def body_impl_isAddress : Code := Try.f110.body.getD .skip
theorem lpok_impl_isAddress (fu : Nat) : LpOk E (pc_impl_isAddress fu) msk_impl_isAddress (lp_impl_isAddress fu) (loops 0 body_impl_isAddress) := by
  have h : loops 0 body_impl_isAddress = [] := by kernel_rfl
  rw [h]; intro p hp; cases hp
def S_impl_isAddress (fu : Nat) (xs : List (D RT den)) : Option (Out RT den) := match xs with | [.int .i64 a0_0] => some ⟨Bool, F_impl_isAddress fu a0_0, enc_bo, fun _ => true⟩ | _ => none
theorem hpc_impl_isAddress (fu : Nat) : ∀ f xs o, pcf_impl_isAddress fu f xs = some o → ∀ y, o.x = some y → Good E Try.prog f xs (o.g y) := by
  intro f xs o h
  unfold pcf_impl_isAddress at h
  split at h
  · exact good_impl_in fu xs o h
  · cases h
theorem hpx_impl_isAddress (fu : Nat) : ∀ f xs ins o, pcx_impl_isAddress fu f xs ins = some o → ∀ y, o.x = some y → GoodX E Try.prog f xs ins (o.g y).1 (o.g y).2 := by
  intro f xs ins o h
  cases h
theorem goodv_impl_isAddress (fu : Nat) (a_0 : Int) (y : Bool) (hy : F_impl_isAddress fu a_0 = some y) : Good E Try.prog 110 [(.int .i64 a_0)] (enc_bo y) :=
  fun_good E_ok (pc_good (pc := pc_impl_isAddress fu) (hpc_impl_isAddress fu) (hpx_impl_isAddress fu)) (fn := Try.f110) (c := body_impl_isAddress) (out := out_bo) (y := y) (by kernel_rfl) (by kernel_rfl) (by kernel_rfl) (lpok_impl_isAddress fu) (fun d hd => out_bo_enc d _ hd) ((ev_impl_isAddress fu a_0).trans hy)
theorem good_impl_isAddress (fu : Nat) : ∀ xs o, S_impl_isAddress fu xs = some o → ∀ y, o.x = some y → Good E Try.prog 110 xs (o.g y) := by
  intro xs o h y hy
  unfold S_impl_isAddress at h
  split at h
  · rename_i a0_0
    cases h
    exact goodv_impl_isAddress fu a0_0 y hy
  · cases h

/-! impl.isPort -/
def F_impl_isPort (fu : Nat) (n_0 : Int) : Option (Bool) :=
  ((F_impl_in fu n_0 0 65535).bind fun y159 => (some y159))
def pcf_impl_isPort (fu : Nat) (f : Nat) (xs : List (D RT den)) : Option (Out RT den) := match f with | 62 => S_impl_in fu xs | _ => none
def pcx_impl_isPort (fu : Nat) (f : Nat) (xs : List (D RT den)) (ins : List (Ob RT den)) : Option (OutX RT den) := none
def pc_impl_isPort (fu : Nat) : Pc RT den := ⟨pcf_impl_isPort fu, fun _ => false, fun _ => false, pcx_impl_isPort fu⟩
def msk_impl_isPort (b : Nat) : List Nat := []
def lp_impl_isPort (fu : Nat) : Lp RT den (Bool) := fun b s k => none
theorem ev_impl_isPort (fu : Nat) (n_0 : Int) : evFun E (pc_impl_isPort fu) msk_impl_isPort (lp_impl_isPort fu) out_bo 122 [(.int .i64 n_0)] = F_impl_isPort fu n_0 := by kernel_rfl
noncomputable def body_impl_isPort : Code := Try.f122.body.getD .skip
theorem lpok_impl_isPort (fu : Nat) : LpOk E (pc_impl_isPort fu) msk_impl_isPort (lp_impl_isPort fu) (loops 0 body_impl_isPort) := by
  have h : loops 0 body_impl_isPort = [] := by kernel_rfl
  rw [h]; intro p hp; cases hp
def S_impl_isPort (fu : Nat) (xs : List (D RT den)) : Option (Out RT den) := match xs with | [.int .i64 a0_0] => some ⟨Bool, F_impl_isPort fu a0_0, enc_bo, fun _ => true⟩ | _ => none
theorem hpc_impl_isPort (fu : Nat) : ∀ f xs o, pcf_impl_isPort fu f xs = some o → ∀ y, o.x = some y → Good E Try.prog f xs (o.g y) := by
  intro f xs o h
  unfold pcf_impl_isPort at h
  split at h
  · exact good_impl_in fu xs o h
  · cases h
theorem hpx_impl_isPort (fu : Nat) : ∀ f xs ins o, pcx_impl_isPort fu f xs ins = some o → ∀ y, o.x = some y → GoodX E Try.prog f xs ins (o.g y).1 (o.g y).2 := by
  intro f xs ins o h
  cases h
theorem goodv_impl_isPort (fu : Nat) (n_0 : Int) (y : Bool) (hy : F_impl_isPort fu n_0 = some y) : Good E Try.prog 122 [(.int .i64 n_0)] (enc_bo y) :=
  fun_good E_ok (pc_good (pc := pc_impl_isPort fu) (hpc_impl_isPort fu) (hpx_impl_isPort fu)) (fn := Try.f122) (c := body_impl_isPort) (out := out_bo) (y := y) (by kernel_rfl) (by kernel_rfl) (by kernel_rfl) (lpok_impl_isPort fu) (fun d hd => out_bo_enc d _ hd) ((ev_impl_isPort fu n_0).trans hy)
theorem good_impl_isPort (fu : Nat) : ∀ xs o, S_impl_isPort fu xs = some o → ∀ y, o.x = some y → Good E Try.prog 122 xs (o.g y) := by
  intro xs o h y hy
  unfold S_impl_isPort at h
  split at h
  · rename_i a0_0
    cases h
    exact goodv_impl_isPort fu a0_0 y hy
  · cases h

/-! impl.isNumber -/
def F_impl_isNumber (fu : Nat) (x_0 : S_impl_Cmd) : Option (Bool) :=
  (bif (x_0.Kind == 1) then ((F_impl_in fu x_0.Number 0 9).bind fun y154 => (some y154)) else (bif (x_0.Kind == 2) then ((F_impl_in fu x_0.Number 0 9).bind fun y155 => (some y155)) else
    (bif (x_0.Kind == 3) then ((F_impl_in fu x_0.Number 1 3).bind fun y156 => (some y156)) else (bif (x_0.Kind == 9) then ((F_impl_in fu x_0.Number 0 1).bind fun y157 => (some y157)) else
    ((F_impl_isPort fu x_0.Number).bind fun y158 => (some y158))))))
def pcf_impl_isNumber (fu : Nat) (f : Nat) (xs : List (D RT den)) : Option (Out RT den) := match f with | 62 => S_impl_in fu xs | 122 => S_impl_isPort fu xs | _ => none
def pcx_impl_isNumber (fu : Nat) (f : Nat) (xs : List (D RT den)) (ins : List (Ob RT den)) : Option (OutX RT den) := none
def pc_impl_isNumber (fu : Nat) : Pc RT den := ⟨pcf_impl_isNumber fu, fun _ => false, fun _ => false, pcx_impl_isNumber fu⟩
def msk_impl_isNumber (b : Nat) : List Nat := []
def lp_impl_isNumber (fu : Nat) : Lp RT den (Bool) := fun b s k => none
theorem ev_impl_isNumber (fu : Nat) (x_0 : S_impl_Cmd) : evFun E (pc_impl_isNumber fu) msk_impl_isNumber (lp_impl_isNumber fu) out_bo 111 [(.agg [(.int .i64 x_0.Kind), (.int .i64 x_0.Expect), (.int .i64 x_0.Name), (.int .i64 x_0.Addr), (.int .i64 x_0.Number), (.int .i64 x_0.Proto)])] = F_impl_isNumber fu x_0 := by kernel_rfl
noncomputable def body_impl_isNumber : Code := Try.f111.body.getD .skip
theorem lpok_impl_isNumber (fu : Nat) : LpOk E (pc_impl_isNumber fu) msk_impl_isNumber (lp_impl_isNumber fu) (loops 0 body_impl_isNumber) := by
  have h : loops 0 body_impl_isNumber = [] := by kernel_rfl
  rw [h]; intro p hp; cases hp
def S_impl_isNumber (fu : Nat) (xs : List (D RT den)) : Option (Out RT den) := match xs with | [.agg [.int .i64 a0_1, .int .i64 a0_2, .int .i64 a0_3, .int .i64 a0_4, .int .i64 a0_5, .int .i64 a0_6]] => some ⟨Bool, F_impl_isNumber fu (⟨a0_1, a0_2, a0_3, a0_4, a0_5, a0_6⟩ : S_impl_Cmd), enc_bo, fun _ => true⟩ | _ => none
theorem hpc_impl_isNumber (fu : Nat) : ∀ f xs o, pcf_impl_isNumber fu f xs = some o → ∀ y, o.x = some y → Good E Try.prog f xs (o.g y) := by
  intro f xs o h
  unfold pcf_impl_isNumber at h
  split at h
  · exact good_impl_in fu xs o h
  · exact good_impl_isPort fu xs o h
  · cases h
theorem hpx_impl_isNumber (fu : Nat) : ∀ f xs ins o, pcx_impl_isNumber fu f xs ins = some o → ∀ y, o.x = some y → GoodX E Try.prog f xs ins (o.g y).1 (o.g y).2 := by
  intro f xs ins o h
  cases h
theorem goodv_impl_isNumber (fu : Nat) (x_0 : S_impl_Cmd) (y : Bool) (hy : F_impl_isNumber fu x_0 = some y) : Good E Try.prog 111 [(.agg [(.int .i64 x_0.Kind), (.int .i64 x_0.Expect), (.int .i64 x_0.Name), (.int .i64 x_0.Addr), (.int .i64 x_0.Number), (.int .i64 x_0.Proto)])] (enc_bo y) :=
  fun_good E_ok (pc_good (pc := pc_impl_isNumber fu) (hpc_impl_isNumber fu) (hpx_impl_isNumber fu)) (fn := Try.f111) (c := body_impl_isNumber) (out := out_bo) (y := y) (by kernel_rfl) (by kernel_rfl) (by kernel_rfl) (lpok_impl_isNumber fu) (fun d hd => out_bo_enc d _ hd) ((ev_impl_isNumber fu x_0).trans hy)
theorem good_impl_isNumber (fu : Nat) : ∀ xs o, S_impl_isNumber fu xs = some o → ∀ y, o.x = some y → Good E Try.prog 111 xs (o.g y) := by
  intro xs o h y hy
  unfold S_impl_isNumber at h
  split at h
  · rename_i a0_1 a0_2 a0_3 a0_4 a0_5 a0_6
    cases h
    exact goodv_impl_isNumber fu (⟨a0_1, a0_2, a0_3, a0_4, a0_5, a0_6⟩ : S_impl_Cmd) y hy
  · cases h

/-! impl.isProto -/
def F_impl_isProto (fu : Nat) (n_0 : Int) : Option (Bool) :=
  (((bif (n_0 == 6) then (some true) else (some (n_0 == 17))) : Option Bool).bind fun m160 => (some m160))
def pcf_impl_isProto (fu : Nat) (f : Nat) (xs : List (D RT den)) : Option (Out RT den) := none
def pcx_impl_isProto (fu : Nat) (f : Nat) (xs : List (D RT den)) (ins : List (Ob RT den)) : Option (OutX RT den) := none
def pc_impl_isProto (fu : Nat) : Pc RT den := ⟨pcf_impl_isProto fu, fun _ => false, fun _ => false, pcx_impl_isProto fu⟩
def msk_impl_isProto (b : Nat) : List Nat := match b with | 200001 => [2] | _ => []
def lp_impl_isProto (fu : Nat) : Lp RT den (Bool) := fun b s k => none
theorem ev_impl_isProto (fu : Nat) (n_0 : Int) : evFun E (pc_impl_isProto fu) msk_impl_isProto (lp_impl_isProto fu) out_bo 112 [(.int .i64 n_0)] = F_impl_isProto fu n_0 := by kernel_rfl
noncomputable def body_impl_isProto : Code := Try.f112.body.getD .skip
theorem lpok_impl_isProto (fu : Nat) : LpOk E (pc_impl_isProto fu) msk_impl_isProto (lp_impl_isProto fu) (loops 0 body_impl_isProto) := by
  have h : loops 0 body_impl_isProto = [] := by kernel_rfl
  rw [h]; intro p hp; cases hp
def S_impl_isProto (fu : Nat) (xs : List (D RT den)) : Option (Out RT den) := match xs with | [.int .i64 a0_0] => some ⟨Bool, F_impl_isProto fu a0_0, enc_bo, fun _ => true⟩ | _ => none
theorem hpc_impl_isProto (fu : Nat) : ∀ f xs o, pcf_impl_isProto fu f xs = some o → ∀ y, o.x = some y → Good E Try.prog f xs (o.g y) := by
  intro f xs o h
  cases h
theorem hpx_impl_isProto (fu : Nat) : ∀ f xs ins o, pcx_impl_isProto fu f xs ins = some o → ∀ y, o.x = some y → GoodX E Try.prog f xs ins (o.g y).1 (o.g y).2 := by
  intro f xs ins o h
  cases h
theorem goodv_impl_isProto (fu : Nat) (n_0 : Int) (y : Bool) (hy : F_impl_isProto fu n_0 = some y) : Good E Try.prog 112 [(.int .i64 n_0)] (enc_bo y) :=
  fun_good E_ok (pc_good (pc := pc_impl_isProto fu) (hpc_impl_isProto fu) (hpx_impl_isProto fu)) (fn := Try.f112) (c := body_impl_isProto) (out := out_bo) (y := y) (by kernel_rfl) (by kernel_rfl) (by kernel_rfl) (lpok_impl_isProto fu) (fun d hd => out_bo_enc d _ hd) ((ev_impl_isProto fu n_0).trans hy)
theorem good_impl_isProto (fu : Nat) : ∀ xs o, S_impl_isProto fu xs = some o → ∀ y, o.x = some y → Good E Try.prog 112 xs (o.g y) := by
  intro xs o h y hy
  unfold S_impl_isProto at h
  split at h
  · rename_i a0_0
    cases h
    exact goodv_impl_isProto fu a0_0 y hy
  · cases h

/-! impl.CmdFault -/
def F_impl_CmdFault (fu : Nat) (x_0 : S_impl_Cmd) : Option (Int) :=
  ((F_impl_in fu x_0.Kind 1 9).bind fun y130 => (bif (!y130) then (some 1) else ((F_impl_needs fu x_0.Kind).bind fun y131 => ((((F_impl_in fu x_0.Expect (-1) 1000000).bind fun y132 =>
    (bif (!y132) then (some true) else (bif y131.1 then ((F_impl_isName fu x_0.Name).bind fun y133 => (bif (!y133) then (some true) else (bif y131.2.1 then ((F_impl_isAddress fu x_0.Addr).bind fun y134 =>
    (bif (!y134) then (some true) else (bif y131.2.2.1 then ((F_impl_isNumber fu x_0).bind fun y135 => (bif (!y135) then (some true) else (bif y131.2.2.2 then ((F_impl_isProto fu x_0.Proto).bind fun y136 =>
    (some (!y136))) else (some false)))) else (bif y131.2.2.2 then ((F_impl_isProto fu x_0.Proto).bind fun y137 => (some (!y137))) else (some false))))) else (bif y131.2.2.1 then
    ((F_impl_isNumber fu x_0).bind fun y138 => (bif (!y138) then (some true) else (bif y131.2.2.2 then ((F_impl_isProto fu x_0.Proto).bind fun y139 => (some (!y139))) else (some false)))) else
    (bif y131.2.2.2 then ((F_impl_isProto fu x_0.Proto).bind fun y140 => (some (!y140))) else (some false)))))) else (bif y131.2.1 then ((F_impl_isAddress fu x_0.Addr).bind fun y141 =>
    (bif (!y141) then (some true) else (bif y131.2.2.1 then ((F_impl_isNumber fu x_0).bind fun y142 => (bif (!y142) then (some true) else (bif y131.2.2.2 then ((F_impl_isProto fu x_0.Proto).bind fun y143 =>
    (some (!y143))) else (some false)))) else (bif y131.2.2.2 then ((F_impl_isProto fu x_0.Proto).bind fun y144 => (some (!y144))) else (some false))))) else (bif y131.2.2.1 then
    ((F_impl_isNumber fu x_0).bind fun y145 => (bif (!y145) then (some true) else (bif y131.2.2.2 then ((F_impl_isProto fu x_0.Proto).bind fun y146 => (some (!y146))) else (some false)))) else
    (bif y131.2.2.2 then ((F_impl_isProto fu x_0.Proto).bind fun y147 => (some (!y147))) else (some false))))))) : Option Bool).bind fun m148 => (bif m148 then (some 3) else (((bif (!y131.1) then
    (bif (x_0.Name != 0) then (some true) else (bif (!y131.2.1) then (bif (x_0.Addr != 0) then (some true) else (bif (!y131.2.2.1) then (bif (x_0.Number != 0) then (some true) else
    (bif (!y131.2.2.2) then (some (x_0.Proto != 0)) else (some false))) else (bif (!y131.2.2.2) then (some (x_0.Proto != 0)) else (some false)))) else (bif (!y131.2.2.1) then (bif (x_0.Number != 0) then
    (some true) else (bif (!y131.2.2.2) then (some (x_0.Proto != 0)) else (some false))) else (bif (!y131.2.2.2) then (some (x_0.Proto != 0)) else (some false))))) else (bif (!y131.2.1) then
    (bif (x_0.Addr != 0) then (some true) else (bif (!y131.2.2.1) then (bif (x_0.Number != 0) then (some true) else (bif (!y131.2.2.2) then (some (x_0.Proto != 0)) else (some false))) else
    (bif (!y131.2.2.2) then (some (x_0.Proto != 0)) else (some false)))) else (bif (!y131.2.2.1) then (bif (x_0.Number != 0) then (some true) else (bif (!y131.2.2.2) then (some (x_0.Proto != 0)) else
    (some false))) else (bif (!y131.2.2.2) then (some (x_0.Proto != 0)) else (some false))))) : Option Bool).bind fun m149 => (bif m149 then (some 1) else (some 0))))))))
def pcf_impl_CmdFault (fu : Nat) (f : Nat) (xs : List (D RT den)) : Option (Out RT den) := match f with | 62 => S_impl_in fu xs | 108 => S_impl_needs fu xs | 109 => S_impl_isName fu xs | 110 => S_impl_isAddress fu xs | 111 => S_impl_isNumber fu xs | 112 => S_impl_isProto fu xs | _ => none
def pcx_impl_CmdFault (fu : Nat) (f : Nat) (xs : List (D RT den)) (ins : List (Ob RT den)) : Option (OutX RT den) := none
def pc_impl_CmdFault (fu : Nat) : Pc RT den := ⟨pcf_impl_CmdFault fu, fun _ => false, fun _ => false, pcx_impl_CmdFault fu⟩
def msk_impl_CmdFault (b : Nat) : List Nat := match b with | 200004 => [19] | 200006 => [59] | _ => []
def lp_impl_CmdFault (fu : Nat) : Lp RT den (Int) := fun b s k => none
theorem ev_impl_CmdFault (fu : Nat) (x_0 : S_impl_Cmd) : evFun E (pc_impl_CmdFault fu) msk_impl_CmdFault (lp_impl_CmdFault fu) out_i64 86 [(.agg [(.int .i64 x_0.Kind), (.int .i64 x_0.Expect), (.int .i64 x_0.Name), (.int .i64 x_0.Addr), (.int .i64 x_0.Number), (.int .i64 x_0.Proto)])] = F_impl_CmdFault fu x_0 := by kernel_rfl
noncomputable def body_impl_CmdFault : Code := Try.f86.body.getD .skip
theorem lpok_impl_CmdFault (fu : Nat) : LpOk E (pc_impl_CmdFault fu) msk_impl_CmdFault (lp_impl_CmdFault fu) (loops 0 body_impl_CmdFault) := by
  have h : loops 0 body_impl_CmdFault = [] := by kernel_rfl
  rw [h]; intro p hp; cases hp
def S_impl_CmdFault (fu : Nat) (xs : List (D RT den)) : Option (Out RT den) := match xs with | [.agg [.int .i64 a0_1, .int .i64 a0_2, .int .i64 a0_3, .int .i64 a0_4, .int .i64 a0_5, .int .i64 a0_6]] => some ⟨Int, F_impl_CmdFault fu (⟨a0_1, a0_2, a0_3, a0_4, a0_5, a0_6⟩ : S_impl_Cmd), enc_i64, fun _ => true⟩ | _ => none
theorem hpc_impl_CmdFault (fu : Nat) : ∀ f xs o, pcf_impl_CmdFault fu f xs = some o → ∀ y, o.x = some y → Good E Try.prog f xs (o.g y) := by
  intro f xs o h
  unfold pcf_impl_CmdFault at h
  split at h
  · exact good_impl_in fu xs o h
  · exact good_impl_needs fu xs o h
  · exact good_impl_isName fu xs o h
  · exact good_impl_isAddress fu xs o h
  · exact good_impl_isNumber fu xs o h
  · exact good_impl_isProto fu xs o h
  · cases h
theorem hpx_impl_CmdFault (fu : Nat) : ∀ f xs ins o, pcx_impl_CmdFault fu f xs ins = some o → ∀ y, o.x = some y → GoodX E Try.prog f xs ins (o.g y).1 (o.g y).2 := by
  intro f xs ins o h
  cases h
theorem goodv_impl_CmdFault (fu : Nat) (x_0 : S_impl_Cmd) (y : Int) (hy : F_impl_CmdFault fu x_0 = some y) : Good E Try.prog 86 [(.agg [(.int .i64 x_0.Kind), (.int .i64 x_0.Expect), (.int .i64 x_0.Name), (.int .i64 x_0.Addr), (.int .i64 x_0.Number), (.int .i64 x_0.Proto)])] (enc_i64 y) :=
  fun_good E_ok (pc_good (pc := pc_impl_CmdFault fu) (hpc_impl_CmdFault fu) (hpx_impl_CmdFault fu)) (fn := Try.f86) (c := body_impl_CmdFault) (out := out_i64) (y := y) (by kernel_rfl) (by kernel_rfl) (by kernel_rfl) (lpok_impl_CmdFault fu) (fun d hd => out_i64_enc d _ hd) ((ev_impl_CmdFault fu x_0).trans hy)
theorem good_impl_CmdFault (fu : Nat) : ∀ xs o, S_impl_CmdFault fu xs = some o → ∀ y, o.x = some y → Good E Try.prog 86 xs (o.g y) := by
  intro xs o h y hy
  unfold S_impl_CmdFault at h
  split at h
  · rename_i a0_1 a0_2 a0_3 a0_4 a0_5 a0_6
    cases h
    exact goodv_impl_CmdFault fu (⟨a0_1, a0_2, a0_3, a0_4, a0_5, a0_6⟩ : S_impl_Cmd) y hy
  · cases h

/-! impl.EntryFault -/
def F_impl_EntryFault (fu : Nat) (x_0 : S_impl_Entry) : Option (Int) :=
  ((((F_impl_in fu x_0.Term 1 100000).bind fun y124 => (bif (!y124) then (some true) else ((F_impl_in fu x_0.Client 0 999).bind fun y125 => (bif (!y125) then (some true) else
    ((F_impl_in fu x_0.Seq 0 1000000).bind fun y126 => (some (!y126))))))) : Option Bool).bind fun m127 => (bif m127 then (some 3) else (bif (!((x_0.Client == 0) == (x_0.Seq == 0))) then
    (some 1) else (bif (x_0.Client != 0) then ((F_impl_CmdFault fu x_0.Cmd).bind fun y128 => (some y128)) else (bif (!((x_0.Cmd.Kind == 0) && ((x_0.Cmd.Expect == 0) &&
    ((x_0.Cmd.Name == 0) && ((x_0.Cmd.Addr == 0) && ((x_0.Cmd.Number == 0) && ((x_0.Cmd.Proto == 0) && true))))))) then (some 1) else (some 0))))))
def pcf_impl_EntryFault (fu : Nat) (f : Nat) (xs : List (D RT den)) : Option (Out RT den) := match f with | 62 => S_impl_in fu xs | 86 => S_impl_CmdFault fu xs | _ => none
def pcx_impl_EntryFault (fu : Nat) (f : Nat) (xs : List (D RT den)) (ins : List (Ob RT den)) : Option (OutX RT den) := none
def pc_impl_EntryFault (fu : Nat) : Pc RT den := ⟨pcf_impl_EntryFault fu, fun _ => false, fun _ => false, pcx_impl_EntryFault fu⟩
def msk_impl_EntryFault (b : Nat) : List Nat := match b with | 200001 => [3] | _ => []
def lp_impl_EntryFault (fu : Nat) : Lp RT den (Int) := fun b s k => none
theorem ev_impl_EntryFault (fu : Nat) (x_0 : S_impl_Entry) : evFun E (pc_impl_EntryFault fu) msk_impl_EntryFault (lp_impl_EntryFault fu) out_i64 57 [(.agg [(.int .i64 x_0.Term), (.int .i64 x_0.Client), (.int .i64 x_0.Seq), (.int .i64 x_0.Cmd.Kind), (.int .i64 x_0.Cmd.Expect), (.int .i64 x_0.Cmd.Name), (.int .i64 x_0.Cmd.Addr), (.int .i64 x_0.Cmd.Number), (.int .i64 x_0.Cmd.Proto)])] = F_impl_EntryFault fu x_0 := by kernel_rfl
noncomputable def body_impl_EntryFault : Code := Try.f57.body.getD .skip
theorem lpok_impl_EntryFault (fu : Nat) : LpOk E (pc_impl_EntryFault fu) msk_impl_EntryFault (lp_impl_EntryFault fu) (loops 0 body_impl_EntryFault) := by
  have h : loops 0 body_impl_EntryFault = [] := by kernel_rfl
  rw [h]; intro p hp; cases hp
def S_impl_EntryFault (fu : Nat) (xs : List (D RT den)) : Option (Out RT den) := match xs with | [.agg [.int .i64 a0_1, .int .i64 a0_2, .int .i64 a0_3, .int .i64 a0_5, .int .i64 a0_6, .int .i64 a0_7, .int .i64 a0_8, .int .i64 a0_9, .int .i64 a0_10]] => some ⟨Int, F_impl_EntryFault fu (⟨a0_1, a0_2, a0_3, (⟨a0_5, a0_6, a0_7, a0_8, a0_9, a0_10⟩ : S_impl_Cmd)⟩ : S_impl_Entry), enc_i64, fun _ => true⟩ | _ => none
theorem hpc_impl_EntryFault (fu : Nat) : ∀ f xs o, pcf_impl_EntryFault fu f xs = some o → ∀ y, o.x = some y → Good E Try.prog f xs (o.g y) := by
  intro f xs o h
  unfold pcf_impl_EntryFault at h
  split at h
  · exact good_impl_in fu xs o h
  · exact good_impl_CmdFault fu xs o h
  · cases h
theorem hpx_impl_EntryFault (fu : Nat) : ∀ f xs ins o, pcx_impl_EntryFault fu f xs ins = some o → ∀ y, o.x = some y → GoodX E Try.prog f xs ins (o.g y).1 (o.g y).2 := by
  intro f xs ins o h
  cases h
theorem goodv_impl_EntryFault (fu : Nat) (x_0 : S_impl_Entry) (y : Int) (hy : F_impl_EntryFault fu x_0 = some y) : Good E Try.prog 57 [(.agg [(.int .i64 x_0.Term), (.int .i64 x_0.Client), (.int .i64 x_0.Seq), (.int .i64 x_0.Cmd.Kind), (.int .i64 x_0.Cmd.Expect), (.int .i64 x_0.Cmd.Name), (.int .i64 x_0.Cmd.Addr), (.int .i64 x_0.Cmd.Number), (.int .i64 x_0.Cmd.Proto)])] (enc_i64 y) :=
  fun_good E_ok (pc_good (pc := pc_impl_EntryFault fu) (hpc_impl_EntryFault fu) (hpx_impl_EntryFault fu)) (fn := Try.f57) (c := body_impl_EntryFault) (out := out_i64) (y := y) (by kernel_rfl) (by kernel_rfl) (by kernel_rfl) (lpok_impl_EntryFault fu) (fun d hd => out_i64_enc d _ hd) ((ev_impl_EntryFault fu x_0).trans hy)
theorem good_impl_EntryFault (fu : Nat) : ∀ xs o, S_impl_EntryFault fu xs = some o → ∀ y, o.x = some y → Good E Try.prog 57 xs (o.g y) := by
  intro xs o h y hy
  unfold S_impl_EntryFault at h
  split at h
  · rename_i a0_1 a0_2 a0_3 a0_5 a0_6 a0_7 a0_8 a0_9 a0_10
    cases h
    exact goodv_impl_EntryFault fu (⟨a0_1, a0_2, a0_3, (⟨a0_5, a0_6, a0_7, a0_8, a0_9, a0_10⟩ : S_impl_Cmd)⟩ : S_impl_Entry) y hy
  · cases h

/-! impl.LogFault -/
def F_impl_LogFault_B0 {ρ : Type} (fu : Nat) (log0_0 : (Sl S_impl_Entry)) (t9_1 : (Sl S_impl_Entry)) (t10_2 : Int) (k0 : Int → Int → Int → Int → Int → Int → Int → Int → Int → Int → Option ρ) (k1 : Int → Int → Int → Int → Int → Int → Int → Int → Int → Option ρ) (k2 : Option ρ) (t11_3 : Int) (go : Int → Option ρ) : Option ρ :=
  (bif (decide (t11_3 < t10_2)) then ((bif (decide (0 ≤ t11_3) && decide ((Int.toNat t11_3) < t9_1.n)) then some () else none : Option Unit).bind fun _ => ((F_impl_EntryFault fu (t9_1.f (Int.toNat t11_3))).bind fun y103 =>
    (bif (y103 != 0) then (k0 y103 (t9_1.f (Int.toNat t11_3)).Term (t9_1.f (Int.toNat t11_3)).Client (t9_1.f (Int.toNat t11_3)).Seq (t9_1.f (Int.toNat t11_3)).Cmd.Kind (t9_1.f (Int.toNat t11_3)).Cmd.Expect (t9_1.f (Int.toNat t11_3)).Cmd.Name (t9_1.f (Int.toNat t11_3)).Cmd.Addr (t9_1.f (Int.toNat t11_3)).Cmd.Number (t9_1.f (Int.toNat t11_3)).Cmd.Proto) else
    (((bif (decide (t11_3 > 0)) then ((bif (decide (0 ≤ (IntKind.wrap .i64 (t11_3 - 1))) && decide ((Int.toNat (IntKind.wrap .i64 (t11_3 - 1))) < log0_0.n)) then some () else none : Option Unit).bind fun _ =>
    (some (decide ((t9_1.f (Int.toNat t11_3)).Term < (log0_0.f (Int.toNat (IntKind.wrap .i64 (t11_3 - 1)))).Term)))) else (some false)) : Option Bool).bind fun m104 => (bif m104 then
    (k1 (t9_1.f (Int.toNat t11_3)).Term (t9_1.f (Int.toNat t11_3)).Client (t9_1.f (Int.toNat t11_3)).Seq (t9_1.f (Int.toNat t11_3)).Cmd.Kind (t9_1.f (Int.toNat t11_3)).Cmd.Expect (t9_1.f (Int.toNat t11_3)).Cmd.Name (t9_1.f (Int.toNat t11_3)).Cmd.Addr (t9_1.f (Int.toNat t11_3)).Cmd.Number (t9_1.f (Int.toNat t11_3)).Cmd.Proto) else
    (go (IntKind.wrap .i64 (t11_3 + 1)))))))) else k2)
def F_impl_LogFault (fu : Nat) (log_0 : (Sl S_impl_Entry)) : Option (Int) :=
  (bif (decide (((log_0.n : Nat) : Int) > 40)) then (some 2) else (L (fun w0 go0 => F_impl_LogFault_B0 fu log_0 log_0 ((log_0.n : Nat) : Int) (fun z105 z106 z107 z108 z109 z110 z111 z112 z113 z114 =>
    (some z105)) (fun z115 z116 z117 z118 z119 z120 z121 z122 z123 => (some 1)) (some 0) w0 go0) fu (0 : Int)))
def pcf_impl_LogFault (fu : Nat) (f : Nat) (xs : List (D RT den)) : Option (Out RT den) := match f with | 57 => S_impl_EntryFault fu xs | _ => none
def pcx_impl_LogFault (fu : Nat) (f : Nat) (xs : List (D RT den)) (ins : List (Ob RT den)) : Option (OutX RT den) := none
def pc_impl_LogFault (fu : Nat) : Pc RT den := ⟨pcf_impl_LogFault fu, fun _ => false, fun _ => false, pcx_impl_LogFault fu⟩
def msk_impl_LogFault (b : Nat) : List Nat := match b with | 0 => [1, 2, 3, 4, 5, 6, 7, 8, 12, 13, 14, 15, 16, 17, 18, 19, 20, 21, 22, 23, 24, 25, 26, 27, 28, 29, 30, 31, 32, 33, 34] | 100000 => [0, 1, 3, 4, 5, 6, 7, 8, 9, 10, 11, 12, 13, 14, 15, 16, 17, 18, 19, 20, 21, 22, 23, 24, 25, 26, 27, 28, 29, 30, 31, 32, 33, 34] | 200009 => [33] | _ => []
def ps_impl_LogFault_0 : List (Pat RT) := [.flat (.rs .impl_Entry), .flat .dead, .flat .dead, .flat .dead, .flat .dead, .flat .dead, .flat .dead, .flat .dead, .flat .dead, .flat (.rs .impl_Entry), .flat (.int .i64), .flat (.int .i64), .flat .dead, .flat .dead, .flat .dead, .flat .dead, .flat .dead, .flat .dead, .flat .dead, .flat .dead, .flat .dead, .flat .dead, .flat .dead, .flat .dead, .flat .dead, .flat .dead, .flat .dead, .flat .dead, .flat .dead, .flat .dead, .flat .dead, .flat .dead, .flat .dead, .flat .dead, .flat .dead]
def os_impl_LogFault_0 : List (OP RT) := []
def conv_impl_LogFault_0 (r : Raw den ps_impl_LogFault_0 os_impl_LogFault_0) : ((Sl S_impl_Entry) × (Sl S_impl_Entry) × Int) × (Int) := ((r.1.1, r.1.2.2.2.2.2.2.2.2.2.1, r.1.2.2.2.2.2.2.2.2.2.2.1), r.1.2.2.2.2.2.2.2.2.2.2.2.1)
def back_impl_LogFault_0 (c : (Sl S_impl_Entry) × (Sl S_impl_Entry) × Int) (w : Int) : St RT den := ⟨[(.rs c.1.z .impl_Entry c.1.n c.1.f), .dead, .dead, .dead, .dead, .dead, .dead, .dead, .dead, (.rs c.2.1.z .impl_Entry c.2.1.n c.2.1.f), (.int .i64 c.2.2), (.int .i64 w), .dead, .dead, .dead, .dead, .dead, .dead, .dead, .dead, .dead, .dead, .dead, .dead, .dead, .dead, .dead, .dead, .dead, .dead, .dead, .dead, .dead, .dead, .dead], []⟩
def Bk_impl_LogFault_0 {ρ : Type} (fu : Nat) (c : (Sl S_impl_Entry) × (Sl S_impl_Entry) × Int) (k : Ex → St RT den → Option ρ) (w : Int) (go : (Int) → Option ρ) : Option ρ := F_impl_LogFault_B0 fu c.1 c.2.1 c.2.2 (fun a0 a1 a2 a3 a4 a5 a6 a7 a8 a9 => k .ret ⟨[.dead, .dead, (.int .i64 a0), .dead, .dead, .dead, .dead, .dead, .dead, .dead, .dead, .dead, .dead, .dead, .dead, .dead, .dead, .dead, .dead, .dead, .dead, .dead, .dead, .dead, .dead, .dead, .dead, .dead, .dead, .dead, .dead, .dead, .dead, .dead, .dead], [(.box [(.int .i64 a1), (.int .i64 a2), (.int .i64 a3), (.int .i64 a4), (.int .i64 a5), (.int .i64 a6), (.int .i64 a7), (.int .i64 a8), (.int .i64 a9)])]⟩) (fun a0 a1 a2 a3 a4 a5 a6 a7 a8 => k .ret ⟨[.dead, .dead, (.int .i64 1), .dead, .dead, .dead, .dead, .dead, .dead, .dead, .dead, .dead, .dead, .dead, .dead, .dead, .dead, .dead, .dead, .dead, .dead, .dead, .dead, .dead, .dead, .dead, .dead, .dead, .dead, .dead, .dead, .dead, .dead, .dead, .dead], [(.box [(.int .i64 a0), (.int .i64 a1), (.int .i64 a2), (.int .i64 a3), (.int .i64 a4), (.int .i64 a5), (.int .i64 a6), (.int .i64 a7), (.int .i64 a8)])]⟩) (k (.exit 0) ⟨[.dead, .dead, .dead, .dead, .dead, .dead, .dead, .dead, .dead, .dead, .dead, .dead, .dead, .dead, .dead, .dead, .dead, .dead, .dead, .dead, .dead, .dead, .dead, .dead, .dead, .dead, .dead, .dead, .dead, .dead, .dead, .dead, .dead, .dead, .dead], []⟩) w go
def lp_impl_LogFault (fu : Nat) : Lp RT den (Int) := fun b s k => match b with | 0 => handle ps_impl_LogFault_0 os_impl_LogFault_0 conv_impl_LogFault_0 (Bk_impl_LogFault_0 fu) fu s k | _ => none
theorem ev_impl_LogFault (fu : Nat) (log_0 : (Sl S_impl_Entry)) : evFun E (pc_impl_LogFault fu) msk_impl_LogFault (lp_impl_LogFault fu) out_i64 19 [(.rs log_0.z .impl_Entry log_0.n log_0.f)] = F_impl_LogFault fu log_0 := by kernel_rfl
noncomputable def body_impl_LogFault : Code := Try.f19.body.getD .skip
noncomputable def lc_impl_LogFault_0 : Code := ((loops 0 body_impl_LogFault).getD 0 (0, .skip)).2
theorem round_impl_LogFault_0 (fu : Nat) (it : St RT den → Option (Int)) (k : Ex → St RT den → Option (Int)) c w : evCode E (pc_impl_LogFault fu) msk_impl_LogFault (lp_impl_LogFault fu) 0 lc_impl_LogFault_0 (back_impl_LogFault_0 c w) (after (msk_impl_LogFault 0) (msk_impl_LogFault 100000) 0 it k) = Bk_impl_LogFault_0 fu c k w (fun w => it (back_impl_LogFault_0 c w)) := by kernel_rfl
theorem lpok_impl_LogFault_0 (fu : Nat) : ∀ s k r, lp_impl_LogFault fu 0 s k = some r → ∃ fuel, iter (msk_impl_LogFault 0) (msk_impl_LogFault 100000) s.objs.length (evCode E (pc_impl_LogFault fu) msk_impl_LogFault (lp_impl_LogFault fu) 0 lc_impl_LogFault_0) fuel s k = some r :=
  handle_ok (ps := ps_impl_LogFault_0) (os := os_impl_LogFault_0) (conv := conv_impl_LogFault_0) (B := Bk_impl_LogFault_0 fu) (fu := fu) back_impl_LogFault_0 (fun raw => by kernel_rfl) 0 (fun c w => by kernel_rfl) (round_impl_LogFault_0 fu)
theorem lpok_impl_LogFault (fu : Nat) : LpOk E (pc_impl_LogFault fu) msk_impl_LogFault (lp_impl_LogFault fu) (loops 0 body_impl_LogFault) := loop_all 1 (by kernel_rfl) fun i hi => match i, hi with
  | 0, _ => by
    have h : (loops 0 body_impl_LogFault).getD 0 (0, .skip) = (0, lc_impl_LogFault_0) := by kernel_rfl
    rw [h]; exact lpok_impl_LogFault_0 fu
  | i + 1, hi => absurd hi (by omega)
def S_impl_LogFault (fu : Nat) (xs : List (D RT den)) : Option (Out RT den) := match xs with | [.rs za0_0 .impl_Entry na0_0 fa0_0] => some ⟨Int, F_impl_LogFault fu (⟨za0_0, na0_0, fa0_0⟩ : (Sl S_impl_Entry)), enc_i64, fun _ => true⟩ | _ => none
theorem hpc_impl_LogFault (fu : Nat) : ∀ f xs o, pcf_impl_LogFault fu f xs = some o → ∀ y, o.x = some y → Good E Try.prog f xs (o.g y) := by
  intro f xs o h
  unfold pcf_impl_LogFault at h
  split at h
  · exact good_impl_EntryFault fu xs o h
  · cases h
theorem hpx_impl_LogFault (fu : Nat) : ∀ f xs ins o, pcx_impl_LogFault fu f xs ins = some o → ∀ y, o.x = some y → GoodX E Try.prog f xs ins (o.g y).1 (o.g y).2 := by
  intro f xs ins o h
  cases h
theorem goodv_impl_LogFault (fu : Nat) (log_0 : (Sl S_impl_Entry)) (y : Int) (hy : F_impl_LogFault fu log_0 = some y) : Good E Try.prog 19 [(.rs log_0.z .impl_Entry log_0.n log_0.f)] (enc_i64 y) :=
  fun_good E_ok (pc_good (pc := pc_impl_LogFault fu) (hpc_impl_LogFault fu) (hpx_impl_LogFault fu)) (fn := Try.f19) (c := body_impl_LogFault) (out := out_i64) (y := y) (by kernel_rfl) (by kernel_rfl) (by kernel_rfl) (lpok_impl_LogFault fu) (fun d hd => out_i64_enc d _ hd) ((ev_impl_LogFault fu log_0).trans hy)
theorem good_impl_LogFault (fu : Nat) : ∀ xs o, S_impl_LogFault fu xs = some o → ∀ y, o.x = some y → Good E Try.prog 19 xs (o.g y) := by
  intro xs o h y hy
  unfold S_impl_LogFault at h
  split at h
  · rename_i za0_0 na0_0 fa0_0
    cases h
    exact goodv_impl_LogFault fu (⟨za0_0, na0_0, fa0_0⟩ : (Sl S_impl_Entry)) y hy
  · cases h

/-! impl.fits -/
def F_impl_fits (fu : Nat) (log_0 : (Sl S_impl_Entry)) (index_1 : Int) (term_2 : Int) : Option (Bool) :=
  (bif (index_1 == 0) then (some (term_2 == 0)) else ((((F_impl_size_impl_Entry fu log_0).bind fun y161 => ((F_impl_in fu index_1 1 y161).bind fun y162 => (bif y162 then ((bif (decide (0 ≤ (IntKind.wrap .i64 (index_1 - 1))) &&
    decide ((Int.toNat (IntKind.wrap .i64 (index_1 - 1))) < log_0.n)) then some () else none : Option Unit).bind fun _ => (some ((log_0.f (Int.toNat (IntKind.wrap .i64 (index_1 - 1)))).Term == term_2))) else
    (some false)))) : Option Bool).bind fun m163 => (some m163)))
def pcf_impl_fits (fu : Nat) (f : Nat) (xs : List (D RT den)) : Option (Out RT den) := match f with | 62 => S_impl_in fu xs | 80 => S_impl_size_impl_Entry fu xs | _ => none
def pcx_impl_fits (fu : Nat) (f : Nat) (xs : List (D RT den)) (ins : List (Ob RT den)) : Option (OutX RT den) := none
def pc_impl_fits (fu : Nat) : Pc RT den := ⟨pcf_impl_fits fu, fun _ => false, fun _ => false, pcx_impl_fits fu⟩
def msk_impl_fits (b : Nat) : List Nat := match b with | 200003 => [6] | _ => []
def lp_impl_fits (fu : Nat) : Lp RT den (Bool) := fun b s k => none
theorem ev_impl_fits (fu : Nat) (log_0 : (Sl S_impl_Entry)) (index_1 : Int) (term_2 : Int) : evFun E (pc_impl_fits fu) msk_impl_fits (lp_impl_fits fu) out_bo 45 [(.rs log_0.z .impl_Entry log_0.n log_0.f), (.int .i64 index_1), (.int .i64 term_2)] = F_impl_fits fu log_0 index_1 term_2 := by kernel_rfl
noncomputable def body_impl_fits : Code := Try.f45.body.getD .skip
theorem lpok_impl_fits (fu : Nat) : LpOk E (pc_impl_fits fu) msk_impl_fits (lp_impl_fits fu) (loops 0 body_impl_fits) := by
  have h : loops 0 body_impl_fits = [] := by kernel_rfl
  rw [h]; intro p hp; cases hp
def S_impl_fits (fu : Nat) (xs : List (D RT den)) : Option (Out RT den) := match xs with | [.rs za0_0 .impl_Entry na0_0 fa0_0, .int .i64 a1_0, .int .i64 a2_0] => some ⟨Bool, F_impl_fits fu (⟨za0_0, na0_0, fa0_0⟩ : (Sl S_impl_Entry)) a1_0 a2_0, enc_bo, fun _ => true⟩ | _ => none
theorem hpc_impl_fits (fu : Nat) : ∀ f xs o, pcf_impl_fits fu f xs = some o → ∀ y, o.x = some y → Good E Try.prog f xs (o.g y) := by
  intro f xs o h
  unfold pcf_impl_fits at h
  split at h
  · exact good_impl_in fu xs o h
  · exact good_impl_size_impl_Entry fu xs o h
  · cases h
theorem hpx_impl_fits (fu : Nat) : ∀ f xs ins o, pcx_impl_fits fu f xs ins = some o → ∀ y, o.x = some y → GoodX E Try.prog f xs ins (o.g y).1 (o.g y).2 := by
  intro f xs ins o h
  cases h
theorem goodv_impl_fits (fu : Nat) (log_0 : (Sl S_impl_Entry)) (index_1 : Int) (term_2 : Int) (y : Bool) (hy : F_impl_fits fu log_0 index_1 term_2 = some y) : Good E Try.prog 45 [(.rs log_0.z .impl_Entry log_0.n log_0.f), (.int .i64 index_1), (.int .i64 term_2)] (enc_bo y) :=
  fun_good E_ok (pc_good (pc := pc_impl_fits fu) (hpc_impl_fits fu) (hpx_impl_fits fu)) (fn := Try.f45) (c := body_impl_fits) (out := out_bo) (y := y) (by kernel_rfl) (by kernel_rfl) (by kernel_rfl) (lpok_impl_fits fu) (fun d hd => out_bo_enc d _ hd) ((ev_impl_fits fu log_0 index_1 term_2).trans hy)
theorem good_impl_fits (fu : Nat) : ∀ xs o, S_impl_fits fu xs = some o → ∀ y, o.x = some y → Good E Try.prog 45 xs (o.g y) := by
  intro xs o h y hy
  unfold S_impl_fits at h
  split at h
  · rename_i za0_0 na0_0 fa0_0 a1_0 a2_0
    cases h
    exact goodv_impl_fits fu (⟨za0_0, na0_0, fa0_0⟩ : (Sl S_impl_Entry)) a1_0 a2_0 y hy
  · cases h

/-! impl.TakeEntries -/
def F_impl_TakeEntries_H (fu : Nat) (log_0 : (Sl S_impl_Entry)) (index_1 : Int) (term_2 : Int) (more_3 : (Sl S_impl_Entry)) : Option (S_impl_EntriesResult) :=
  ((F_impl_LogFault fu log_0).bind fun y79 => (bif (y79 == 0) then ((F_impl_LogFault fu more_3).bind fun y80 => (bif (y80 != 0) then (some (⟨y80, (⟨(some true), 0, (fun _ => dflt .impl_Entry)⟩ : (Sl S_impl_Entry))⟩ : S_impl_EntriesResult)) else
    ((F_impl_fits fu log_0 index_1 term_2).bind fun y81 => (bif (!y81) then (some (⟨9, (⟨(some true), 0, (fun _ => dflt .impl_Entry)⟩ : (Sl S_impl_Entry))⟩ : S_impl_EntriesResult)) else
    (((bif (decide (((more_3.n : Nat) : Int) > 0)) then ((bif (decide (0 ≤ (0 : Int)) && decide ((Int.toNat 0) < more_3.n)) then some () else none : Option Unit).bind fun _ => (some (decide ((more_3.f (Int.toNat 0)).Term < term_2)))) else
    (some false)) : Option Bool).bind fun m82 => (bif m82 then (some (⟨1, (⟨(some true), 0, (fun _ => dflt .impl_Entry)⟩ : (Sl S_impl_Entry))⟩ : S_impl_EntriesResult)) else
    ((F_impl_take_H fu log_0 index_1 more_3).bind fun y99 => (some (⟨y99.Code, (⟨none, y99.Entries.n, y99.Entries.f⟩ : (Sl S_impl_Entry))⟩ : S_impl_EntriesResult))))))))) else (bif (y79 != 0) then
    (some (⟨y79, (⟨(some true), 0, (fun _ => dflt .impl_Entry)⟩ : (Sl S_impl_Entry))⟩ : S_impl_EntriesResult)) else ((F_impl_fits fu log_0 index_1 term_2).bind fun y100 => (bif (!y100) then
    (some (⟨9, (⟨(some true), 0, (fun _ => dflt .impl_Entry)⟩ : (Sl S_impl_Entry))⟩ : S_impl_EntriesResult)) else (((bif (decide (((more_3.n : Nat) : Int) > 0)) then ((bif (decide (0 ≤ (0 : Int)) &&
    decide ((Int.toNat 0) < more_3.n)) then some () else none : Option Unit).bind fun _ => (some (decide ((more_3.f (Int.toNat 0)).Term < term_2)))) else (some false)) : Option Bool).bind fun m101 =>
    (bif m101 then (some (⟨1, (⟨(some true), 0, (fun _ => dflt .impl_Entry)⟩ : (Sl S_impl_Entry))⟩ : S_impl_EntriesResult)) else ((F_impl_take_H fu log_0 index_1 more_3).bind fun y102 =>
    (some (⟨y102.Code, (⟨none, y102.Entries.n, y102.Entries.f⟩ : (Sl S_impl_Entry))⟩ : S_impl_EntriesResult))))))))))
def pcf_impl_TakeEntries_H (fu : Nat) (f : Nat) (xs : List (D RT den)) : Option (Out RT den) := match f with | 19 => S_impl_LogFault fu xs | 45 => S_impl_fits fu xs | _ => none
def pcx_impl_TakeEntries_H (fu : Nat) (f : Nat) (xs : List (D RT den)) (ins : List (Ob RT den)) : Option (OutX RT den) := match f with | 46 => S_impl_take_H fu xs ins | _ => none
def pc_impl_TakeEntries_H (fu : Nat) : Pc RT den := ⟨pcf_impl_TakeEntries_H fu, fun f => match f with | 46 => true | _ => false, fun _ => false, pcx_impl_TakeEntries_H fu⟩
def msk_impl_TakeEntries_H (b : Nat) : List Nat := match b with | 200008 => [28] | _ => []
def lp_impl_TakeEntries_H (fu : Nat) : Lp RT den (S_impl_EntriesResult) := fun b s k => none
theorem ev_impl_TakeEntries_H (fu : Nat) (log_0 : (Sl S_impl_Entry)) (index_1 : Int) (term_2 : Int) (more_3 : (Sl S_impl_Entry)) : evFunX E (pc_impl_TakeEntries_H fu) msk_impl_TakeEntries_H (lp_impl_TakeEntries_H fu) out_impl_EntriesResult_H 11 [(.rs log_0.z .impl_Entry log_0.n log_0.f), (.int .i64 index_1), (.int .i64 term_2), (.rs more_3.z .impl_Entry more_3.n more_3.f)] [] = F_impl_TakeEntries_H fu log_0 index_1 term_2 more_3 := by kernel_rfl
noncomputable def body_impl_TakeEntries_H : Code := Try.f11.body.getD .skip
theorem lpok_impl_TakeEntries_H (fu : Nat) : LpOk E (pc_impl_TakeEntries_H fu) msk_impl_TakeEntries_H (lp_impl_TakeEntries_H fu) (loops 0 body_impl_TakeEntries_H) := by
  have h : loops 0 body_impl_TakeEntries_H = [] := by kernel_rfl
  rw [h]; intro p hp; cases hp
def S_impl_TakeEntries_H (fu : Nat) (xs : List (D RT den)) (ins : List (Ob RT den)) : Option (OutX RT den) := match xs, ins with | [.rs za0_0 .impl_Entry na0_0 fa0_0, .int .i64 a1_0, .int .i64 a2_0, .rs za3_0 .impl_Entry na3_0 fa3_0], [] => some ⟨S_impl_EntriesResult, F_impl_TakeEntries_H fu (⟨za0_0, na0_0, fa0_0⟩ : (Sl S_impl_Entry)) a1_0 a2_0 (⟨za3_0, na3_0, fa3_0⟩ : (Sl S_impl_Entry)), enc_impl_EntriesResult_H⟩ | _, _ => none
theorem hpc_impl_TakeEntries_H (fu : Nat) : ∀ f xs o, pcf_impl_TakeEntries_H fu f xs = some o → ∀ y, o.x = some y → Good E Try.prog f xs (o.g y) := by
  intro f xs o h
  unfold pcf_impl_TakeEntries_H at h
  split at h
  · exact good_impl_LogFault fu xs o h
  · exact good_impl_fits fu xs o h
  · cases h
theorem hpx_impl_TakeEntries_H (fu : Nat) : ∀ f xs ins o, pcx_impl_TakeEntries_H fu f xs ins = some o → ∀ y, o.x = some y → GoodX E Try.prog f xs ins (o.g y).1 (o.g y).2 := by
  intro f xs ins o h
  unfold pcx_impl_TakeEntries_H at h
  split at h
  · exact good_impl_take_H fu xs ins o h
  · cases h
theorem goodv_impl_TakeEntries_H (fu : Nat) (log_0 : (Sl S_impl_Entry)) (index_1 : Int) (term_2 : Int) (more_3 : (Sl S_impl_Entry)) (y : S_impl_EntriesResult) (hy : F_impl_TakeEntries_H fu log_0 index_1 term_2 more_3 = some y) : GoodX E Try.prog 11 [(.rs log_0.z .impl_Entry log_0.n log_0.f), (.int .i64 index_1), (.int .i64 term_2), (.rs more_3.z .impl_Entry more_3.n more_3.f)] [] (enc_impl_EntriesResult_H y).1 (enc_impl_EntriesResult_H y).2 :=
  funX_good E_ok (pc_good (pc := pc_impl_TakeEntries_H fu) (hpc_impl_TakeEntries_H fu) (hpx_impl_TakeEntries_H fu)) (fn := Try.f11) (c := body_impl_TakeEntries_H) (out := out_impl_EntriesResult_H) (y := y) (by kernel_rfl) (by kernel_rfl) (by kernel_rfl) (lpok_impl_TakeEntries_H fu) (by kernel_rfl) (Nat.zero_le _) (fun d os hd => out_impl_EntriesResult_H_enc d os _ hd) ((ev_impl_TakeEntries_H fu log_0 index_1 term_2 more_3).trans hy)
theorem good_impl_TakeEntries_H (fu : Nat) : ∀ xs ins o, S_impl_TakeEntries_H fu xs ins = some o → ∀ y, o.x = some y → GoodX E Try.prog 11 xs ins (o.g y).1 (o.g y).2 := by
  intro xs ins o h y hy
  unfold S_impl_TakeEntries_H at h
  split at h
  · rename_i za0_0 na0_0 fa0_0 a1_0 a2_0 za3_0 na3_0 fa3_0
    cases h
    exact goodv_impl_TakeEntries_H fu (⟨za0_0, na0_0, fa0_0⟩ : (Sl S_impl_Entry)) a1_0 a2_0 (⟨za3_0, na3_0, fa3_0⟩ : (Sl S_impl_Entry)) y hy
  · cases h

/-! laws.markEntryS -/
def F_laws_markEntryS_L_B0 {ρ : Type} (fu : Nat) (a0_0 : Nat) (on0_3 : Nat) (k0 : Int → (Nat → S_impl_Entry) → Option ρ) (k1_1 : Int) (i5_2 : Int) (of0_4 : (Nat → S_impl_Entry)) (go : Int → Int → (Nat → S_impl_Entry) → Option ρ) : Option ρ :=
  (bif (decide (i5_2 < ((a0_0 : Nat) : Int))) then ((bif (decide (0 ≤ i5_2) && decide ((Int.toNat i5_2) < a0_0)) then some () else none : Option Unit).bind fun _ => ((bif (decide (0 ≤ i5_2) &&
    decide ((Int.toNat i5_2) < a0_0)) then some () else none : Option Unit).bind fun _ => ((bif (decide (0 ≤ i5_2) && decide ((Int.toNat i5_2) < a0_0)) then some () else none : Option Unit).bind fun _ =>
    ((bif (decide (0 ≤ i5_2) && decide ((Int.toNat i5_2) < a0_0)) then some () else none : Option Unit).bind fun _ => ((bif (decide (0 ≤ i5_2) && decide ((Int.toNat i5_2) < a0_0)) then
    some () else none : Option Unit).bind fun _ => ((bif (decide (0 ≤ i5_2) && decide ((Int.toNat i5_2) < a0_0)) then some () else none : Option Unit).bind fun _ => ((bif (decide (0 ≤ i5_2) &&
    decide ((Int.toNat i5_2) < a0_0)) then some () else none : Option Unit).bind fun _ => ((bif (decide (0 ≤ i5_2) && decide ((Int.toNat i5_2) < a0_0)) then some () else none : Option Unit).bind fun _ =>
    ((bif (decide (0 ≤ i5_2) && decide ((Int.toNat i5_2) < a0_0)) then some () else none : Option Unit).bind fun _ => (go (IntKind.wrap .i64 ((IntKind.wrap .i64 ((IntKind.wrap .i64 ((IntKind.wrap .i64 ((IntKind.wrap .i64 ((IntKind.wrap .i64 ((IntKind.wrap .i64 ((IntKind.wrap .i64 ((IntKind.wrap .i64 (k1_1 + 1)) + 1)) + 1)) + 1)) + 1)) + 1)) + 1)) + 1)) + 1)) (IntKind.wrap .i64 (i5_2 + 1)) (upd_impl_Entry_8_1 (upd_impl_Entry_7_1 (upd_impl_Entry_6_1 (upd_impl_Entry_5_1 (upd_impl_Entry_4_1 (upd_impl_Entry_3_1 (upd_impl_Entry_2_1 (upd_impl_Entry_1_1 (upd_impl_Entry_0_1 of0_4 (Int.toNat i5_2) k1_1) (Int.toNat i5_2) (IntKind.wrap .i64 (k1_1 + 1))) (Int.toNat i5_2) (IntKind.wrap .i64 ((IntKind.wrap .i64 (k1_1 + 1)) + 1))) (Int.toNat i5_2) (IntKind.wrap .i64 ((IntKind.wrap .i64 ((IntKind.wrap .i64 (k1_1 + 1)) + 1)) + 1))) (Int.toNat i5_2) (IntKind.wrap .i64 ((IntKind.wrap .i64 ((IntKind.wrap .i64 ((IntKind.wrap .i64 (k1_1 + 1)) + 1)) + 1)) + 1))) (Int.toNat i5_2) (IntKind.wrap .i64 ((IntKind.wrap .i64 ((IntKind.wrap .i64 ((IntKind.wrap .i64 ((IntKind.wrap .i64 (k1_1 + 1)) + 1)) + 1)) + 1)) + 1))) (Int.toNat i5_2) (IntKind.wrap .i64 ((IntKind.wrap .i64 ((IntKind.wrap .i64 ((IntKind.wrap .i64 ((IntKind.wrap .i64 ((IntKind.wrap .i64 (k1_1 + 1)) + 1)) + 1)) + 1)) + 1)) + 1))) (Int.toNat i5_2) (IntKind.wrap .i64 ((IntKind.wrap .i64 ((IntKind.wrap .i64 ((IntKind.wrap .i64 ((IntKind.wrap .i64 ((IntKind.wrap .i64 ((IntKind.wrap .i64 (k1_1 + 1)) + 1)) + 1)) + 1)) + 1)) + 1)) + 1))) (Int.toNat i5_2) (IntKind.wrap .i64 ((IntKind.wrap .i64 ((IntKind.wrap .i64 ((IntKind.wrap .i64 ((IntKind.wrap .i64 ((IntKind.wrap .i64 ((IntKind.wrap .i64 ((IntKind.wrap .i64 (k1_1 + 1)) + 1)) + 1)) + 1)) + 1)) + 1)) + 1)) + 1))))))))))))) else
    (k0 k1_1 of0_4))
def F_laws_markEntryS_L (fu : Nat) (a_0_0 : Nat) (k_1_1 : Int) (rn0 : Nat) (rf0 : (Nat → S_impl_Entry)) : Option (Int × (Nat × (Nat → S_impl_Entry))) :=
  (L (fun w0 go0 => F_laws_markEntryS_L_B0 fu a_0_0 rn0 (fun z170 z171 => (some (z170, (rn0, z171)))) w0.1 w0.2.1 w0.2.2 (fun q0 q1 q2 => go0 (q0, q1, q2))) fu ((k_1_1, 0, rf0) : Int × Int × (Nat → S_impl_Entry)))
def pcf_laws_markEntryS_L (fu : Nat) (f : Nat) (xs : List (D RT den)) : Option (Out RT den) := none
def pcx_laws_markEntryS_L (fu : Nat) (f : Nat) (xs : List (D RT den)) (ins : List (Ob RT den)) : Option (OutX RT den) := none
def pc_laws_markEntryS_L (fu : Nat) : Pc RT den := ⟨pcf_laws_markEntryS_L fu, fun _ => false, fun _ => false, pcx_laws_markEntryS_L fu⟩
def msk_laws_markEntryS_L (b : Nat) : List Nat := match b with | 0 => [2, 3, 4, 6, 7, 8, 9, 10, 11, 12, 13, 14, 15, 16, 17, 18, 19, 20, 21, 22, 23, 24, 25, 26, 27, 28, 29, 30, 31, 32, 33, 34, 35, 36, 37, 38, 39, 40, 41, 42, 43, 44, 45, 46, 47, 48, 49, 50, 51, 52, 53, 54, 55, 56, 57, 58, 59, 60, 61, 62, 63, 64, 65, 66, 67, 68, 69, 70, 71, 72, 73, 74, 75, 76, 77, 78, 79, 80, 81] | 100000 => [0, 2, 3, 5, 6, 7, 8, 9, 10, 11, 12, 13, 14, 15, 16, 17, 18, 19, 20, 21, 22, 23, 24, 25, 26, 27, 28, 29, 30, 31, 32, 33, 34, 35, 36, 37, 38, 39, 40, 41, 42, 43, 44, 45, 46, 47, 48, 49, 50, 51, 52, 53, 54, 55, 56, 57, 58, 59, 60, 61, 62, 63, 64, 65, 66, 67, 68, 69, 70, 71, 72, 73, 74, 75, 76, 77, 78, 79, 80, 81] | _ => []
def ps_laws_markEntryS_L_0 : List (Pat RT) := [.flat (.os 0), .flat (.int .i64), .flat .dead, .flat .dead, .flat .dead, .flat (.int .i64), .flat .dead, .flat .dead, .flat .dead, .flat .dead, .flat .dead, .flat .dead, .flat .dead, .flat .dead, .flat .dead, .flat .dead, .flat .dead, .flat .dead, .flat .dead, .flat .dead, .flat .dead, .flat .dead, .flat .dead, .flat .dead, .flat .dead, .flat .dead, .flat .dead, .flat .dead, .flat .dead, .flat .dead, .flat .dead, .flat .dead, .flat .dead, .flat .dead, .flat .dead, .flat .dead, .flat .dead, .flat .dead, .flat .dead, .flat .dead, .flat .dead, .flat .dead, .flat .dead, .flat .dead, .flat .dead, .flat .dead, .flat .dead, .flat .dead, .flat .dead, .flat .dead, .flat .dead, .flat .dead, .flat .dead, .flat .dead, .flat .dead, .flat .dead, .flat .dead, .flat .dead, .flat .dead, .flat .dead, .flat .dead, .flat .dead, .flat .dead, .flat .dead, .flat .dead, .flat .dead, .flat .dead, .flat .dead, .flat .dead, .flat .dead, .flat .dead, .flat .dead, .flat .dead, .flat .dead, .flat .dead, .flat .dead, .flat .dead, .flat .dead, .flat .dead, .flat .dead, .flat .dead, .flat .dead]
def os_laws_markEntryS_L_0 : List (OP RT) := [.row true .impl_Entry]
def conv_laws_markEntryS_L_0 (r : Raw den ps_laws_markEntryS_L_0 os_laws_markEntryS_L_0) : (Nat × Nat) × (Int × Int × (Nat → S_impl_Entry)) := ((r.1.1, r.2.1.1), (r.1.2.1, r.1.2.2.2.2.2.1, r.2.1.2))
def back_laws_markEntryS_L_0 (c : Nat × Nat) (w : Int × Int × (Nat → S_impl_Entry)) : St RT den := ⟨[(.os 0 c.1), (.int .i64 w.1), .dead, .dead, .dead, (.int .i64 w.2.1), .dead, .dead, .dead, .dead, .dead, .dead, .dead, .dead, .dead, .dead, .dead, .dead, .dead, .dead, .dead, .dead, .dead, .dead, .dead, .dead, .dead, .dead, .dead, .dead, .dead, .dead, .dead, .dead, .dead, .dead, .dead, .dead, .dead, .dead, .dead, .dead, .dead, .dead, .dead, .dead, .dead, .dead, .dead, .dead, .dead, .dead, .dead, .dead, .dead, .dead, .dead, .dead, .dead, .dead, .dead, .dead, .dead, .dead, .dead, .dead, .dead, .dead, .dead, .dead, .dead, .dead, .dead, .dead, .dead, .dead, .dead, .dead, .dead, .dead, .dead, .dead], [(.row true .impl_Entry c.2 w.2.2)]⟩
def Bk_laws_markEntryS_L_0 {ρ : Type} (fu : Nat) (c : Nat × Nat) (k : Ex → St RT den → Option ρ) (w : Int × Int × (Nat → S_impl_Entry)) (go : (Int × Int × (Nat → S_impl_Entry)) → Option ρ) : Option ρ := F_laws_markEntryS_L_B0 fu c.1 c.2 (fun a0 a1 => k (.exit 0) ⟨[.dead, (.int .i64 a0), .dead, .dead, .dead, .dead, .dead, .dead, .dead, .dead, .dead, .dead, .dead, .dead, .dead, .dead, .dead, .dead, .dead, .dead, .dead, .dead, .dead, .dead, .dead, .dead, .dead, .dead, .dead, .dead, .dead, .dead, .dead, .dead, .dead, .dead, .dead, .dead, .dead, .dead, .dead, .dead, .dead, .dead, .dead, .dead, .dead, .dead, .dead, .dead, .dead, .dead, .dead, .dead, .dead, .dead, .dead, .dead, .dead, .dead, .dead, .dead, .dead, .dead, .dead, .dead, .dead, .dead, .dead, .dead, .dead, .dead, .dead, .dead, .dead, .dead, .dead, .dead, .dead, .dead, .dead, .dead], [(.row true .impl_Entry c.2 a1)]⟩) w.1 w.2.1 w.2.2 (fun q0 q1 q2 => go (q0, q1, q2))
def lp_laws_markEntryS_L (fu : Nat) : Lp RT den (Int × (Nat × (Nat → S_impl_Entry))) := fun b s k => match b with | 0 => handle ps_laws_markEntryS_L_0 os_laws_markEntryS_L_0 conv_laws_markEntryS_L_0 (Bk_laws_markEntryS_L_0 fu) fu s k | _ => none
def out_laws_markEntryS_L (d : D RT den) (os : List (Ob RT den)) : Option (Int × (Nat × (Nat → S_impl_Entry))) := match d, os with | .int .i64 a0_0, [.row true .impl_Entry n0 f0] => some (a0_0, (n0, f0)) | _, _ => none
def enc_laws_markEntryS_L (y : Int × (Nat × (Nat → S_impl_Entry))) : D RT den × List (Ob RT den) := ((.int .i64 y.1), [(.row true .impl_Entry y.2.1 y.2.2)])
theorem out_laws_markEntryS_L_enc (d : D RT den) (os : List (Ob RT den)) (y : Int × (Nat × (Nat → S_impl_Entry))) (h : out_laws_markEntryS_L d os = some y) : (unh 1 d).1 = (enc_laws_markEntryS_L y).1 ∧ os ++ (unh 1 d).2 = (enc_laws_markEntryS_L y).2 := by
  unfold out_laws_markEntryS_L at h
  split at h
  · cases h; exact ⟨rfl, rfl⟩
  · cases h
theorem ev_laws_markEntryS_L (fu : Nat) (a_0_0 : Nat) (k_1_1 : Int) (rn0 : Nat) (rf0 : (Nat → S_impl_Entry)) : evFunX E (pc_laws_markEntryS_L fu) msk_laws_markEntryS_L (lp_laws_markEntryS_L fu) out_laws_markEntryS_L 14 [(.os 0 a_0_0), (.int .i64 k_1_1)] [(.row true .impl_Entry rn0 rf0)] = F_laws_markEntryS_L fu a_0_0 k_1_1 rn0 rf0 := by kernel_rfl
noncomputable def body_laws_markEntryS_L : Code := Try.f14.body.getD .skip
noncomputable def lc_laws_markEntryS_L_0 : Code := ((loops 0 body_laws_markEntryS_L).getD 0 (0, .skip)).2
theorem round_laws_markEntryS_L_0 (fu : Nat) (it : St RT den → Option (Int × (Nat × (Nat → S_impl_Entry)))) (k : Ex → St RT den → Option (Int × (Nat × (Nat → S_impl_Entry)))) c w : evCode E (pc_laws_markEntryS_L fu) msk_laws_markEntryS_L (lp_laws_markEntryS_L fu) 0 lc_laws_markEntryS_L_0 (back_laws_markEntryS_L_0 c w) (after (msk_laws_markEntryS_L 0) (msk_laws_markEntryS_L 100000) 1 it k) = Bk_laws_markEntryS_L_0 fu c k w (fun w => it (back_laws_markEntryS_L_0 c w)) := by kernel_rfl
theorem lpok_laws_markEntryS_L_0 (fu : Nat) : ∀ s k r, lp_laws_markEntryS_L fu 0 s k = some r → ∃ fuel, iter (msk_laws_markEntryS_L 0) (msk_laws_markEntryS_L 100000) s.objs.length (evCode E (pc_laws_markEntryS_L fu) msk_laws_markEntryS_L (lp_laws_markEntryS_L fu) 0 lc_laws_markEntryS_L_0) fuel s k = some r :=
  handle_ok (ps := ps_laws_markEntryS_L_0) (os := os_laws_markEntryS_L_0) (conv := conv_laws_markEntryS_L_0) (B := Bk_laws_markEntryS_L_0 fu) (fu := fu) back_laws_markEntryS_L_0 (fun raw => by kernel_rfl) 1 (fun c w => by kernel_rfl) (round_laws_markEntryS_L_0 fu)
theorem lpok_laws_markEntryS_L (fu : Nat) : LpOk E (pc_laws_markEntryS_L fu) msk_laws_markEntryS_L (lp_laws_markEntryS_L fu) (loops 0 body_laws_markEntryS_L) := loop_all 1 (by kernel_rfl) fun i hi => match i, hi with
  | 0, _ => by
    have h : (loops 0 body_laws_markEntryS_L).getD 0 (0, .skip) = (0, lc_laws_markEntryS_L_0) := by kernel_rfl
    rw [h]; exact lpok_laws_markEntryS_L_0 fu
  | i + 1, hi => absurd hi (by omega)
def S_laws_markEntryS_L (fu : Nat) (xs : List (D RT den)) (ins : List (Ob RT den)) : Option (OutX RT den) := match xs, ins with | [.os 0 a0_0, .int .i64 a1_0], [.row true .impl_Entry rn0 rf0] => some ⟨Int × (Nat × (Nat → S_impl_Entry)), F_laws_markEntryS_L fu a0_0 a1_0 rn0 rf0, enc_laws_markEntryS_L⟩ | _, _ => none
theorem hpc_laws_markEntryS_L (fu : Nat) : ∀ f xs o, pcf_laws_markEntryS_L fu f xs = some o → ∀ y, o.x = some y → Good E Try.prog f xs (o.g y) := by
  intro f xs o h
  cases h
theorem hpx_laws_markEntryS_L (fu : Nat) : ∀ f xs ins o, pcx_laws_markEntryS_L fu f xs ins = some o → ∀ y, o.x = some y → GoodX E Try.prog f xs ins (o.g y).1 (o.g y).2 := by
  intro f xs ins o h
  cases h
theorem goodv_laws_markEntryS_L (fu : Nat) (a_0_0 : Nat) (k_1_1 : Int) (rn0 : Nat) (rf0 : (Nat → S_impl_Entry)) (y : Int × (Nat × (Nat → S_impl_Entry))) (hy : F_laws_markEntryS_L fu a_0_0 k_1_1 rn0 rf0 = some y) : GoodX E Try.prog 14 [(.os 0 a_0_0), (.int .i64 k_1_1)] [(.row true .impl_Entry rn0 rf0)] (enc_laws_markEntryS_L y).1 (enc_laws_markEntryS_L y).2 :=
  funX_good E_ok (pc_good (pc := pc_laws_markEntryS_L fu) (hpc_laws_markEntryS_L fu) (hpx_laws_markEntryS_L fu)) (fn := Try.f14) (c := body_laws_markEntryS_L) (out := out_laws_markEntryS_L) (y := y) (by kernel_rfl) (by kernel_rfl) (by kernel_rfl) (lpok_laws_markEntryS_L fu) (by kernel_rfl) (Nat.le_refl _) (fun d os hd => out_laws_markEntryS_L_enc d os _ hd) ((ev_laws_markEntryS_L fu a_0_0 k_1_1 rn0 rf0).trans hy)
theorem good_laws_markEntryS_L (fu : Nat) : ∀ xs ins o, S_laws_markEntryS_L fu xs ins = some o → ∀ y, o.x = some y → GoodX E Try.prog 14 xs ins (o.g y).1 (o.g y).2 := by
  intro xs ins o h y hy
  unfold S_laws_markEntryS_L at h
  split at h
  · rename_i a0_0 a1_0 rn0 rf0
    cases h
    exact goodv_laws_markEntryS_L fu a0_0 a1_0 rn0 rf0 y hy
  · cases h

/-! laws.markEntriesResult -/
def F_laws_markEntriesResult_L (fu : Nat) (a_0_0 : Int) (a_0_1 : Nat) (k_1_2 : Int) (rn0 : Nat) (rf0 : (Nat → S_impl_Entry)) : Option (Int × (Nat × (Nat → S_impl_Entry))) :=
  ((F_laws_markEntryS_L fu a_0_1 k_1_2 rn0 rf0).bind fun y176 => (some (y176.1, (y176.2.1, y176.2.2))))
def pcf_laws_markEntriesResult_L (fu : Nat) (f : Nat) (xs : List (D RT den)) : Option (Out RT den) := none
def pcx_laws_markEntriesResult_L (fu : Nat) (f : Nat) (xs : List (D RT den)) (ins : List (Ob RT den)) : Option (OutX RT den) := match f with | 14 => S_laws_markEntryS_L fu xs ins | _ => none
def pc_laws_markEntriesResult_L (fu : Nat) : Pc RT den := ⟨pcf_laws_markEntriesResult_L fu, fun f => match f with | 14 => true | _ => false, fun f => match f with | 14 => true | _ => false, pcx_laws_markEntriesResult_L fu⟩
def msk_laws_markEntriesResult_L (b : Nat) : List Nat := []
def lp_laws_markEntriesResult_L (fu : Nat) : Lp RT den (Int × (Nat × (Nat → S_impl_Entry))) := fun b s k => none
def out_laws_markEntriesResult_L (d : D RT den) (os : List (Ob RT den)) : Option (Int × (Nat × (Nat → S_impl_Entry))) := match d, os with | .int .i64 a0_0, [.row true .impl_Entry n0 f0] => some (a0_0, (n0, f0)) | _, _ => none
def enc_laws_markEntriesResult_L (y : Int × (Nat × (Nat → S_impl_Entry))) : D RT den × List (Ob RT den) := ((.int .i64 y.1), [(.row true .impl_Entry y.2.1 y.2.2)])
theorem out_laws_markEntriesResult_L_enc (d : D RT den) (os : List (Ob RT den)) (y : Int × (Nat × (Nat → S_impl_Entry))) (h : out_laws_markEntriesResult_L d os = some y) : (unh 1 d).1 = (enc_laws_markEntriesResult_L y).1 ∧ os ++ (unh 1 d).2 = (enc_laws_markEntriesResult_L y).2 := by
  unfold out_laws_markEntriesResult_L at h
  split at h
  · cases h; exact ⟨rfl, rfl⟩
  · cases h
theorem ev_laws_markEntriesResult_L (fu : Nat) (a_0_0 : Int) (a_0_1 : Nat) (k_1_2 : Int) (rn0 : Nat) (rf0 : (Nat → S_impl_Entry)) : evFunX E (pc_laws_markEntriesResult_L fu) msk_laws_markEntriesResult_L (lp_laws_markEntriesResult_L fu) out_laws_markEntriesResult_L 15 [(.agg [(.int .i64 a_0_0), (.os 0 a_0_1)]), (.int .i64 k_1_2)] [(.row true .impl_Entry rn0 rf0)] = F_laws_markEntriesResult_L fu a_0_0 a_0_1 k_1_2 rn0 rf0 := by kernel_rfl
noncomputable def body_laws_markEntriesResult_L : Code := Try.f15.body.getD .skip
theorem lpok_laws_markEntriesResult_L (fu : Nat) : LpOk E (pc_laws_markEntriesResult_L fu) msk_laws_markEntriesResult_L (lp_laws_markEntriesResult_L fu) (loops 0 body_laws_markEntriesResult_L) := by
  have h : loops 0 body_laws_markEntriesResult_L = [] := by kernel_rfl
  rw [h]; intro p hp; cases hp
def S_laws_markEntriesResult_L (fu : Nat) (xs : List (D RT den)) (ins : List (Ob RT den)) : Option (OutX RT den) := match xs, ins with | [.agg [.int .i64 a0_0, .os 0 a0_1], .int .i64 a1_0], [.row true .impl_Entry rn0 rf0] => some ⟨Int × (Nat × (Nat → S_impl_Entry)), F_laws_markEntriesResult_L fu a0_0 a0_1 a1_0 rn0 rf0, enc_laws_markEntriesResult_L⟩ | _, _ => none
theorem hpc_laws_markEntriesResult_L (fu : Nat) : ∀ f xs o, pcf_laws_markEntriesResult_L fu f xs = some o → ∀ y, o.x = some y → Good E Try.prog f xs (o.g y) := by
  intro f xs o h
  cases h
theorem hpx_laws_markEntriesResult_L (fu : Nat) : ∀ f xs ins o, pcx_laws_markEntriesResult_L fu f xs ins = some o → ∀ y, o.x = some y → GoodX E Try.prog f xs ins (o.g y).1 (o.g y).2 := by
  intro f xs ins o h
  unfold pcx_laws_markEntriesResult_L at h
  split at h
  · exact good_laws_markEntryS_L fu xs ins o h
  · cases h
theorem goodv_laws_markEntriesResult_L (fu : Nat) (a_0_0 : Int) (a_0_1 : Nat) (k_1_2 : Int) (rn0 : Nat) (rf0 : (Nat → S_impl_Entry)) (y : Int × (Nat × (Nat → S_impl_Entry))) (hy : F_laws_markEntriesResult_L fu a_0_0 a_0_1 k_1_2 rn0 rf0 = some y) : GoodX E Try.prog 15 [(.agg [(.int .i64 a_0_0), (.os 0 a_0_1)]), (.int .i64 k_1_2)] [(.row true .impl_Entry rn0 rf0)] (enc_laws_markEntriesResult_L y).1 (enc_laws_markEntriesResult_L y).2 :=
  funX_good E_ok (pc_good (pc := pc_laws_markEntriesResult_L fu) (hpc_laws_markEntriesResult_L fu) (hpx_laws_markEntriesResult_L fu)) (fn := Try.f15) (c := body_laws_markEntriesResult_L) (out := out_laws_markEntriesResult_L) (y := y) (by kernel_rfl) (by kernel_rfl) (by kernel_rfl) (lpok_laws_markEntriesResult_L fu) (by kernel_rfl) (Nat.le_refl _) (fun d os hd => out_laws_markEntriesResult_L_enc d os _ hd) ((ev_laws_markEntriesResult_L fu a_0_0 a_0_1 k_1_2 rn0 rf0).trans hy)
theorem good_laws_markEntriesResult_L (fu : Nat) : ∀ xs ins o, S_laws_markEntriesResult_L fu xs ins = some o → ∀ y, o.x = some y → GoodX E Try.prog 15 xs ins (o.g y).1 (o.g y).2 := by
  intro xs ins o h y hy
  unfold S_laws_markEntriesResult_L at h
  split at h
  · rename_i a0_0 a0_1 a1_0 rn0 rf0
    cases h
    exact goodv_laws_markEntriesResult_L fu a0_0 a0_1 a1_0 rn0 rf0 y hy
  · cases h

/-! laws.szEntryS -/
def F_laws_szEntryS (fu : Nat) (a_0 : (Sl S_laws_Entry)) (left_1 : Int) : Option (Int) :=
  (bif (decide ((IntKind.wrap .i64 (left_1 - ((a_0.n : Nat) : Int))) < 0)) then (some (-1)) else (some (IntKind.wrap .i64 (left_1 - ((a_0.n : Nat) : Int)))))
def pcf_laws_szEntryS (fu : Nat) (f : Nat) (xs : List (D RT den)) : Option (Out RT den) := none
def pcx_laws_szEntryS (fu : Nat) (f : Nat) (xs : List (D RT den)) (ins : List (Ob RT den)) : Option (OutX RT den) := none
def pc_laws_szEntryS (fu : Nat) : Pc RT den := ⟨pcf_laws_szEntryS fu, fun _ => false, fun _ => false, pcx_laws_szEntryS fu⟩
def msk_laws_szEntryS (b : Nat) : List Nat := []
def lp_laws_szEntryS (fu : Nat) : Lp RT den (Int) := fun b s k => none
theorem ev_laws_szEntryS (fu : Nat) (a_0 : (Sl S_laws_Entry)) (left_1 : Int) : evFun E (pc_laws_szEntryS fu) msk_laws_szEntryS (lp_laws_szEntryS fu) out_i64 8 [(.rs a_0.z .laws_Entry a_0.n a_0.f), (.int .i64 left_1)] = F_laws_szEntryS fu a_0 left_1 := by kernel_rfl
noncomputable def body_laws_szEntryS : Code := Try.f8.body.getD .skip
theorem lpok_laws_szEntryS (fu : Nat) : LpOk E (pc_laws_szEntryS fu) msk_laws_szEntryS (lp_laws_szEntryS fu) (loops 0 body_laws_szEntryS) := by
  have h : loops 0 body_laws_szEntryS = [] := by kernel_rfl
  rw [h]; intro p hp; cases hp
def S_laws_szEntryS (fu : Nat) (xs : List (D RT den)) : Option (Out RT den) := match xs with | [.rs za0_0 .laws_Entry na0_0 fa0_0, .int .i64 a1_0] => some ⟨Int, F_laws_szEntryS fu (⟨za0_0, na0_0, fa0_0⟩ : (Sl S_laws_Entry)) a1_0, enc_i64, fun _ => true⟩ | _ => none
theorem hpc_laws_szEntryS (fu : Nat) : ∀ f xs o, pcf_laws_szEntryS fu f xs = some o → ∀ y, o.x = some y → Good E Try.prog f xs (o.g y) := by
  intro f xs o h
  cases h
theorem hpx_laws_szEntryS (fu : Nat) : ∀ f xs ins o, pcx_laws_szEntryS fu f xs ins = some o → ∀ y, o.x = some y → GoodX E Try.prog f xs ins (o.g y).1 (o.g y).2 := by
  intro f xs ins o h
  cases h
theorem goodv_laws_szEntryS (fu : Nat) (a_0 : (Sl S_laws_Entry)) (left_1 : Int) (y : Int) (hy : F_laws_szEntryS fu a_0 left_1 = some y) : Good E Try.prog 8 [(.rs a_0.z .laws_Entry a_0.n a_0.f), (.int .i64 left_1)] (enc_i64 y) :=
  fun_good E_ok (pc_good (pc := pc_laws_szEntryS fu) (hpc_laws_szEntryS fu) (hpx_laws_szEntryS fu)) (fn := Try.f8) (c := body_laws_szEntryS) (out := out_i64) (y := y) (by kernel_rfl) (by kernel_rfl) (by kernel_rfl) (lpok_laws_szEntryS fu) (fun d hd => out_i64_enc d _ hd) ((ev_laws_szEntryS fu a_0 left_1).trans hy)
theorem good_laws_szEntryS (fu : Nat) : ∀ xs o, S_laws_szEntryS fu xs = some o → ∀ y, o.x = some y → Good E Try.prog 8 xs (o.g y) := by
  intro xs o h y hy
  unfold S_laws_szEntryS at h
  split at h
  · rename_i za0_0 na0_0 fa0_0 a1_0
    cases h
    exact goodv_laws_szEntryS fu (⟨za0_0, na0_0, fa0_0⟩ : (Sl S_laws_Entry)) a1_0 y hy
  · cases h

/-! laws.eqCmd -/
def F_laws_eqCmd (fu : Nat) (a_0 : S_impl_Cmd) (b_1 : S_impl_Cmd) : Option (Bool) :=
  (bif (a_0.Kind != b_1.Kind) then (some false) else (bif (a_0.Expect != b_1.Expect) then (some false) else (bif (a_0.Name != b_1.Name) then (some false) else (bif (a_0.Addr != b_1.Addr) then
    (some false) else (bif (a_0.Number != b_1.Number) then (some false) else (bif (a_0.Proto != b_1.Proto) then (some false) else (some true)))))))
def pcf_laws_eqCmd (fu : Nat) (f : Nat) (xs : List (D RT den)) : Option (Out RT den) := none
def pcx_laws_eqCmd (fu : Nat) (f : Nat) (xs : List (D RT den)) (ins : List (Ob RT den)) : Option (OutX RT den) := none
def pc_laws_eqCmd (fu : Nat) : Pc RT den := ⟨pcf_laws_eqCmd fu, fun _ => false, fun _ => false, pcx_laws_eqCmd fu⟩
def msk_laws_eqCmd (b : Nat) : List Nat := []
def lp_laws_eqCmd (fu : Nat) : Lp RT den (Bool) := fun b s k => none
theorem ev_laws_eqCmd (fu : Nat) (a_0 : S_impl_Cmd) (b_1 : S_impl_Cmd) : evFun E (pc_laws_eqCmd fu) msk_laws_eqCmd (lp_laws_eqCmd fu) out_bo 81 [(.agg [(.int .i64 a_0.Kind), (.int .i64 a_0.Expect), (.int .i64 a_0.Name), (.int .i64 a_0.Addr), (.int .i64 a_0.Number), (.int .i64 a_0.Proto)]), (.agg [(.int .i64 b_1.Kind), (.int .i64 b_1.Expect), (.int .i64 b_1.Name), (.int .i64 b_1.Addr), (.int .i64 b_1.Number), (.int .i64 b_1.Proto)])] = F_laws_eqCmd fu a_0 b_1 := by kernel_rfl
noncomputable def body_laws_eqCmd : Code := Try.f81.body.getD .skip
theorem lpok_laws_eqCmd (fu : Nat) : LpOk E (pc_laws_eqCmd fu) msk_laws_eqCmd (lp_laws_eqCmd fu) (loops 0 body_laws_eqCmd) := by
  have h : loops 0 body_laws_eqCmd = [] := by kernel_rfl
  rw [h]; intro p hp; cases hp
def S_laws_eqCmd (fu : Nat) (xs : List (D RT den)) : Option (Out RT den) := match xs with | [.agg [.int .i64 a0_1, .int .i64 a0_2, .int .i64 a0_3, .int .i64 a0_4, .int .i64 a0_5, .int .i64 a0_6], .agg [.int .i64 a1_1, .int .i64 a1_2, .int .i64 a1_3, .int .i64 a1_4, .int .i64 a1_5, .int .i64 a1_6]] => some ⟨Bool, F_laws_eqCmd fu (⟨a0_1, a0_2, a0_3, a0_4, a0_5, a0_6⟩ : S_impl_Cmd) (⟨a1_1, a1_2, a1_3, a1_4, a1_5, a1_6⟩ : S_impl_Cmd), enc_bo, fun _ => true⟩ | _ => none
theorem hpc_laws_eqCmd (fu : Nat) : ∀ f xs o, pcf_laws_eqCmd fu f xs = some o → ∀ y, o.x = some y → Good E Try.prog f xs (o.g y) := by
  intro f xs o h
  cases h
theorem hpx_laws_eqCmd (fu : Nat) : ∀ f xs ins o, pcx_laws_eqCmd fu f xs ins = some o → ∀ y, o.x = some y → GoodX E Try.prog f xs ins (o.g y).1 (o.g y).2 := by
  intro f xs ins o h
  cases h
theorem goodv_laws_eqCmd (fu : Nat) (a_0 : S_impl_Cmd) (b_1 : S_impl_Cmd) (y : Bool) (hy : F_laws_eqCmd fu a_0 b_1 = some y) : Good E Try.prog 81 [(.agg [(.int .i64 a_0.Kind), (.int .i64 a_0.Expect), (.int .i64 a_0.Name), (.int .i64 a_0.Addr), (.int .i64 a_0.Number), (.int .i64 a_0.Proto)]), (.agg [(.int .i64 b_1.Kind), (.int .i64 b_1.Expect), (.int .i64 b_1.Name), (.int .i64 b_1.Addr), (.int .i64 b_1.Number), (.int .i64 b_1.Proto)])] (enc_bo y) :=
  fun_good E_ok (pc_good (pc := pc_laws_eqCmd fu) (hpc_laws_eqCmd fu) (hpx_laws_eqCmd fu)) (fn := Try.f81) (c := body_laws_eqCmd) (out := out_bo) (y := y) (by kernel_rfl) (by kernel_rfl) (by kernel_rfl) (lpok_laws_eqCmd fu) (fun d hd => out_bo_enc d _ hd) ((ev_laws_eqCmd fu a_0 b_1).trans hy)
theorem good_laws_eqCmd (fu : Nat) : ∀ xs o, S_laws_eqCmd fu xs = some o → ∀ y, o.x = some y → Good E Try.prog 81 xs (o.g y) := by
  intro xs o h y hy
  unfold S_laws_eqCmd at h
  split at h
  · rename_i a0_1 a0_2 a0_3 a0_4 a0_5 a0_6 a1_1 a1_2 a1_3 a1_4 a1_5 a1_6
    cases h
    exact goodv_laws_eqCmd fu (⟨a0_1, a0_2, a0_3, a0_4, a0_5, a0_6⟩ : S_impl_Cmd) (⟨a1_1, a1_2, a1_3, a1_4, a1_5, a1_6⟩ : S_impl_Cmd) y hy
  · cases h

/-! laws.eqEntry -/
def F_laws_eqEntry (fu : Nat) (a_0 : S_impl_Entry) (b_1 : S_impl_Entry) : Option (Bool) :=
  (bif (a_0.Term != b_1.Term) then (some false) else (bif (a_0.Client != b_1.Client) then (some false) else (bif (a_0.Seq != b_1.Seq) then (some false) else ((F_laws_eqCmd fu a_0.Cmd b_1.Cmd).bind fun y186 =>
    (bif (!y186) then (some false) else (some true))))))
def pcf_laws_eqEntry (fu : Nat) (f : Nat) (xs : List (D RT den)) : Option (Out RT den) := match f with | 81 => S_laws_eqCmd fu xs | _ => none
def pcx_laws_eqEntry (fu : Nat) (f : Nat) (xs : List (D RT den)) (ins : List (Ob RT den)) : Option (OutX RT den) := none
def pc_laws_eqEntry (fu : Nat) : Pc RT den := ⟨pcf_laws_eqEntry fu, fun _ => false, fun _ => false, pcx_laws_eqEntry fu⟩
def msk_laws_eqEntry (b : Nat) : List Nat := []
def lp_laws_eqEntry (fu : Nat) : Lp RT den (Bool) := fun b s k => none
theorem ev_laws_eqEntry (fu : Nat) (a_0 : S_impl_Entry) (b_1 : S_impl_Entry) : evFun E (pc_laws_eqEntry fu) msk_laws_eqEntry (lp_laws_eqEntry fu) out_bo 47 [(.agg [(.int .i64 a_0.Term), (.int .i64 a_0.Client), (.int .i64 a_0.Seq), (.int .i64 a_0.Cmd.Kind), (.int .i64 a_0.Cmd.Expect), (.int .i64 a_0.Cmd.Name), (.int .i64 a_0.Cmd.Addr), (.int .i64 a_0.Cmd.Number), (.int .i64 a_0.Cmd.Proto)]), (.agg [(.int .i64 b_1.Term), (.int .i64 b_1.Client), (.int .i64 b_1.Seq), (.int .i64 b_1.Cmd.Kind), (.int .i64 b_1.Cmd.Expect), (.int .i64 b_1.Cmd.Name), (.int .i64 b_1.Cmd.Addr), (.int .i64 b_1.Cmd.Number), (.int .i64 b_1.Cmd.Proto)])] = F_laws_eqEntry fu a_0 b_1 := by kernel_rfl
noncomputable def body_laws_eqEntry : Code := Try.f47.body.getD .skip
theorem lpok_laws_eqEntry (fu : Nat) : LpOk E (pc_laws_eqEntry fu) msk_laws_eqEntry (lp_laws_eqEntry fu) (loops 0 body_laws_eqEntry) := by
  have h : loops 0 body_laws_eqEntry = [] := by kernel_rfl
  rw [h]; intro p hp; cases hp
def S_laws_eqEntry (fu : Nat) (xs : List (D RT den)) : Option (Out RT den) := match xs with | [.agg [.int .i64 a0_1, .int .i64 a0_2, .int .i64 a0_3, .int .i64 a0_5, .int .i64 a0_6, .int .i64 a0_7, .int .i64 a0_8, .int .i64 a0_9, .int .i64 a0_10], .agg [.int .i64 a1_1, .int .i64 a1_2, .int .i64 a1_3, .int .i64 a1_5, .int .i64 a1_6, .int .i64 a1_7, .int .i64 a1_8, .int .i64 a1_9, .int .i64 a1_10]] => some ⟨Bool, F_laws_eqEntry fu (⟨a0_1, a0_2, a0_3, (⟨a0_5, a0_6, a0_7, a0_8, a0_9, a0_10⟩ : S_impl_Cmd)⟩ : S_impl_Entry) (⟨a1_1, a1_2, a1_3, (⟨a1_5, a1_6, a1_7, a1_8, a1_9, a1_10⟩ : S_impl_Cmd)⟩ : S_impl_Entry), enc_bo, fun _ => true⟩ | _ => none
theorem hpc_laws_eqEntry (fu : Nat) : ∀ f xs o, pcf_laws_eqEntry fu f xs = some o → ∀ y, o.x = some y → Good E Try.prog f xs (o.g y) := by
  intro f xs o h
  unfold pcf_laws_eqEntry at h
  split at h
  · exact good_laws_eqCmd fu xs o h
  · cases h
theorem hpx_laws_eqEntry (fu : Nat) : ∀ f xs ins o, pcx_laws_eqEntry fu f xs ins = some o → ∀ y, o.x = some y → GoodX E Try.prog f xs ins (o.g y).1 (o.g y).2 := by
  intro f xs ins o h
  cases h
theorem goodv_laws_eqEntry (fu : Nat) (a_0 : S_impl_Entry) (b_1 : S_impl_Entry) (y : Bool) (hy : F_laws_eqEntry fu a_0 b_1 = some y) : Good E Try.prog 47 [(.agg [(.int .i64 a_0.Term), (.int .i64 a_0.Client), (.int .i64 a_0.Seq), (.int .i64 a_0.Cmd.Kind), (.int .i64 a_0.Cmd.Expect), (.int .i64 a_0.Cmd.Name), (.int .i64 a_0.Cmd.Addr), (.int .i64 a_0.Cmd.Number), (.int .i64 a_0.Cmd.Proto)]), (.agg [(.int .i64 b_1.Term), (.int .i64 b_1.Client), (.int .i64 b_1.Seq), (.int .i64 b_1.Cmd.Kind), (.int .i64 b_1.Cmd.Expect), (.int .i64 b_1.Cmd.Name), (.int .i64 b_1.Cmd.Addr), (.int .i64 b_1.Cmd.Number), (.int .i64 b_1.Cmd.Proto)])] (enc_bo y) :=
  fun_good E_ok (pc_good (pc := pc_laws_eqEntry fu) (hpc_laws_eqEntry fu) (hpx_laws_eqEntry fu)) (fn := Try.f47) (c := body_laws_eqEntry) (out := out_bo) (y := y) (by kernel_rfl) (by kernel_rfl) (by kernel_rfl) (lpok_laws_eqEntry fu) (fun d hd => out_bo_enc d _ hd) ((ev_laws_eqEntry fu a_0 b_1).trans hy)
theorem good_laws_eqEntry (fu : Nat) : ∀ xs o, S_laws_eqEntry fu xs = some o → ∀ y, o.x = some y → Good E Try.prog 47 xs (o.g y) := by
  intro xs o h y hy
  unfold S_laws_eqEntry at h
  split at h
  · rename_i a0_1 a0_2 a0_3 a0_5 a0_6 a0_7 a0_8 a0_9 a0_10 a1_1 a1_2 a1_3 a1_5 a1_6 a1_7 a1_8 a1_9 a1_10
    cases h
    exact goodv_laws_eqEntry fu (⟨a0_1, a0_2, a0_3, (⟨a0_5, a0_6, a0_7, a0_8, a0_9, a0_10⟩ : S_impl_Cmd)⟩ : S_impl_Entry) (⟨a1_1, a1_2, a1_3, (⟨a1_5, a1_6, a1_7, a1_8, a1_9, a1_10⟩ : S_impl_Cmd)⟩ : S_impl_Entry) y hy
  · cases h
end Go.Proofs.Ytmdjkdgjmbfegaa.Pc
