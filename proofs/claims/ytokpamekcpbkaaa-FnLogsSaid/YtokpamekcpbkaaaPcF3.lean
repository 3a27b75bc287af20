/- The functions' evaluated forms, each a proved summary. Conditions: none. -/
import Derived.Test.YtokpamekcpbkaaaPcF2
namespace Go.Proofs.Ytokpamekcpbkaaa.Pc
open Go Go.RowKit Go.Proofs Vm
set_option linter.unusedVariables false
set_option linter.unusedSimpArgs false
set_option maxRecDepth 100000
/-! impl.FitsAt -/
def F_impl_FitsAt (fu : Nat) (log_0 : (Sl S_impl_Entry)) (index_1 : Int) (term_2 : Int) : Option (Bool) :=
  ((((F_impl_LogFault fu log_0).bind fun y624 => (bif (y624 == 0) then ((F_impl_fits fu log_0 index_1 term_2).bind fun y625 => (some y625)) else (some false))) : Option Bool).bind fun m626 =>
    (some m626))
def pcf_impl_FitsAt (fu : Nat) (f : Nat) (xs : List (D RT den)) : Option (Out RT den) := match f with | 14 => S_impl_LogFault fu xs | 34 => S_impl_fits fu xs | _ => none
def pcx_impl_FitsAt (fu : Nat) (f : Nat) (xs : List (D RT den)) (ins : List (Ob RT den)) : Option (OutX RT den) := none
def pc_impl_FitsAt (fu : Nat) : Pc RT den := ⟨pcf_impl_FitsAt fu, fun _ => false, fun _ => false, pcx_impl_FitsAt fu⟩
def msk_impl_FitsAt (b : Nat) : List Nat := match b with | 200001 => [6] | _ => []
def lp_impl_FitsAt (fu : Nat) : Lp RT den (Bool) := fun b s k => none
theorem ev_impl_FitsAt (fu : Nat) (log_0 : (Sl S_impl_Entry)) (index_1 : Int) (term_2 : Int) : evFun E (pc_impl_FitsAt fu) msk_impl_FitsAt (lp_impl_FitsAt fu) out_bo 16 [(.rs log_0.z .impl_Entry log_0.n log_0.f), (.int .i64 index_1), (.int .i64 term_2)] = F_impl_FitsAt fu log_0 index_1 term_2 := by kernel_rfl
noncomputable def body_impl_FitsAt : Code := Try.f16.body.getD .skip
theorem lpok_impl_FitsAt (fu : Nat) : LpOk E (pc_impl_FitsAt fu) msk_impl_FitsAt (lp_impl_FitsAt fu) (loops 0 body_impl_FitsAt) := by
  have h : loops 0 body_impl_FitsAt = [] := by kernel_rfl
  rw [h]; intro p hp; cases hp
def S_impl_FitsAt (fu : Nat) (xs : List (D RT den)) : Option (Out RT den) := match xs with | [.rs za0_0 .impl_Entry na0_0 fa0_0, .int .i64 a1_0, .int .i64 a2_0] => some ⟨Bool, F_impl_FitsAt fu (⟨za0_0, na0_0, fa0_0⟩ : (Sl S_impl_Entry)) a1_0 a2_0, enc_bo, fun _ => true⟩ | _ => none
theorem hpc_impl_FitsAt (fu : Nat) : ∀ f xs o, pcf_impl_FitsAt fu f xs = some o → ∀ y, o.x = some y → Good E Try.prog f xs (o.g y) := by
  intro f xs o h
  unfold pcf_impl_FitsAt at h
  split at h
  · exact good_impl_LogFault fu xs o h
  · exact good_impl_fits fu xs o h
  · cases h
theorem hpx_impl_FitsAt (fu : Nat) : ∀ f xs ins o, pcx_impl_FitsAt fu f xs ins = some o → ∀ y, o.x = some y → GoodX E Try.prog f xs ins (o.g y).1 (o.g y).2 := by
  intro f xs ins o h
  cases h
theorem goodv_impl_FitsAt (fu : Nat) (log_0 : (Sl S_impl_Entry)) (index_1 : Int) (term_2 : Int) (y : Bool) (hy : F_impl_FitsAt fu log_0 index_1 term_2 = some y) : Good E Try.prog 16 [(.rs log_0.z .impl_Entry log_0.n log_0.f), (.int .i64 index_1), (.int .i64 term_2)] (enc_bo y) :=
  fun_good E_ok (pc_good (pc := pc_impl_FitsAt fu) (hpc_impl_FitsAt fu) (hpx_impl_FitsAt fu)) (fn := Try.f16) (c := body_impl_FitsAt) (out := out_bo) (y := y) (by kernel_rfl) (by kernel_rfl) (by kernel_rfl) (lpok_impl_FitsAt fu) (fun d hd => out_bo_enc d _ hd) ((ev_impl_FitsAt fu log_0 index_1 term_2).trans hy)
theorem good_impl_FitsAt (fu : Nat) : ∀ xs o, S_impl_FitsAt fu xs = some o → ∀ y, o.x = some y → Good E Try.prog 16 xs (o.g y) := by
  intro xs o h y hy
  unfold S_impl_FitsAt at h
  split at h
  · rename_i za0_0 na0_0 fa0_0 a1_0 a2_0
    cases h
    exact goodv_impl_FitsAt fu (⟨za0_0, na0_0, fa0_0⟩ : (Sl S_impl_Entry)) a1_0 a2_0 y hy
  · cases h

/-! slices.Equal[[]impl.Entry,impl.Entry] -/
def F_slices_Equal_impl_Entry_impl_Entry_B0 {ρ : Type} (fu : Nat) (s10_0 : (Sl S_impl_Entry)) (s21_1 : (Sl S_impl_Entry)) (t12_2 : Int) (k0 : Option ρ) (k1 : Option ρ) (t13_3 : Int) (go : Int → Option ρ) : Option ρ :=
  (bif (decide (t13_3 < t12_2)) then ((bif (decide (0 ≤ t13_3) && decide ((Int.toNat t13_3) < s10_0.n)) then some () else none : Option Unit).bind fun _ => ((bif (decide (0 ≤ t13_3) &&
    decide ((Int.toNat t13_3) < s21_1.n)) then some () else none : Option Unit).bind fun _ => (bif (!(((s10_0.f (Int.toNat t13_3)).Term == (s21_1.f (Int.toNat t13_3)).Term) &&
    (((s10_0.f (Int.toNat t13_3)).Client == (s21_1.f (Int.toNat t13_3)).Client) && (((s10_0.f (Int.toNat t13_3)).Seq == (s21_1.f (Int.toNat t13_3)).Seq) && (((s10_0.f (Int.toNat t13_3)).Cmd.Kind == (s21_1.f (Int.toNat t13_3)).Cmd.Kind) &&
    (((s10_0.f (Int.toNat t13_3)).Cmd.Expect == (s21_1.f (Int.toNat t13_3)).Cmd.Expect) && (((s10_0.f (Int.toNat t13_3)).Cmd.Name == (s21_1.f (Int.toNat t13_3)).Cmd.Name) &&
    (((s10_0.f (Int.toNat t13_3)).Cmd.Addr == (s21_1.f (Int.toNat t13_3)).Cmd.Addr) && (((s10_0.f (Int.toNat t13_3)).Cmd.Number == (s21_1.f (Int.toNat t13_3)).Cmd.Number) &&
    (((s10_0.f (Int.toNat t13_3)).Cmd.Proto == (s21_1.f (Int.toNat t13_3)).Cmd.Proto) && true)))))))))) then k0 else (go (IntKind.wrap .i64 (t13_3 + 1)))))) else k1)
def F_slices_Equal_impl_Entry_impl_Entry (fu : Nat) (s1_0 : (Sl S_impl_Entry)) (s2_1 : (Sl S_impl_Entry)) : Option (Bool) :=
  (bif (((s1_0.n : Nat) : Int) != ((s2_1.n : Nat) : Int)) then (some false) else (L (fun w0 go0 => F_slices_Equal_impl_Entry_impl_Entry_B0 fu s1_0 s2_1 ((s1_0.n : Nat) : Int) (some false) (some true) w0 go0) fu (0 : Int)))
def pcf_slices_Equal_impl_Entry_impl_Entry (fu : Nat) (f : Nat) (xs : List (D RT den)) : Option (Out RT den) := none
def pcx_slices_Equal_impl_Entry_impl_Entry (fu : Nat) (f : Nat) (xs : List (D RT den)) (ins : List (Ob RT den)) : Option (OutX RT den) := none
def pc_slices_Equal_impl_Entry_impl_Entry (fu : Nat) : Pc RT den := ⟨pcf_slices_Equal_impl_Entry_impl_Entry fu, fun _ => false, fun _ => false, pcx_slices_Equal_impl_Entry_impl_Entry fu⟩
def msk_slices_Equal_impl_Entry_impl_Entry (b : Nat) : List Nat := match b with | 0 => [2, 3, 4, 5, 6, 7, 8, 9, 10, 11, 14, 15, 16, 17, 18, 19, 20, 21, 22, 23, 24, 25] | 100000 => [0, 1, 2, 3, 5, 6, 7, 8, 9, 10, 11, 12, 13, 14, 15, 16, 17, 18, 19, 20, 21, 22, 23, 24, 25] | _ => []
def ps_slices_Equal_impl_Entry_impl_Entry_0 : List (Pat RT) := [.flat (.rs .impl_Entry), .flat (.rs .impl_Entry), .flat .dead, .flat .dead, .flat .dead, .flat .dead, .flat .dead, .flat .dead, .flat .dead, .flat .dead, .flat .dead, .flat .dead, .flat (.int .i64), .flat (.int .i64), .flat .dead, .flat .dead, .flat .dead, .flat .dead, .flat .dead, .flat .dead, .flat .dead, .flat .dead, .flat .dead, .flat .dead, .flat .dead, .flat .dead]
def os_slices_Equal_impl_Entry_impl_Entry_0 : List (OP RT) := []
def conv_slices_Equal_impl_Entry_impl_Entry_0 (r : Raw den ps_slices_Equal_impl_Entry_impl_Entry_0 os_slices_Equal_impl_Entry_impl_Entry_0) : ((Sl S_impl_Entry) × (Sl S_impl_Entry) × Int) × (Int) := ((r.1.1, r.1.2.1, r.1.2.2.2.2.2.2.2.2.2.2.2.2.1), r.1.2.2.2.2.2.2.2.2.2.2.2.2.2.1)
def back_slices_Equal_impl_Entry_impl_Entry_0 (c : (Sl S_impl_Entry) × (Sl S_impl_Entry) × Int) (w : Int) : St RT den := ⟨[(.rs c.1.z .impl_Entry c.1.n c.1.f), (.rs c.2.1.z .impl_Entry c.2.1.n c.2.1.f), .dead, .dead, .dead, .dead, .dead, .dead, .dead, .dead, .dead, .dead, (.int .i64 c.2.2), (.int .i64 w), .dead, .dead, .dead, .dead, .dead, .dead, .dead, .dead, .dead, .dead, .dead, .dead], []⟩
def Bk_slices_Equal_impl_Entry_impl_Entry_0 {ρ : Type} (fu : Nat) (c : (Sl S_impl_Entry) × (Sl S_impl_Entry) × Int) (k : Ex → St RT den → Option ρ) (w : Int) (go : (Int) → Option ρ) : Option ρ := F_slices_Equal_impl_Entry_impl_Entry_B0 fu c.1 c.2.1 c.2.2 (k .ret ⟨[.dead, .dead, .dead, .dead, (.bool false), .dead, .dead, .dead, .dead, .dead, .dead, .dead, .dead, .dead, .dead, .dead, .dead, .dead, .dead, .dead, .dead, .dead, .dead, .dead, .dead, .dead], []⟩) (k (.exit 0) ⟨[.dead, .dead, .dead, .dead, .dead, .dead, .dead, .dead, .dead, .dead, .dead, .dead, .dead, .dead, .dead, .dead, .dead, .dead, .dead, .dead, .dead, .dead, .dead, .dead, .dead, .dead], []⟩) w go
def lp_slices_Equal_impl_Entry_impl_Entry (fu : Nat) : Lp RT den (Bool) := fun b s k => match b with | 0 => handle ps_slices_Equal_impl_Entry_impl_Entry_0 os_slices_Equal_impl_Entry_impl_Entry_0 conv_slices_Equal_impl_Entry_impl_Entry_0 (Bk_slices_Equal_impl_Entry_impl_Entry_0 fu) fu s k | _ => none
theorem ev_slices_Equal_impl_Entry_impl_Entry (fu : Nat) (s1_0 : (Sl S_impl_Entry)) (s2_1 : (Sl S_impl_Entry)) : evFun E (pc_slices_Equal_impl_Entry_impl_Entry fu) msk_slices_Equal_impl_Entry_impl_Entry (lp_slices_Equal_impl_Entry_impl_Entry fu) out_bo 40 [(.rs s1_0.z .impl_Entry s1_0.n s1_0.f), (.rs s2_1.z .impl_Entry s2_1.n s2_1.f)] = F_slices_Equal_impl_Entry_impl_Entry fu s1_0 s2_1 := by kernel_rfl
noncomputable def body_slices_Equal_impl_Entry_impl_Entry : Code := Try.f40.body.getD .skip
noncomputable def lc_slices_Equal_impl_Entry_impl_Entry_0 : Code := ((loops 0 body_slices_Equal_impl_Entry_impl_Entry).getD 0 (0, .skip)).2
theorem round_slices_Equal_impl_Entry_impl_Entry_0 (fu : Nat) (it : St RT den → Option (Bool)) (k : Ex → St RT den → Option (Bool)) c w : evCode E (pc_slices_Equal_impl_Entry_impl_Entry fu) msk_slices_Equal_impl_Entry_impl_Entry (lp_slices_Equal_impl_Entry_impl_Entry fu) 0 lc_slices_Equal_impl_Entry_impl_Entry_0 (back_slices_Equal_impl_Entry_impl_Entry_0 c w) (after (msk_slices_Equal_impl_Entry_impl_Entry 0) (msk_slices_Equal_impl_Entry_impl_Entry 100000) 0 it k) = Bk_slices_Equal_impl_Entry_impl_Entry_0 fu c k w (fun w => it (back_slices_Equal_impl_Entry_impl_Entry_0 c w)) := by kernel_rfl
theorem lpok_slices_Equal_impl_Entry_impl_Entry_0 (fu : Nat) : ∀ s k r, lp_slices_Equal_impl_Entry_impl_Entry fu 0 s k = some r → ∃ fuel, iter (msk_slices_Equal_impl_Entry_impl_Entry 0) (msk_slices_Equal_impl_Entry_impl_Entry 100000) s.objs.length (evCode E (pc_slices_Equal_impl_Entry_impl_Entry fu) msk_slices_Equal_impl_Entry_impl_Entry (lp_slices_Equal_impl_Entry_impl_Entry fu) 0 lc_slices_Equal_impl_Entry_impl_Entry_0) fuel s k = some r :=
  handle_ok (ps := ps_slices_Equal_impl_Entry_impl_Entry_0) (os := os_slices_Equal_impl_Entry_impl_Entry_0) (conv := conv_slices_Equal_impl_Entry_impl_Entry_0) (B := Bk_slices_Equal_impl_Entry_impl_Entry_0 fu) (fu := fu) back_slices_Equal_impl_Entry_impl_Entry_0 (fun raw => by kernel_rfl) 0 (fun c w => by kernel_rfl) (round_slices_Equal_impl_Entry_impl_Entry_0 fu)
theorem lpok_slices_Equal_impl_Entry_impl_Entry (fu : Nat) : LpOk E (pc_slices_Equal_impl_Entry_impl_Entry fu) msk_slices_Equal_impl_Entry_impl_Entry (lp_slices_Equal_impl_Entry_impl_Entry fu) (loops 0 body_slices_Equal_impl_Entry_impl_Entry) := loop_all 1 (by kernel_rfl) fun i hi => match i, hi with
  | 0, _ => by
    have h : (loops 0 body_slices_Equal_impl_Entry_impl_Entry).getD 0 (0, .skip) = (0, lc_slices_Equal_impl_Entry_impl_Entry_0) := by kernel_rfl
    rw [h]; exact lpok_slices_Equal_impl_Entry_impl_Entry_0 fu
  | i + 1, hi => absurd hi (by omega)
def S_slices_Equal_impl_Entry_impl_Entry (fu : Nat) (xs : List (D RT den)) : Option (Out RT den) := match xs with | [.rs za0_0 .impl_Entry na0_0 fa0_0, .rs za1_0 .impl_Entry na1_0 fa1_0] => some ⟨Bool, F_slices_Equal_impl_Entry_impl_Entry fu (⟨za0_0, na0_0, fa0_0⟩ : (Sl S_impl_Entry)) (⟨za1_0, na1_0, fa1_0⟩ : (Sl S_impl_Entry)), enc_bo, fun _ => true⟩ | _ => none
theorem hpc_slices_Equal_impl_Entry_impl_Entry (fu : Nat) : ∀ f xs o, pcf_slices_Equal_impl_Entry_impl_Entry fu f xs = some o → ∀ y, o.x = some y → Good E Try.prog f xs (o.g y) := by
  intro f xs o h
  cases h
theorem hpx_slices_Equal_impl_Entry_impl_Entry (fu : Nat) : ∀ f xs ins o, pcx_slices_Equal_impl_Entry_impl_Entry fu f xs ins = some o → ∀ y, o.x = some y → GoodX E Try.prog f xs ins (o.g y).1 (o.g y).2 := by
  intro f xs ins o h
  cases h
theorem goodv_slices_Equal_impl_Entry_impl_Entry (fu : Nat) (s1_0 : (Sl S_impl_Entry)) (s2_1 : (Sl S_impl_Entry)) (y : Bool) (hy : F_slices_Equal_impl_Entry_impl_Entry fu s1_0 s2_1 = some y) : Good E Try.prog 40 [(.rs s1_0.z .impl_Entry s1_0.n s1_0.f), (.rs s2_1.z .impl_Entry s2_1.n s2_1.f)] (enc_bo y) :=
  fun_good E_ok (pc_good (pc := pc_slices_Equal_impl_Entry_impl_Entry fu) (hpc_slices_Equal_impl_Entry_impl_Entry fu) (hpx_slices_Equal_impl_Entry_impl_Entry fu)) (fn := Try.f40) (c := body_slices_Equal_impl_Entry_impl_Entry) (out := out_bo) (y := y) (by kernel_rfl) (by kernel_rfl) (by kernel_rfl) (lpok_slices_Equal_impl_Entry_impl_Entry fu) (fun d hd => out_bo_enc d _ hd) ((ev_slices_Equal_impl_Entry_impl_Entry fu s1_0 s2_1).trans hy)
theorem good_slices_Equal_impl_Entry_impl_Entry (fu : Nat) : ∀ xs o, S_slices_Equal_impl_Entry_impl_Entry fu xs = some o → ∀ y, o.x = some y → Good E Try.prog 40 xs (o.g y) := by
  intro xs o h y hy
  unfold S_slices_Equal_impl_Entry_impl_Entry at h
  split at h
  · rename_i za0_0 na0_0 fa0_0 za1_0 na1_0 fa1_0
    cases h
    exact goodv_slices_Equal_impl_Entry_impl_Entry fu (⟨za0_0, na0_0, fa0_0⟩ : (Sl S_impl_Entry)) (⟨za1_0, na1_0, fa1_0⟩ : (Sl S_impl_Entry)) y hy
  · cases h

/-! impl.SameEntries -/
def F_impl_SameEntries (fu : Nat) (a_0 : (Sl S_impl_Entry)) (b_1 : (Sl S_impl_Entry)) : Option (Bool) :=
  ((F_slices_Equal_impl_Entry_impl_Entry fu a_0 b_1).bind fun y627 => (some y627))
def pcf_impl_SameEntries (fu : Nat) (f : Nat) (xs : List (D RT den)) : Option (Out RT den) := match f with | 40 => S_slices_Equal_impl_Entry_impl_Entry fu xs | _ => none
def pcx_impl_SameEntries (fu : Nat) (f : Nat) (xs : List (D RT den)) (ins : List (Ob RT den)) : Option (OutX RT den) := none
def pc_impl_SameEntries (fu : Nat) : Pc RT den := ⟨pcf_impl_SameEntries fu, fun _ => false, fun _ => false, pcx_impl_SameEntries fu⟩
def msk_impl_SameEntries (b : Nat) : List Nat := []
def lp_impl_SameEntries (fu : Nat) : Lp RT den (Bool) := fun b s k => none
theorem ev_impl_SameEntries (fu : Nat) (a_0 : (Sl S_impl_Entry)) (b_1 : (Sl S_impl_Entry)) : evFun E (pc_impl_SameEntries fu) msk_impl_SameEntries (lp_impl_SameEntries fu) out_bo 17 [(.rs a_0.z .impl_Entry a_0.n a_0.f), (.rs b_1.z .impl_Entry b_1.n b_1.f)] = F_impl_SameEntries fu a_0 b_1 := by kernel_rfl
noncomputable def body_impl_SameEntries : Code := Try.f17.body.getD .skip
theorem lpok_impl_SameEntries (fu : Nat) : LpOk E (pc_impl_SameEntries fu) msk_impl_SameEntries (lp_impl_SameEntries fu) (loops 0 body_impl_SameEntries) := by
  have h : loops 0 body_impl_SameEntries = [] := by kernel_rfl
  rw [h]; intro p hp; cases hp
def S_impl_SameEntries (fu : Nat) (xs : List (D RT den)) : Option (Out RT den) := match xs with | [.rs za0_0 .impl_Entry na0_0 fa0_0, .rs za1_0 .impl_Entry na1_0 fa1_0] => some ⟨Bool, F_impl_SameEntries fu (⟨za0_0, na0_0, fa0_0⟩ : (Sl S_impl_Entry)) (⟨za1_0, na1_0, fa1_0⟩ : (Sl S_impl_Entry)), enc_bo, fun _ => true⟩ | _ => none
theorem hpc_impl_SameEntries (fu : Nat) : ∀ f xs o, pcf_impl_SameEntries fu f xs = some o → ∀ y, o.x = some y → Good E Try.prog f xs (o.g y) := by
  intro f xs o h
  unfold pcf_impl_SameEntries at h
  split at h
  · exact good_slices_Equal_impl_Entry_impl_Entry fu xs o h
  · cases h
theorem hpx_impl_SameEntries (fu : Nat) : ∀ f xs ins o, pcx_impl_SameEntries fu f xs ins = some o → ∀ y, o.x = some y → GoodX E Try.prog f xs ins (o.g y).1 (o.g y).2 := by
  intro f xs ins o h
  cases h
theorem goodv_impl_SameEntries (fu : Nat) (a_0 : (Sl S_impl_Entry)) (b_1 : (Sl S_impl_Entry)) (y : Bool) (hy : F_impl_SameEntries fu a_0 b_1 = some y) : Good E Try.prog 17 [(.rs a_0.z .impl_Entry a_0.n a_0.f), (.rs b_1.z .impl_Entry b_1.n b_1.f)] (enc_bo y) :=
  fun_good E_ok (pc_good (pc := pc_impl_SameEntries fu) (hpc_impl_SameEntries fu) (hpx_impl_SameEntries fu)) (fn := Try.f17) (c := body_impl_SameEntries) (out := out_bo) (y := y) (by kernel_rfl) (by kernel_rfl) (by kernel_rfl) (lpok_impl_SameEntries fu) (fun d hd => out_bo_enc d _ hd) ((ev_impl_SameEntries fu a_0 b_1).trans hy)
theorem good_impl_SameEntries (fu : Nat) : ∀ xs o, S_impl_SameEntries fu xs = some o → ∀ y, o.x = some y → Good E Try.prog 17 xs (o.g y) := by
  intro xs o h y hy
  unfold S_impl_SameEntries at h
  split at h
  · rename_i za0_0 na0_0 fa0_0 za1_0 na1_0 fa1_0
    cases h
    exact goodv_impl_SameEntries fu (⟨za0_0, na0_0, fa0_0⟩ : (Sl S_impl_Entry)) (⟨za1_0, na1_0, fa1_0⟩ : (Sl S_impl_Entry)) y hy
  · cases h

/-! impl.last -/
def F_impl_last (fu : Nat) (log_0 : (Sl S_impl_Entry)) : Option (S_impl_Entry) :=
  (bif (((log_0.n : Nat) : Int) == 0) then (some (⟨0, 0, 0, (⟨0, 0, 0, 0, 0, 0⟩ : S_impl_Cmd)⟩ : S_impl_Entry)) else ((bif (decide (0 ≤ (IntKind.wrap .i64 (((log_0.n : Nat) : Int) - 1))) &&
    decide ((Int.toNat (IntKind.wrap .i64 (((log_0.n : Nat) : Int) - 1))) < log_0.n)) then some () else none : Option Unit).bind fun _ => (some (log_0.f (Int.toNat (IntKind.wrap .i64 (((log_0.n : Nat) : Int) - 1)))))))
def pcf_impl_last (fu : Nat) (f : Nat) (xs : List (D RT den)) : Option (Out RT den) := none
def pcx_impl_last (fu : Nat) (f : Nat) (xs : List (D RT den)) (ins : List (Ob RT den)) : Option (OutX RT den) := none
def pc_impl_last (fu : Nat) : Pc RT den := ⟨pcf_impl_last fu, fun _ => false, fun _ => false, pcx_impl_last fu⟩
def msk_impl_last (b : Nat) : List Nat := []
def lp_impl_last (fu : Nat) : Lp RT den (S_impl_Entry) := fun b s k => none
theorem ev_impl_last (fu : Nat) (log_0 : (Sl S_impl_Entry)) : evFun E (pc_impl_last fu) msk_impl_last (lp_impl_last fu) out_impl_Entry 42 [(.rs log_0.z .impl_Entry log_0.n log_0.f)] = F_impl_last fu log_0 := by kernel_rfl
noncomputable def body_impl_last : Code := Try.f42.body.getD .skip
theorem lpok_impl_last (fu : Nat) : LpOk E (pc_impl_last fu) msk_impl_last (lp_impl_last fu) (loops 0 body_impl_last) := by
  have h : loops 0 body_impl_last = [] := by kernel_rfl
  rw [h]; intro p hp; cases hp
def S_impl_last (fu : Nat) (xs : List (D RT den)) : Option (Out RT den) := match xs with | [.rs za0_0 .impl_Entry na0_0 fa0_0] => some ⟨S_impl_Entry, F_impl_last fu (⟨za0_0, na0_0, fa0_0⟩ : (Sl S_impl_Entry)), enc_impl_Entry, fun _ => true⟩ | _ => none
theorem hpc_impl_last (fu : Nat) : ∀ f xs o, pcf_impl_last fu f xs = some o → ∀ y, o.x = some y → Good E Try.prog f xs (o.g y) := by
  intro f xs o h
  cases h
theorem hpx_impl_last (fu : Nat) : ∀ f xs ins o, pcx_impl_last fu f xs ins = some o → ∀ y, o.x = some y → GoodX E Try.prog f xs ins (o.g y).1 (o.g y).2 := by
  intro f xs ins o h
  cases h
theorem goodv_impl_last (fu : Nat) (log_0 : (Sl S_impl_Entry)) (y : S_impl_Entry) (hy : F_impl_last fu log_0 = some y) : Good E Try.prog 42 [(.rs log_0.z .impl_Entry log_0.n log_0.f)] (enc_impl_Entry y) :=
  fun_good E_ok (pc_good (pc := pc_impl_last fu) (hpc_impl_last fu) (hpx_impl_last fu)) (fn := Try.f42) (c := body_impl_last) (out := out_impl_Entry) (y := y) (by kernel_rfl) (by kernel_rfl) (by kernel_rfl) (lpok_impl_last fu) (fun d hd => out_impl_Entry_enc d _ hd) ((ev_impl_last fu log_0).trans hy)
theorem good_impl_last (fu : Nat) : ∀ xs o, S_impl_last fu xs = some o → ∀ y, o.x = some y → Good E Try.prog 42 xs (o.g y) := by
  intro xs o h y hy
  unfold S_impl_last at h
  split at h
  · rename_i za0_0 na0_0 fa0_0
    cases h
    exact goodv_impl_last fu (⟨za0_0, na0_0, fa0_0⟩ : (Sl S_impl_Entry)) y hy
  · cases h

/-! impl.LastOf -/
def F_impl_LastOf (fu : Nat) (log_0 : (Sl S_impl_Entry)) : Option (S_impl_Entry) :=
  ((F_impl_last fu log_0).bind fun y628 => (some y628))
def pcf_impl_LastOf (fu : Nat) (f : Nat) (xs : List (D RT den)) : Option (Out RT den) := match f with | 42 => S_impl_last fu xs | _ => none
def pcx_impl_LastOf (fu : Nat) (f : Nat) (xs : List (D RT den)) (ins : List (Ob RT den)) : Option (OutX RT den) := none
def pc_impl_LastOf (fu : Nat) : Pc RT den := ⟨pcf_impl_LastOf fu, fun _ => false, fun _ => false, pcx_impl_LastOf fu⟩
def msk_impl_LastOf (b : Nat) : List Nat := []
def lp_impl_LastOf (fu : Nat) : Lp RT den (S_impl_Entry) := fun b s k => none
theorem ev_impl_LastOf (fu : Nat) (log_0 : (Sl S_impl_Entry)) : evFun E (pc_impl_LastOf fu) msk_impl_LastOf (lp_impl_LastOf fu) out_impl_Entry 19 [(.rs log_0.z .impl_Entry log_0.n log_0.f)] = F_impl_LastOf fu log_0 := by kernel_rfl
noncomputable def body_impl_LastOf : Code := Try.f19.body.getD .skip
theorem lpok_impl_LastOf (fu : Nat) : LpOk E (pc_impl_LastOf fu) msk_impl_LastOf (lp_impl_LastOf fu) (loops 0 body_impl_LastOf) := by
  have h : loops 0 body_impl_LastOf = [] := by kernel_rfl
  rw [h]; intro p hp; cases hp
def S_impl_LastOf (fu : Nat) (xs : List (D RT den)) : Option (Out RT den) := match xs with | [.rs za0_0 .impl_Entry na0_0 fa0_0] => some ⟨S_impl_Entry, F_impl_LastOf fu (⟨za0_0, na0_0, fa0_0⟩ : (Sl S_impl_Entry)), enc_impl_Entry, fun _ => true⟩ | _ => none
theorem hpc_impl_LastOf (fu : Nat) : ∀ f xs o, pcf_impl_LastOf fu f xs = some o → ∀ y, o.x = some y → Good E Try.prog f xs (o.g y) := by
  intro f xs o h
  unfold pcf_impl_LastOf at h
  split at h
  · exact good_impl_last fu xs o h
  · cases h
theorem hpx_impl_LastOf (fu : Nat) : ∀ f xs ins o, pcx_impl_LastOf fu f xs ins = some o → ∀ y, o.x = some y → GoodX E Try.prog f xs ins (o.g y).1 (o.g y).2 := by
  intro f xs ins o h
  cases h
theorem goodv_impl_LastOf (fu : Nat) (log_0 : (Sl S_impl_Entry)) (y : S_impl_Entry) (hy : F_impl_LastOf fu log_0 = some y) : Good E Try.prog 19 [(.rs log_0.z .impl_Entry log_0.n log_0.f)] (enc_impl_Entry y) :=
  fun_good E_ok (pc_good (pc := pc_impl_LastOf fu) (hpc_impl_LastOf fu) (hpx_impl_LastOf fu)) (fn := Try.f19) (c := body_impl_LastOf) (out := out_impl_Entry) (y := y) (by kernel_rfl) (by kernel_rfl) (by kernel_rfl) (lpok_impl_LastOf fu) (fun d hd => out_impl_Entry_enc d _ hd) ((ev_impl_LastOf fu log_0).trans hy)
theorem good_impl_LastOf (fu : Nat) : ∀ xs o, S_impl_LastOf fu xs = some o → ∀ y, o.x = some y → Good E Try.prog 19 xs (o.g y) := by
  intro xs o h y hy
  unfold S_impl_LastOf at h
  split at h
  · rename_i za0_0 na0_0 fa0_0
    cases h
    exact goodv_impl_LastOf fu (⟨za0_0, na0_0, fa0_0⟩ : (Sl S_impl_Entry)) y hy
  · cases h

/-! impl.upToDate -/
def F_impl_upToDate (fu : Nat) (log_0 : (Sl S_impl_Entry)) (index_1 : Int) (term_2 : Int) : Option (Bool) :=
  ((F_impl_last fu log_0).bind fun y632 => (((bif (decide (term_2 > y632.Term)) then (some true) else (bif (term_2 == y632.Term) then ((F_impl_size_impl_Entry fu log_0).bind fun y633 =>
    (some (decide (index_1 ≥ y633)))) else (some false))) : Option Bool).bind fun m634 => (some m634)))
def pcf_impl_upToDate (fu : Nat) (f : Nat) (xs : List (D RT den)) : Option (Out RT den) := match f with | 42 => S_impl_last fu xs | 49 => S_impl_size_impl_Entry fu xs | _ => none
def pcx_impl_upToDate (fu : Nat) (f : Nat) (xs : List (D RT den)) (ins : List (Ob RT den)) : Option (OutX RT den) := none
def pc_impl_upToDate (fu : Nat) : Pc RT den := ⟨pcf_impl_upToDate fu, fun _ => false, fun _ => false, pcx_impl_upToDate fu⟩
def msk_impl_upToDate (b : Nat) : List Nat := match b with | 200002 => [6] | _ => []
def lp_impl_upToDate (fu : Nat) : Lp RT den (Bool) := fun b s k => none
theorem ev_impl_upToDate (fu : Nat) (log_0 : (Sl S_impl_Entry)) (index_1 : Int) (term_2 : Int) : evFun E (pc_impl_upToDate fu) msk_impl_upToDate (lp_impl_upToDate fu) out_bo 41 [(.rs log_0.z .impl_Entry log_0.n log_0.f), (.int .i64 index_1), (.int .i64 term_2)] = F_impl_upToDate fu log_0 index_1 term_2 := by kernel_rfl
noncomputable def body_impl_upToDate : Code := Try.f41.body.getD .skip
theorem lpok_impl_upToDate (fu : Nat) : LpOk E (pc_impl_upToDate fu) msk_impl_upToDate (lp_impl_upToDate fu) (loops 0 body_impl_upToDate) := by
  have h : loops 0 body_impl_upToDate = [] := by kernel_rfl
  rw [h]; intro p hp; cases hp
def S_impl_upToDate (fu : Nat) (xs : List (D RT den)) : Option (Out RT den) := match xs with | [.rs za0_0 .impl_Entry na0_0 fa0_0, .int .i64 a1_0, .int .i64 a2_0] => some ⟨Bool, F_impl_upToDate fu (⟨za0_0, na0_0, fa0_0⟩ : (Sl S_impl_Entry)) a1_0 a2_0, enc_bo, fun _ => true⟩ | _ => none
theorem hpc_impl_upToDate (fu : Nat) : ∀ f xs o, pcf_impl_upToDate fu f xs = some o → ∀ y, o.x = some y → Good E Try.prog f xs (o.g y) := by
  intro f xs o h
  unfold pcf_impl_upToDate at h
  split at h
  · exact good_impl_last fu xs o h
  · exact good_impl_size_impl_Entry fu xs o h
  · cases h
theorem hpx_impl_upToDate (fu : Nat) : ∀ f xs ins o, pcx_impl_upToDate fu f xs ins = some o → ∀ y, o.x = some y → GoodX E Try.prog f xs ins (o.g y).1 (o.g y).2 := by
  intro f xs ins o h
  cases h
theorem goodv_impl_upToDate (fu : Nat) (log_0 : (Sl S_impl_Entry)) (index_1 : Int) (term_2 : Int) (y : Bool) (hy : F_impl_upToDate fu log_0 index_1 term_2 = some y) : Good E Try.prog 41 [(.rs log_0.z .impl_Entry log_0.n log_0.f), (.int .i64 index_1), (.int .i64 term_2)] (enc_bo y) :=
  fun_good E_ok (pc_good (pc := pc_impl_upToDate fu) (hpc_impl_upToDate fu) (hpx_impl_upToDate fu)) (fn := Try.f41) (c := body_impl_upToDate) (out := out_bo) (y := y) (by kernel_rfl) (by kernel_rfl) (by kernel_rfl) (lpok_impl_upToDate fu) (fun d hd => out_bo_enc d _ hd) ((ev_impl_upToDate fu log_0 index_1 term_2).trans hy)
theorem good_impl_upToDate (fu : Nat) : ∀ xs o, S_impl_upToDate fu xs = some o → ∀ y, o.x = some y → Good E Try.prog 41 xs (o.g y) := by
  intro xs o h y hy
  unfold S_impl_upToDate at h
  split at h
  · rename_i za0_0 na0_0 fa0_0 a1_0 a2_0
    cases h
    exact goodv_impl_upToDate fu (⟨za0_0, na0_0, fa0_0⟩ : (Sl S_impl_Entry)) a1_0 a2_0 y hy
  · cases h

/-! impl.UpToDate -/
def F_impl_UpToDate (fu : Nat) (log_0 : (Sl S_impl_Entry)) (index_1 : Int) (term_2 : Int) : Option (Bool) :=
  ((((F_impl_LogFault fu log_0).bind fun y629 => (bif (y629 == 0) then ((F_impl_upToDate fu log_0 index_1 term_2).bind fun y630 => (some y630)) else (some false))) : Option Bool).bind fun m631 =>
    (some m631))
def pcf_impl_UpToDate (fu : Nat) (f : Nat) (xs : List (D RT den)) : Option (Out RT den) := match f with | 14 => S_impl_LogFault fu xs | 41 => S_impl_upToDate fu xs | _ => none
def pcx_impl_UpToDate (fu : Nat) (f : Nat) (xs : List (D RT den)) (ins : List (Ob RT den)) : Option (OutX RT den) := none
def pc_impl_UpToDate (fu : Nat) : Pc RT den := ⟨pcf_impl_UpToDate fu, fun _ => false, fun _ => false, pcx_impl_UpToDate fu⟩
def msk_impl_UpToDate (b : Nat) : List Nat := match b with | 200001 => [6] | _ => []
def lp_impl_UpToDate (fu : Nat) : Lp RT den (Bool) := fun b s k => none
theorem ev_impl_UpToDate (fu : Nat) (log_0 : (Sl S_impl_Entry)) (index_1 : Int) (term_2 : Int) : evFun E (pc_impl_UpToDate fu) msk_impl_UpToDate (lp_impl_UpToDate fu) out_bo 18 [(.rs log_0.z .impl_Entry log_0.n log_0.f), (.int .i64 index_1), (.int .i64 term_2)] = F_impl_UpToDate fu log_0 index_1 term_2 := by kernel_rfl
noncomputable def body_impl_UpToDate : Code := Try.f18.body.getD .skip
theorem lpok_impl_UpToDate (fu : Nat) : LpOk E (pc_impl_UpToDate fu) msk_impl_UpToDate (lp_impl_UpToDate fu) (loops 0 body_impl_UpToDate) := by
  have h : loops 0 body_impl_UpToDate = [] := by kernel_rfl
  rw [h]; intro p hp; cases hp
def S_impl_UpToDate (fu : Nat) (xs : List (D RT den)) : Option (Out RT den) := match xs with | [.rs za0_0 .impl_Entry na0_0 fa0_0, .int .i64 a1_0, .int .i64 a2_0] => some ⟨Bool, F_impl_UpToDate fu (⟨za0_0, na0_0, fa0_0⟩ : (Sl S_impl_Entry)) a1_0 a2_0, enc_bo, fun _ => true⟩ | _ => none
theorem hpc_impl_UpToDate (fu : Nat) : ∀ f xs o, pcf_impl_UpToDate fu f xs = some o → ∀ y, o.x = some y → Good E Try.prog f xs (o.g y) := by
  intro f xs o h
  unfold pcf_impl_UpToDate at h
  split at h
  · exact good_impl_LogFault fu xs o h
  · exact good_impl_upToDate fu xs o h
  · cases h
theorem hpx_impl_UpToDate (fu : Nat) : ∀ f xs ins o, pcx_impl_UpToDate fu f xs ins = some o → ∀ y, o.x = some y → GoodX E Try.prog f xs ins (o.g y).1 (o.g y).2 := by
  intro f xs ins o h
  cases h
theorem goodv_impl_UpToDate (fu : Nat) (log_0 : (Sl S_impl_Entry)) (index_1 : Int) (term_2 : Int) (y : Bool) (hy : F_impl_UpToDate fu log_0 index_1 term_2 = some y) : Good E Try.prog 18 [(.rs log_0.z .impl_Entry log_0.n log_0.f), (.int .i64 index_1), (.int .i64 term_2)] (enc_bo y) :=
  fun_good E_ok (pc_good (pc := pc_impl_UpToDate fu) (hpc_impl_UpToDate fu) (hpx_impl_UpToDate fu)) (fn := Try.f18) (c := body_impl_UpToDate) (out := out_bo) (y := y) (by kernel_rfl) (by kernel_rfl) (by kernel_rfl) (lpok_impl_UpToDate fu) (fun d hd => out_bo_enc d _ hd) ((ev_impl_UpToDate fu log_0 index_1 term_2).trans hy)
theorem good_impl_UpToDate (fu : Nat) : ∀ xs o, S_impl_UpToDate fu xs = some o → ∀ y, o.x = some y → Good E Try.prog 18 xs (o.g y) := by
  intro xs o h y hy
  unfold S_impl_UpToDate at h
  split at h
  · rename_i za0_0 na0_0 fa0_0 a1_0 a2_0
    cases h
    exact goodv_impl_UpToDate fu (⟨za0_0, na0_0, fa0_0⟩ : (Sl S_impl_Entry)) a1_0 a2_0 y hy
  · cases h

/-! laws.FnLogs -/
def F_laws_FnLogs_B0 {ρ : Type} (fu : Nat) (index4_0 : Int) (term5_1 : Int) (more6_2 : (Sl S_impl_Entry)) (o0_4 : Int) (o0_5 : (Sl S_impl_Entry)) (k0 : Option ρ) (k1 : Option ρ) (k8_3 : Int) (go : Int → Option ρ) : Option ρ :=
  (bif (decide (k8_3 < ((more6_2.n : Nat) : Int))) then ((bif (decide (0 ≤ (IntKind.wrap .i64 (index4_0 + k8_3))) && decide ((Int.toNat (IntKind.wrap .i64 (index4_0 + k8_3))) < o0_5.n)) then
    some () else none : Option Unit).bind fun _ => ((bif (decide (0 ≤ k8_3) && decide ((Int.toNat k8_3) < more6_2.n)) then some () else none : Option Unit).bind fun _ => (bif ((o0_5.f (Int.toNat (IntKind.wrap .i64 (index4_0 + k8_3)))).Term != (more6_2.f (Int.toNat k8_3)).Term) then
    k0 else (go (IntKind.wrap .i64 (k8_3 + 1)))))) else k1)
def F_laws_FnLogs (fu : Nat) (code_0 : (Sl Int)) : Option (Bool) :=
  ((F_laws_lwBig fu code_0).bind fun y1 => (bif y1 then (some true) else ((F_spec_DrawTakeEntries fu code_0).bind fun y2 => ((F_impl_TakeEntries fu y2.1 y2.2.1 y2.2.2.1 y2.2.2.2).bind fun y3 =>
    (bif (y3.Code != 0) then ((F_spec_TakeEntries fu y2.1 y2.2.1 y2.2.2.1 y2.2.2.2).bind fun y93 => (some (y93.Code == y3.Code))) else ((((F_impl_LogFault fu y3.Entries).bind fun y164 =>
    (bif (y164 != 0) then (some true) else (bif (decide (((y3.Entries.n : Nat) : Int) < (IntKind.wrap .i64 (y2.2.1 + ((y2.2.2.2.n : Nat) : Int))))) then (some true) else
    ((F_impl_CommonOf fu y2.1 y3.Entries).bind fun y165 => (some (decide (y165 < y2.2.1))))))) : Option Bool).bind fun m166 => (bif m166 then (some false) else (L (fun w0 go0 =>
    F_laws_FnLogs_B0 fu y2.2.1 y2.2.2.1 y2.2.2.2 y3.Code y3.Entries (some false) ((F_impl_TakeEntries fu y3.Entries y2.2.1 y2.2.2.1 y2.2.2.2).bind fun y167 => ((((F_impl_FitsAt fu y3.Entries y2.2.1 y2.2.2.1).bind fun y168 =>
    (bif y168 then (bif (y167.Code == 0) then ((F_impl_SameEntries fu y167.Entries y3.Entries).bind fun y169 => (bif y169 then ((F_impl_LastOf fu y3.Entries).bind fun y170 =>
    ((F_impl_UpToDate fu y3.Entries ((y3.Entries.n : Nat) : Int) y170.Term).bind fun y171 => (some y171))) else (some false))) else (some false)) else (some false))) : Option Bool).bind fun m172 =>
    (some m172))) w0 go0) fu (0 : Int)))))))))
def pcf_laws_FnLogs (fu : Nat) (f : Nat) (xs : List (D RT den)) : Option (Out RT den) := match f with | 5 => S_laws_lwBig fu xs | 11 => S_spec_DrawTakeEntries fu xs | 12 => S_impl_TakeEntries fu xs | 13 => S_spec_TakeEntries fu xs | 14 => S_impl_LogFault fu xs | 15 => S_impl_CommonOf fu xs | 16 => S_impl_FitsAt fu xs | 17 => S_impl_SameEntries fu xs | 18 => S_impl_UpToDate fu xs | 19 => S_impl_LastOf fu xs | _ => none
def pcx_laws_FnLogs (fu : Nat) (f : Nat) (xs : List (D RT den)) (ins : List (Ob RT den)) : Option (OutX RT den) := none
def pc_laws_FnLogs (fu : Nat) : Pc RT den := ⟨pcf_laws_FnLogs fu, fun _ => false, fun _ => false, pcx_laws_FnLogs fu⟩
def msk_laws_FnLogs (b : Nat) : List Nat := match b with | 0 => [0, 1, 2, 3, 9, 10, 11, 12, 13, 14, 15, 16, 17, 18, 19, 20, 21, 22, 23, 24, 25, 26, 27, 28, 29, 30, 31, 32, 33, 34, 35, 36, 37, 38, 39, 40, 41, 42, 43, 44, 45, 46, 47, 48, 49, 50, 51, 52, 53, 54, 55, 56, 57, 58, 59, 60, 61, 62, 63, 64, 65, 66, 67, 68, 69, 70, 71, 72, 73, 74, 75, 76, 77, 78, 79, 80, 81, 82, 83, 84, 85, 86, 87, 88, 89, 90, 91, 92, 93, 94, 95, 96, 97, 98, 99, 100, 101, 102, 103, 104, 105, 106, 107, 108, 109, 110, 111, 112] | 100000 => [0, 1, 3, 8, 9, 10, 11, 12, 13, 14, 15, 16, 17, 18, 19, 20, 21, 22, 23, 24, 25, 26, 27, 28, 29, 30, 31, 32, 33, 34, 35, 36, 37, 38, 39, 40, 41, 42, 43, 44, 45, 46, 47, 48, 49, 50, 51, 52, 53, 54, 55, 56, 57, 58, 59, 60, 61, 62, 63, 64, 65, 66, 67, 68, 69, 70, 71, 72, 73, 74, 75, 76, 77, 78, 79, 80, 81, 82, 83, 84, 85, 86, 87, 88, 89, 90, 91, 92, 93, 94, 95, 96, 97, 98, 99, 100, 101, 102, 103, 104, 105, 106, 107, 108, 109, 110, 111, 112] | 200007 => [57] | 200015 => [2] | _ => []
def ps_laws_FnLogs_0 : List (Pat RT) := [.flat .dead, .flat .dead, .flat .dead, .flat .dead, .flat (.int .i64), .flat (.int .i64), .flat (.rs .impl_Entry), .flat (.ref 0 0), .flat (.int .i64), .flat .dead, .flat .dead, .flat .dead, .flat .dead, .flat .dead, .flat .dead, .flat .dead, .flat .dead, .flat .dead, .flat .dead, .flat .dead, .flat .dead, .flat .dead, .flat .dead, .flat .dead, .flat .dead, .flat .dead, .flat .dead, .flat .dead, .flat .dead, .flat .dead, .flat .dead, .flat .dead, .flat .dead, .flat .dead, .flat .dead, .flat .dead, .flat .dead, .flat .dead, .flat .dead, .flat .dead, .flat .dead, .flat .dead, .flat .dead, .flat .dead, .flat .dead, .flat .dead, .flat .dead, .flat .dead, .flat .dead, .flat .dead, .flat .dead, .flat .dead, .flat .dead, .flat .dead, .flat .dead, .flat .dead, .flat .dead, .flat .dead, .flat .dead, .flat .dead, .flat .dead, .flat .dead, .flat .dead, .flat .dead, .flat .dead, .flat .dead, .flat .dead, .flat .dead, .flat .dead, .flat .dead, .flat .dead, .flat .dead, .flat .dead, .flat .dead, .flat .dead, .flat .dead, .flat .dead, .flat .dead, .flat .dead, .flat .dead, .flat .dead, .flat .dead, .flat .dead, .flat .dead, .flat .dead, .flat .dead, .flat .dead, .flat .dead, .flat .dead, .flat .dead, .flat .dead, .flat .dead, .flat .dead, .flat .dead, .flat .dead, .flat .dead, .flat .dead, .flat .dead, .flat .dead, .flat .dead, .flat .dead, .flat .dead, .flat .dead, .flat .dead, .flat .dead, .flat .dead, .flat .dead, .flat .dead, .flat .dead, .flat .dead, .flat .dead, .flat .dead, .flat .dead]
def os_laws_FnLogs_0 : List (OP RT) := [.box false [(.int .i64), (.rs .impl_Entry)]]
def conv_laws_FnLogs_0 (r : Raw den ps_laws_FnLogs_0 os_laws_FnLogs_0) : (Int × Int × (Sl S_impl_Entry) × Int × (Sl S_impl_Entry)) × (Int) := ((r.1.2.2.2.2.1, r.1.2.2.2.2.2.1, r.1.2.2.2.2.2.2.1, r.2.1.1, r.2.1.2.1), r.1.2.2.2.2.2.2.2.2.1)
def back_laws_FnLogs_0 (c : Int × Int × (Sl S_impl_Entry) × Int × (Sl S_impl_Entry)) (w : Int) : St RT den := ⟨[.dead, .dead, .dead, .dead, (.int .i64 c.1), (.int .i64 c.2.1), (.rs c.2.2.1.z .impl_Entry c.2.2.1.n c.2.2.1.f), (.ref 0 0), (.int .i64 w), .dead, .dead, .dead, .dead, .dead, .dead, .dead, .dead, .dead, .dead, .dead, .dead, .dead, .dead, .dead, .dead, .dead, .dead, .dead, .dead, .dead, .dead, .dead, .dead, .dead, .dead, .dead, .dead, .dead, .dead, .dead, .dead, .dead, .dead, .dead, .dead, .dead, .dead, .dead, .dead, .dead, .dead, .dead, .dead, .dead, .dead, .dead, .dead, .dead, .dead, .dead, .dead, .dead, .dead, .dead, .dead, .dead, .dead, .dead, .dead, .dead, .dead, .dead, .dead, .dead, .dead, .dead, .dead, .dead, .dead, .dead, .dead, .dead, .dead, .dead, .dead, .dead, .dead, .dead, .dead, .dead, .dead, .dead, .dead, .dead, .dead, .dead, .dead, .dead, .dead, .dead, .dead, .dead, .dead, .dead, .dead, .dead, .dead, .dead, .dead, .dead, .dead, .dead, .dead], [(.box false [(.int .i64 c.2.2.2.1), (.rs c.2.2.2.2.z .impl_Entry c.2.2.2.2.n c.2.2.2.2.f)])]⟩
def Bk_laws_FnLogs_0 {ρ : Type} (fu : Nat) (c : Int × Int × (Sl S_impl_Entry) × Int × (Sl S_impl_Entry)) (k : Ex → St RT den → Option ρ) (w : Int) (go : (Int) → Option ρ) : Option ρ := F_laws_FnLogs_B0 fu c.1 c.2.1 c.2.2.1 c.2.2.2.1 c.2.2.2.2 (k .ret ⟨[.dead, .dead, (.bool false), .dead, (.int .i64 c.1), (.int .i64 c.2.1), (.rs c.2.2.1.z .impl_Entry c.2.2.1.n c.2.2.1.f), (.ref 0 0), .dead, .dead, .dead, .dead, .dead, .dead, .dead, .dead, .dead, .dead, .dead, .dead, .dead, .dead, .dead, .dead, .dead, .dead, .dead, .dead, .dead, .dead, .dead, .dead, .dead, .dead, .dead, .dead, .dead, .dead, .dead, .dead, .dead, .dead, .dead, .dead, .dead, .dead, .dead, .dead, .dead, .dead, .dead, .dead, .dead, .dead, .dead, .dead, .dead, .dead, .dead, .dead, .dead, .dead, .dead, .dead, .dead, .dead, .dead, .dead, .dead, .dead, .dead, .dead, .dead, .dead, .dead, .dead, .dead, .dead, .dead, .dead, .dead, .dead, .dead, .dead, .dead, .dead, .dead, .dead, .dead, .dead, .dead, .dead, .dead, .dead, .dead, .dead, .dead, .dead, .dead, .dead, .dead, .dead, .dead, .dead, .dead, .dead, .dead, .dead, .dead, .dead, .dead, .dead, .dead], [(.box false [(.int .i64 c.2.2.2.1), (.rs c.2.2.2.2.z .impl_Entry c.2.2.2.2.n c.2.2.2.2.f)])]⟩) (k (.exit 0) ⟨[.dead, .dead, .dead, .dead, (.int .i64 c.1), (.int .i64 c.2.1), (.rs c.2.2.1.z .impl_Entry c.2.2.1.n c.2.2.1.f), (.ref 0 0), .dead, .dead, .dead, .dead, .dead, .dead, .dead, .dead, .dead, .dead, .dead, .dead, .dead, .dead, .dead, .dead, .dead, .dead, .dead, .dead, .dead, .dead, .dead, .dead, .dead, .dead, .dead, .dead, .dead, .dead, .dead, .dead, .dead, .dead, .dead, .dead, .dead, .dead, .dead, .dead, .dead, .dead, .dead, .dead, .dead, .dead, .dead, .dead, .dead, .dead, .dead, .dead, .dead, .dead, .dead, .dead, .dead, .dead, .dead, .dead, .dead, .dead, .dead, .dead, .dead, .dead, .dead, .dead, .dead, .dead, .dead, .dead, .dead, .dead, .dead, .dead, .dead, .dead, .dead, .dead, .dead, .dead, .dead, .dead, .dead, .dead, .dead, .dead, .dead, .dead, .dead, .dead, .dead, .dead, .dead, .dead, .dead, .dead, .dead, .dead, .dead, .dead, .dead, .dead, .dead], [(.box false [(.int .i64 c.2.2.2.1), (.rs c.2.2.2.2.z .impl_Entry c.2.2.2.2.n c.2.2.2.2.f)])]⟩) w go
def lp_laws_FnLogs (fu : Nat) : Lp RT den (Bool) := fun b s k => match b with | 0 => handle ps_laws_FnLogs_0 os_laws_FnLogs_0 conv_laws_FnLogs_0 (Bk_laws_FnLogs_0 fu) fu s k | _ => none
theorem ev_laws_FnLogs (fu : Nat) (code_0 : (Sl Int)) : evFun E (pc_laws_FnLogs fu) msk_laws_FnLogs (lp_laws_FnLogs fu) out_bo 4 [(.rs code_0.z .u8 code_0.n code_0.f)] = F_laws_FnLogs fu code_0 := by kernel_rfl
noncomputable def body_laws_FnLogs : Code := Try.f4.body.getD .skip
noncomputable def lc_laws_FnLogs_0 : Code := ((loops 0 body_laws_FnLogs).getD 0 (0, .skip)).2
theorem round_laws_FnLogs_0 (fu : Nat) (it : St RT den → Option (Bool)) (k : Ex → St RT den → Option (Bool)) c w : evCode E (pc_laws_FnLogs fu) msk_laws_FnLogs (lp_laws_FnLogs fu) 0 lc_laws_FnLogs_0 (back_laws_FnLogs_0 c w) (after (msk_laws_FnLogs 0) (msk_laws_FnLogs 100000) 1 it k) = Bk_laws_FnLogs_0 fu c k w (fun w => it (back_laws_FnLogs_0 c w)) := by kernel_rfl
theorem lpok_laws_FnLogs_0 (fu : Nat) : ∀ s k r, lp_laws_FnLogs fu 0 s k = some r → ∃ fuel, iter (msk_laws_FnLogs 0) (msk_laws_FnLogs 100000) s.objs.length (evCode E (pc_laws_FnLogs fu) msk_laws_FnLogs (lp_laws_FnLogs fu) 0 lc_laws_FnLogs_0) fuel s k = some r :=
  handle_ok (ps := ps_laws_FnLogs_0) (os := os_laws_FnLogs_0) (conv := conv_laws_FnLogs_0) (B := Bk_laws_FnLogs_0 fu) (fu := fu) back_laws_FnLogs_0 (fun raw => by kernel_rfl) 1 (fun c w => by kernel_rfl) (round_laws_FnLogs_0 fu)
theorem lpok_laws_FnLogs (fu : Nat) : LpOk E (pc_laws_FnLogs fu) msk_laws_FnLogs (lp_laws_FnLogs fu) (loops 0 body_laws_FnLogs) := loop_all 1 (by kernel_rfl) fun i hi => match i, hi with
  | 0, _ => by
    have h : (loops 0 body_laws_FnLogs).getD 0 (0, .skip) = (0, lc_laws_FnLogs_0) := by kernel_rfl
    rw [h]; exact lpok_laws_FnLogs_0 fu
  | i + 1, hi => absurd hi (by omega)
def S_laws_FnLogs (fu : Nat) (xs : List (D RT den)) : Option (Out RT den) := match xs with | [.rs za0_0 .u8 na0_0 fa0_0] => some ⟨Bool, F_laws_FnLogs fu (⟨za0_0, na0_0, fa0_0⟩ : (Sl Int)), enc_bo, fun _ => true⟩ | _ => none
theorem hpc_laws_FnLogs (fu : Nat) : ∀ f xs o, pcf_laws_FnLogs fu f xs = some o → ∀ y, o.x = some y → Good E Try.prog f xs (o.g y) := by
  intro f xs o h
  unfold pcf_laws_FnLogs at h
  split at h
  · exact good_laws_lwBig fu xs o h
  · exact good_spec_DrawTakeEntries fu xs o h
  · exact good_impl_TakeEntries fu xs o h
  · exact good_spec_TakeEntries fu xs o h
  · exact good_impl_LogFault fu xs o h
  · exact good_impl_CommonOf fu xs o h
  · exact good_impl_FitsAt fu xs o h
  · exact good_impl_SameEntries fu xs o h
  · exact good_impl_UpToDate fu xs o h
  · exact good_impl_LastOf fu xs o h
  · cases h
theorem hpx_laws_FnLogs (fu : Nat) : ∀ f xs ins o, pcx_laws_FnLogs fu f xs ins = some o → ∀ y, o.x = some y → GoodX E Try.prog f xs ins (o.g y).1 (o.g y).2 := by
  intro f xs ins o h
  cases h
theorem goodv_laws_FnLogs (fu : Nat) (code_0 : (Sl Int)) (y : Bool) (hy : F_laws_FnLogs fu code_0 = some y) : Good E Try.prog 4 [(.rs code_0.z .u8 code_0.n code_0.f)] (enc_bo y) :=
  fun_good E_ok (pc_good (pc := pc_laws_FnLogs fu) (hpc_laws_FnLogs fu) (hpx_laws_FnLogs fu)) (fn := Try.f4) (c := body_laws_FnLogs) (out := out_bo) (y := y) (by kernel_rfl) (by kernel_rfl) (by kernel_rfl) (lpok_laws_FnLogs fu) (fun d hd => out_bo_enc d _ hd) ((ev_laws_FnLogs fu code_0).trans hy)
theorem good_laws_FnLogs (fu : Nat) : ∀ xs o, S_laws_FnLogs fu xs = some o → ∀ y, o.x = some y → Good E Try.prog 4 xs (o.g y) := by
  intro xs o h y hy
  unfold S_laws_FnLogs at h
  split at h
  · rename_i za0_0 na0_0 fa0_0
    cases h
    exact goodv_laws_FnLogs fu (⟨za0_0, na0_0, fa0_0⟩ : (Sl Int)) y hy
  · cases h
end Go.Proofs.Ytokpamekcpbkaaa.Pc
