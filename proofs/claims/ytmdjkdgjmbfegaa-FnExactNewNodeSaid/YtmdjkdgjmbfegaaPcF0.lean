/- The functions' evaluated forms, each a proved summary. Conditions: none. -/
import Derived.Test.YtmdjkdgjmbfegaaPcT
namespace Go.Proofs.Ytmdjkdgjmbfegaa.Pc
open Go Go.RowKit Go.Proofs Vm
set_option linter.unusedVariables false
set_option linter.unusedSimpArgs false
set_option maxRecDepth 100000
/-! laws.toCmd -/
def F_laws_toCmd (fu : Nat) (a_0 : S_impl_Cmd) : Option (S_impl_Cmd) :=
  (some a_0)
def pcf_laws_toCmd (fu : Nat) (f : Nat) (xs : List (D RT den)) : Option (Out RT den) := none
def pcx_laws_toCmd (fu : Nat) (f : Nat) (xs : List (D RT den)) (ins : List (Ob RT den)) : Option (OutX RT den) := none
def pc_laws_toCmd (fu : Nat) : Pc RT den := ⟨pcf_laws_toCmd fu, fun _ => false, fun _ => false, pcx_laws_toCmd fu⟩
def msk_laws_toCmd (b : Nat) : List Nat := []
def lp_laws_toCmd (fu : Nat) : Lp RT den (S_impl_Cmd) := fun b s k => none
theorem ev_laws_toCmd (fu : Nat) (a_0 : S_impl_Cmd) : evFun E (pc_laws_toCmd fu) msk_laws_toCmd (lp_laws_toCmd fu) out_impl_Cmd 79 [(.agg [(.int .i64 a_0.Kind), (.int .i64 a_0.Expect), (.int .i64 a_0.Name), (.int .i64 a_0.Addr), (.int .i64 a_0.Number), (.int .i64 a_0.Proto)])] = F_laws_toCmd fu a_0 := by kernel_rfl
noncomputable def body_laws_toCmd : Code := Try.f79.body.getD .skip
theorem lpok_laws_toCmd (fu : Nat) : LpOk E (pc_laws_toCmd fu) msk_laws_toCmd (lp_laws_toCmd fu) (loops 0 body_laws_toCmd) := by
  have h : loops 0 body_laws_toCmd = [] := by kernel_rfl
  rw [h]; intro p hp; cases hp
def S_laws_toCmd (fu : Nat) (xs : List (D RT den)) : Option (Out RT den) := match xs with | [.agg [.int .i64 a0_1, .int .i64 a0_2, .int .i64 a0_3, .int .i64 a0_4, .int .i64 a0_5, .int .i64 a0_6]] => some ⟨S_impl_Cmd, F_laws_toCmd fu (⟨a0_1, a0_2, a0_3, a0_4, a0_5, a0_6⟩ : S_impl_Cmd), enc_impl_Cmd, fun _ => true⟩ | _ => none
theorem hpc_laws_toCmd (fu : Nat) : ∀ f xs o, pcf_laws_toCmd fu f xs = some o → ∀ y, o.x = some y → Good E Try.prog f xs (o.g y) := by
  intro f xs o h
  cases h
theorem hpx_laws_toCmd (fu : Nat) : ∀ f xs ins o, pcx_laws_toCmd fu f xs ins = some o → ∀ y, o.x = some y → GoodX E Try.prog f xs ins (o.g y).1 (o.g y).2 := by
  intro f xs ins o h
  cases h
theorem goodv_laws_toCmd (fu : Nat) (a_0 : S_impl_Cmd) (y : S_impl_Cmd) (hy : F_laws_toCmd fu a_0 = some y) : Good E Try.prog 79 [(.agg [(.int .i64 a_0.Kind), (.int .i64 a_0.Expect), (.int .i64 a_0.Name), (.int .i64 a_0.Addr), (.int .i64 a_0.Number), (.int .i64 a_0.Proto)])] (enc_impl_Cmd y) :=
  fun_good E_ok (pc_good (pc := pc_laws_toCmd fu) (hpc_laws_toCmd fu) (hpx_laws_toCmd fu)) (fn := Try.f79) (c := body_laws_toCmd) (out := out_impl_Cmd) (y := y) (by kernel_rfl) (by kernel_rfl) (by kernel_rfl) (lpok_laws_toCmd fu) (fun d hd => out_impl_Cmd_enc d _ hd) ((ev_laws_toCmd fu a_0).trans hy)
theorem good_laws_toCmd (fu : Nat) : ∀ xs o, S_laws_toCmd fu xs = some o → ∀ y, o.x = some y → Good E Try.prog 79 xs (o.g y) := by
  intro xs o h y hy
  unfold S_laws_toCmd at h
  split at h
  · rename_i a0_1 a0_2 a0_3 a0_4 a0_5 a0_6
    cases h
    exact goodv_laws_toCmd fu (⟨a0_1, a0_2, a0_3, a0_4, a0_5, a0_6⟩ : S_impl_Cmd) y hy
  · cases h

/-! laws.toEntry -/
def F_laws_toEntry (fu : Nat) (a_0 : S_laws_Entry) : Option (S_impl_Entry) :=
  ((F_laws_toCmd fu a_0.Cmd).bind fun y5 => (some (⟨a_0.Term, a_0.Client, a_0.Seq, y5⟩ : S_impl_Entry)))
def pcf_laws_toEntry (fu : Nat) (f : Nat) (xs : List (D RT den)) : Option (Out RT den) := match f with | 79 => S_laws_toCmd fu xs | _ => none
def pcx_laws_toEntry (fu : Nat) (f : Nat) (xs : List (D RT den)) (ins : List (Ob RT den)) : Option (OutX RT den) := none
def pc_laws_toEntry (fu : Nat) : Pc RT den := ⟨pcf_laws_toEntry fu, fun _ => false, fun _ => false, pcx_laws_toEntry fu⟩
def msk_laws_toEntry (b : Nat) : List Nat := []
def lp_laws_toEntry (fu : Nat) : Lp RT den (S_impl_Entry) := fun b s k => none
theorem ev_laws_toEntry (fu : Nat) (a_0 : S_laws_Entry) : evFun E (pc_laws_toEntry fu) msk_laws_toEntry (lp_laws_toEntry fu) out_impl_Entry 44 [(.agg [(.int .i64 a_0.Term), (.int .i64 a_0.Client), (.int .i64 a_0.Seq), (.int .i64 a_0.Cmd.Kind), (.int .i64 a_0.Cmd.Expect), (.int .i64 a_0.Cmd.Name), (.int .i64 a_0.Cmd.Addr), (.int .i64 a_0.Cmd.Number), (.int .i64 a_0.Cmd.Proto)])] = F_laws_toEntry fu a_0 := by kernel_rfl
noncomputable def body_laws_toEntry : Code := Try.f44.body.getD .skip
theorem lpok_laws_toEntry (fu : Nat) : LpOk E (pc_laws_toEntry fu) msk_laws_toEntry (lp_laws_toEntry fu) (loops 0 body_laws_toEntry) := by
  have h : loops 0 body_laws_toEntry = [] := by kernel_rfl
  rw [h]; intro p hp; cases hp
def S_laws_toEntry (fu : Nat) (xs : List (D RT den)) : Option (Out RT den) := match xs with | [.agg [.int .i64 a0_1, .int .i64 a0_2, .int .i64 a0_3, .int .i64 a0_5, .int .i64 a0_6, .int .i64 a0_7, .int .i64 a0_8, .int .i64 a0_9, .int .i64 a0_10]] => some ⟨S_impl_Entry, F_laws_toEntry fu (⟨a0_1, a0_2, a0_3, (⟨a0_5, a0_6, a0_7, a0_8, a0_9, a0_10⟩ : S_impl_Cmd)⟩ : S_laws_Entry), enc_impl_Entry, fun _ => true⟩ | _ => none
theorem hpc_laws_toEntry (fu : Nat) : ∀ f xs o, pcf_laws_toEntry fu f xs = some o → ∀ y, o.x = some y → Good E Try.prog f xs (o.g y) := by
  intro f xs o h
  unfold pcf_laws_toEntry at h
  split at h
  · exact good_laws_toCmd fu xs o h
  · cases h
theorem hpx_laws_toEntry (fu : Nat) : ∀ f xs ins o, pcx_laws_toEntry fu f xs ins = some o → ∀ y, o.x = some y → GoodX E Try.prog f xs ins (o.g y).1 (o.g y).2 := by
  intro f xs ins o h
  cases h
theorem goodv_laws_toEntry (fu : Nat) (a_0 : S_laws_Entry) (y : S_impl_Entry) (hy : F_laws_toEntry fu a_0 = some y) : Good E Try.prog 44 [(.agg [(.int .i64 a_0.Term), (.int .i64 a_0.Client), (.int .i64 a_0.Seq), (.int .i64 a_0.Cmd.Kind), (.int .i64 a_0.Cmd.Expect), (.int .i64 a_0.Cmd.Name), (.int .i64 a_0.Cmd.Addr), (.int .i64 a_0.Cmd.Number), (.int .i64 a_0.Cmd.Proto)])] (enc_impl_Entry y) :=
  fun_good E_ok (pc_good (pc := pc_laws_toEntry fu) (hpc_laws_toEntry fu) (hpx_laws_toEntry fu)) (fn := Try.f44) (c := body_laws_toEntry) (out := out_impl_Entry) (y := y) (by kernel_rfl) (by kernel_rfl) (by kernel_rfl) (lpok_laws_toEntry fu) (fun d hd => out_impl_Entry_enc d _ hd) ((ev_laws_toEntry fu a_0).trans hy)
theorem good_laws_toEntry (fu : Nat) : ∀ xs o, S_laws_toEntry fu xs = some o → ∀ y, o.x = some y → Good E Try.prog 44 xs (o.g y) := by
  intro xs o h y hy
  unfold S_laws_toEntry at h
  split at h
  · rename_i a0_1 a0_2 a0_3 a0_5 a0_6 a0_7 a0_8 a0_9 a0_10
    cases h
    exact goodv_laws_toEntry fu (⟨a0_1, a0_2, a0_3, (⟨a0_5, a0_6, a0_7, a0_8, a0_9, a0_10⟩ : S_impl_Cmd)⟩ : S_laws_Entry) y hy
  · cases h

/-! laws.toEntryS -/
def F_laws_toEntryS_H_B0 {ρ : Type} (fu : Nat) (a0_0 : (Sl S_laws_Entry)) (out3_1 : Nat) (on0_3 : Nat) (k0 : (Nat → S_impl_Entry) → Option ρ) (i4_2 : Int) (of0_4 : (Nat → S_impl_Entry)) (go : Int → (Nat → S_impl_Entry) → Option ρ) : Option ρ :=
  (bif (decide (i4_2 < ((a0_0.n : Nat) : Int))) then ((bif (decide (0 ≤ i4_2) && decide ((Int.toNat i4_2) < a0_0.n)) then some () else none : Option Unit).bind fun _ =>
    ((F_laws_toEntry fu (a0_0.f (Int.toNat i4_2))).bind fun y3 => ((bif (decide (0 ≤ i4_2) && decide ((Int.toNat i4_2) < out3_1)) then some () else none : Option Unit).bind fun _ =>
    (go (IntKind.wrap .i64 (i4_2 + 1)) (fun j => if j = (Int.toNat i4_2) then y3 else of0_4 j))))) else (k0 of0_4))
def F_laws_toEntryS_H (fu : Nat) (a_0 : (Sl S_laws_Entry)) : Option ((Sl S_impl_Entry)) :=
  (bif (decide (0 ≤ ((a_0.n : Nat) : Int)) && (decide (((a_0.n : Nat) : Int) = ((a_0.n : Nat) : Int)) && (decide ((72 : Int) * ((a_0.n : Nat) : Int) ≤ 281474976710656) && decide (((a_0.n : Nat) : Int) ≤ 9223372036854775807)))) then
    (L (fun w0 go0 => F_laws_toEntryS_H_B0 fu a_0 (Int.toNat ((a_0.n : Nat) : Int)) (Int.toNat ((a_0.n : Nat) : Int)) (fun z4 => (some (⟨none, (Int.toNat ((a_0.n : Nat) : Int)), z4⟩ : (Sl S_impl_Entry)))) w0.1 w0.2 (fun q0 q1 =>
    go0 (q0, q1))) fu ((0, (fun _ => (⟨0, 0, 0, (⟨0, 0, 0, 0, 0, 0⟩ : S_impl_Cmd)⟩ : S_impl_Entry))) : Int × (Nat → S_impl_Entry))) else none)
def pcf_laws_toEntryS_H (fu : Nat) (f : Nat) (xs : List (D RT den)) : Option (Out RT den) := match f with | 44 => S_laws_toEntry fu xs | _ => none
def pcx_laws_toEntryS_H (fu : Nat) (f : Nat) (xs : List (D RT den)) (ins : List (Ob RT den)) : Option (OutX RT den) := none
def pc_laws_toEntryS_H (fu : Nat) : Pc RT den := ⟨pcf_laws_toEntryS_H fu, fun _ => false, fun _ => false, pcx_laws_toEntryS_H fu⟩
def msk_laws_toEntryS_H (b : Nat) : List Nat := match b with | 0 => [1, 2, 5, 6, 7, 8, 9, 10, 11, 12, 13, 14, 15, 16, 17, 18, 19, 20, 21, 22] | 100000 => [0, 1, 4, 5, 6, 7, 8, 9, 10, 11, 12, 13, 14, 15, 16, 17, 18, 19, 20, 21, 22] | _ => []
def ps_laws_toEntryS_H_0 : List (Pat RT) := [.flat (.rs .laws_Entry), .flat .dead, .flat .dead, .flat (.os 0), .flat (.int .i64), .flat .dead, .flat .dead, .flat .dead, .flat .dead, .flat .dead, .flat .dead, .flat .dead, .flat .dead, .flat .dead, .flat .dead, .flat .dead, .flat .dead, .flat .dead, .flat .dead, .flat .dead, .flat .dead, .flat .dead, .flat .dead]
def os_laws_toEntryS_H_0 : List (OP RT) := [.row false .impl_Entry]
def conv_laws_toEntryS_H_0 (r : Raw den ps_laws_toEntryS_H_0 os_laws_toEntryS_H_0) : ((Sl S_laws_Entry) × Nat × Nat) × (Int × (Nat → S_impl_Entry)) := ((r.1.1, r.1.2.2.2.1, r.2.1.1), (r.1.2.2.2.2.1, r.2.1.2))
def back_laws_toEntryS_H_0 (c : (Sl S_laws_Entry) × Nat × Nat) (w : Int × (Nat → S_impl_Entry)) : St RT den := ⟨[(.rs c.1.z .laws_Entry c.1.n c.1.f), .dead, .dead, (.os 0 c.2.1), (.int .i64 w.1), .dead, .dead, .dead, .dead, .dead, .dead, .dead, .dead, .dead, .dead, .dead, .dead, .dead, .dead, .dead, .dead, .dead, .dead], [(.row false .impl_Entry c.2.2 w.2)]⟩
def Bk_laws_toEntryS_H_0 {ρ : Type} (fu : Nat) (c : (Sl S_laws_Entry) × Nat × Nat) (k : Ex → St RT den → Option ρ) (w : Int × (Nat → S_impl_Entry)) (go : (Int × (Nat → S_impl_Entry)) → Option ρ) : Option ρ := F_laws_toEntryS_H_B0 fu c.1 c.2.1 c.2.2 (fun a0 => k (.exit 0) ⟨[.dead, .dead, .dead, (.os 0 c.2.1), .dead, .dead, .dead, .dead, .dead, .dead, .dead, .dead, .dead, .dead, .dead, .dead, .dead, .dead, .dead, .dead, .dead, .dead, .dead], [(.row false .impl_Entry c.2.2 a0)]⟩) w.1 w.2 (fun q0 q1 => go (q0, q1))
def lp_laws_toEntryS_H (fu : Nat) : Lp RT den ((Sl S_impl_Entry)) := fun b s k => match b with | 0 => handle ps_laws_toEntryS_H_0 os_laws_toEntryS_H_0 conv_laws_toEntryS_H_0 (Bk_laws_toEntryS_H_0 fu) fu s k | _ => none
theorem ev_laws_toEntryS_H (fu : Nat) (a_0 : (Sl S_laws_Entry)) : evFunX E (pc_laws_toEntryS_H fu) msk_laws_toEntryS_H (lp_laws_toEntryS_H fu) out_sl_impl_Entry_H 10 [(.rs a_0.z .laws_Entry a_0.n a_0.f)] [] = F_laws_toEntryS_H fu a_0 := by kernel_rfl
noncomputable def body_laws_toEntryS_H : Code := Try.f10.body.getD .skip
noncomputable def lc_laws_toEntryS_H_0 : Code := ((loops 0 body_laws_toEntryS_H).getD 0 (0, .skip)).2
theorem round_laws_toEntryS_H_0 (fu : Nat) (it : St RT den → Option ((Sl S_impl_Entry))) (k : Ex → St RT den → Option ((Sl S_impl_Entry))) c w : evCode E (pc_laws_toEntryS_H fu) msk_laws_toEntryS_H (lp_laws_toEntryS_H fu) 0 lc_laws_toEntryS_H_0 (back_laws_toEntryS_H_0 c w) (after (msk_laws_toEntryS_H 0) (msk_laws_toEntryS_H 100000) 1 it k) = Bk_laws_toEntryS_H_0 fu c k w (fun w => it (back_laws_toEntryS_H_0 c w)) := by kernel_rfl
theorem lpok_laws_toEntryS_H_0 (fu : Nat) : ∀ s k r, lp_laws_toEntryS_H fu 0 s k = some r → ∃ fuel, iter (msk_laws_toEntryS_H 0) (msk_laws_toEntryS_H 100000) s.objs.length (evCode E (pc_laws_toEntryS_H fu) msk_laws_toEntryS_H (lp_laws_toEntryS_H fu) 0 lc_laws_toEntryS_H_0) fuel s k = some r :=
  handle_ok (ps := ps_laws_toEntryS_H_0) (os := os_laws_toEntryS_H_0) (conv := conv_laws_toEntryS_H_0) (B := Bk_laws_toEntryS_H_0 fu) (fu := fu) back_laws_toEntryS_H_0 (fun raw => by kernel_rfl) 1 (fun c w => by kernel_rfl) (round_laws_toEntryS_H_0 fu)
theorem lpok_laws_toEntryS_H (fu : Nat) : LpOk E (pc_laws_toEntryS_H fu) msk_laws_toEntryS_H (lp_laws_toEntryS_H fu) (loops 0 body_laws_toEntryS_H) := loop_all 1 (by kernel_rfl) fun i hi => match i, hi with
  | 0, _ => by
    have h : (loops 0 body_laws_toEntryS_H).getD 0 (0, .skip) = (0, lc_laws_toEntryS_H_0) := by kernel_rfl
    rw [h]; exact lpok_laws_toEntryS_H_0 fu
  | i + 1, hi => absurd hi (by omega)
def S_laws_toEntryS_H (fu : Nat) (xs : List (D RT den)) (ins : List (Ob RT den)) : Option (OutX RT den) := match xs, ins with | [.rs za0_0 .laws_Entry na0_0 fa0_0], [] => some ⟨(Sl S_impl_Entry), F_laws_toEntryS_H fu (⟨za0_0, na0_0, fa0_0⟩ : (Sl S_laws_Entry)), enc_sl_impl_Entry_H⟩ | _, _ => none
theorem hpc_laws_toEntryS_H (fu : Nat) : ∀ f xs o, pcf_laws_toEntryS_H fu f xs = some o → ∀ y, o.x = some y → Good E Try.prog f xs (o.g y) := by
  intro f xs o h
  unfold pcf_laws_toEntryS_H at h
  split at h
  · exact good_laws_toEntry fu xs o h
  · cases h
theorem hpx_laws_toEntryS_H (fu : Nat) : ∀ f xs ins o, pcx_laws_toEntryS_H fu f xs ins = some o → ∀ y, o.x = some y → GoodX E Try.prog f xs ins (o.g y).1 (o.g y).2 := by
  intro f xs ins o h
  cases h
theorem goodv_laws_toEntryS_H (fu : Nat) (a_0 : (Sl S_laws_Entry)) (y : (Sl S_impl_Entry)) (hy : F_laws_toEntryS_H fu a_0 = some y) : GoodX E Try.prog 10 [(.rs a_0.z .laws_Entry a_0.n a_0.f)] [] (enc_sl_impl_Entry_H y).1 (enc_sl_impl_Entry_H y).2 :=
  funX_good E_ok (pc_good (pc := pc_laws_toEntryS_H fu) (hpc_laws_toEntryS_H fu) (hpx_laws_toEntryS_H fu)) (fn := Try.f10) (c := body_laws_toEntryS_H) (out := out_sl_impl_Entry_H) (y := y) (by kernel_rfl) (by kernel_rfl) (by kernel_rfl) (lpok_laws_toEntryS_H fu) (by kernel_rfl) (Nat.zero_le _) (fun d os hd => out_sl_impl_Entry_H_enc d os _ hd) ((ev_laws_toEntryS_H fu a_0).trans hy)
theorem good_laws_toEntryS_H (fu : Nat) : ∀ xs ins o, S_laws_toEntryS_H fu xs ins = some o → ∀ y, o.x = some y → GoodX E Try.prog 10 xs ins (o.g y).1 (o.g y).2 := by
  intro xs ins o h y hy
  unfold S_laws_toEntryS_H at h
  split at h
  · rename_i za0_0 na0_0 fa0_0
    cases h
    exact goodv_laws_toEntryS_H fu (⟨za0_0, na0_0, fa0_0⟩ : (Sl S_laws_Entry)) y hy
  · cases h

/-! spec.l7Copy -/
def F_spec_l7Copy_H (fu : Nat) (log_0 : (Sl S_impl_Entry)) : Option ((Sl S_impl_Entry)) :=
  (bif (decide (log_0.n ≤ 9223372036854775807) && decide (log_0.n * 72 ≤ 140737488355328)) then (some (⟨none, log_0.n, log_0.f⟩ : (Sl S_impl_Entry))) else none)
def pcf_spec_l7Copy_H (fu : Nat) (f : Nat) (xs : List (D RT den)) : Option (Out RT den) := none
def pcx_spec_l7Copy_H (fu : Nat) (f : Nat) (xs : List (D RT den)) (ins : List (Ob RT den)) : Option (OutX RT den) := none
def pc_spec_l7Copy_H (fu : Nat) : Pc RT den := ⟨pcf_spec_l7Copy_H fu, fun _ => false, fun _ => false, pcx_spec_l7Copy_H fu⟩
def msk_spec_l7Copy_H (b : Nat) : List Nat := []
def lp_spec_l7Copy_H (fu : Nat) : Lp RT den ((Sl S_impl_Entry)) := fun b s k => none
theorem ev_spec_l7Copy_H (fu : Nat) (log_0 : (Sl S_impl_Entry)) : evFunX E (pc_spec_l7Copy_H fu) msk_spec_l7Copy_H (lp_spec_l7Copy_H fu) out_sl_impl_Entry_H 54 [(.rs log_0.z .impl_Entry log_0.n log_0.f)] [] = F_spec_l7Copy_H fu log_0 := by kernel_rfl
noncomputable def body_spec_l7Copy_H : Code := Try.f54.body.getD .skip
theorem lpok_spec_l7Copy_H (fu : Nat) : LpOk E (pc_spec_l7Copy_H fu) msk_spec_l7Copy_H (lp_spec_l7Copy_H fu) (loops 0 body_spec_l7Copy_H) := by
  have h : loops 0 body_spec_l7Copy_H = [] := by kernel_rfl
  rw [h]; intro p hp; cases hp
def S_spec_l7Copy_H (fu : Nat) (xs : List (D RT den)) (ins : List (Ob RT den)) : Option (OutX RT den) := match xs, ins with | [.rs za0_0 .impl_Entry na0_0 fa0_0], [] => some ⟨(Sl S_impl_Entry), F_spec_l7Copy_H fu (⟨za0_0, na0_0, fa0_0⟩ : (Sl S_impl_Entry)), enc_sl_impl_Entry_H⟩ | _, _ => none
theorem hpc_spec_l7Copy_H (fu : Nat) : ∀ f xs o, pcf_spec_l7Copy_H fu f xs = some o → ∀ y, o.x = some y → Good E Try.prog f xs (o.g y) := by
  intro f xs o h
  cases h
theorem hpx_spec_l7Copy_H (fu : Nat) : ∀ f xs ins o, pcx_spec_l7Copy_H fu f xs ins = some o → ∀ y, o.x = some y → GoodX E Try.prog f xs ins (o.g y).1 (o.g y).2 := by
  intro f xs ins o h
  cases h
theorem goodv_spec_l7Copy_H (fu : Nat) (log_0 : (Sl S_impl_Entry)) (y : (Sl S_impl_Entry)) (hy : F_spec_l7Copy_H fu log_0 = some y) : GoodX E Try.prog 54 [(.rs log_0.z .impl_Entry log_0.n log_0.f)] [] (enc_sl_impl_Entry_H y).1 (enc_sl_impl_Entry_H y).2 :=
  funX_good E_ok (pc_good (pc := pc_spec_l7Copy_H fu) (hpc_spec_l7Copy_H fu) (hpx_spec_l7Copy_H fu)) (fn := Try.f54) (c := body_spec_l7Copy_H) (out := out_sl_impl_Entry_H) (y := y) (by kernel_rfl) (by kernel_rfl) (by kernel_rfl) (lpok_spec_l7Copy_H fu) (by kernel_rfl) (Nat.zero_le _) (fun d os hd => out_sl_impl_Entry_H_enc d os _ hd) ((ev_spec_l7Copy_H fu log_0).trans hy)
theorem good_spec_l7Copy_H (fu : Nat) : ∀ xs ins o, S_spec_l7Copy_H fu xs ins = some o → ∀ y, o.x = some y → GoodX E Try.prog 54 xs ins (o.g y).1 (o.g y).2 := by
  intro xs ins o h y hy
  unfold S_spec_l7Copy_H at h
  split at h
  · rename_i za0_0 na0_0 fa0_0
    cases h
    exact goodv_spec_l7Copy_H fu (⟨za0_0, na0_0, fa0_0⟩ : (Sl S_impl_Entry)) y hy
  · cases h

/-! spec.l7Take -/
def F_spec_l7Take_H_B0 {ρ : Type} (fu : Nat) (log0_0 : (Sl S_impl_Entry)) (index1_1 : Int) (more2_2 : (Sl S_impl_Entry)) (k0 : Nat → Nat → (Nat → S_impl_Entry) → Option ρ) (k1 : Option ρ) (k7_3 : Int) (go : Int → Option ρ) : Option ρ :=
  (bif (decide (k7_3 < ((more2_2.n : Nat) : Int))) then (((bif (decide ((IntKind.wrap .i64 (index1_1 + k7_3)) ≥ ((log0_0.n : Nat) : Int))) then (some true) else ((bif (decide (0 ≤ (IntKind.wrap .i64 (index1_1 + k7_3))) &&
    decide ((Int.toNat (IntKind.wrap .i64 (index1_1 + k7_3))) < log0_0.n)) then some () else none : Option Unit).bind fun _ => ((bif (decide (0 ≤ k7_3) && decide ((Int.toNat k7_3) < more2_2.n)) then
    some () else none : Option Unit).bind fun _ => (some ((log0_0.f (Int.toNat (IntKind.wrap .i64 (index1_1 + k7_3)))).Term != (more2_2.f (Int.toNat k7_3)).Term))))) : Option Bool).bind fun m12 =>
    (bif m12 then ((bif (decide ((0 : Int) ≤ (IntKind.wrap .i64 (index1_1 + k7_3))) && decide ((Int.toNat (IntKind.wrap .i64 (index1_1 + k7_3))) ≤ log0_0.n)) then some () else none : Option Unit).bind fun _ =>
    ((F_spec_l7Copy_H fu (⟨log0_0.z, ((Int.toNat (IntKind.wrap .i64 (index1_1 + k7_3))) - 0), (fun i => log0_0.f (0 + i))⟩ : (Sl S_impl_Entry))).bind fun y13 => ((bif (decide (0 ≤ k7_3) &&
    (decide (k7_3 ≤ ((more2_2.n : Nat) : Int)) && decide (more2_2.n ≤ more2_2.n))) then some () else none : Option Unit).bind fun _ => (bif (decide ((y13.n + (more2_2.n - (Int.toNat k7_3))) ≤ 9223372036854775807) &&
    decide ((y13.n + (more2_2.n - (Int.toNat k7_3))) * 72 ≤ 140737488355328)) then (k0 (y13.n + (more2_2.n - (Int.toNat k7_3))) (y13.n + (more2_2.n - (Int.toNat k7_3))) (fun i => if i < y13.n then
    (y13.f i) else ((fun i => more2_2.f ((Int.toNat k7_3) + i)) (i - y13.n)))) else none)))) else (go (IntKind.wrap .i64 (k7_3 + 1))))) else k1)
def F_spec_l7Take_H (fu : Nat) (log_0 : (Sl S_impl_Entry)) (index_1 : Int) (more_2 : (Sl S_impl_Entry)) : Option ((Sl S_impl_Entry)) :=
  (L (fun w0 go0 => F_spec_l7Take_H_B0 fu log_0 index_1 more_2 (fun z14 z15 z16 => (some (⟨none, z14, z16⟩ : (Sl S_impl_Entry)))) ((F_spec_l7Copy_H fu log_0).bind fun y17 => (some (⟨none,
    y17.n, y17.f⟩ : (Sl S_impl_Entry)))) w0 go0) fu (0 : Int))
def pcf_spec_l7Take_H (fu : Nat) (f : Nat) (xs : List (D RT den)) : Option (Out RT den) := none
def pcx_spec_l7Take_H (fu : Nat) (f : Nat) (xs : List (D RT den)) (ins : List (Ob RT den)) : Option (OutX RT den) := match f with | 54 => S_spec_l7Copy_H fu xs ins | _ => none
def pc_spec_l7Take_H (fu : Nat) : Pc RT den := ⟨pcf_spec_l7Take_H fu, fun f => match f with | 54 => true | _ => false, fun _ => false, pcx_spec_l7Take_H fu⟩
def msk_spec_l7Take_H (b : Nat) : List Nat := match b with | 0 => [3, 4, 5, 6, 8, 9, 10, 11, 12, 13, 14, 15, 16, 17, 18, 19, 20, 21, 22, 23, 24, 25, 26, 27, 28, 29, 30, 31, 32, 33, 34, 35, 36, 37, 38, 39, 40, 41, 42, 43, 44] | 100000 => [1, 2, 3, 4, 5, 7, 8, 9, 10, 11, 12, 13, 14, 15, 16, 17, 18, 19, 20, 21, 22, 23, 24, 25, 26, 27, 28, 29, 30, 31, 32, 33, 34, 35, 36, 37, 38, 39, 40, 41, 42, 43, 44] | 200005 => [34] | 300000 => [6] | _ => []
def ps_spec_l7Take_H_0 : List (Pat RT) := [.flat (.rs .impl_Entry), .flat (.int .i64), .flat (.rs .impl_Entry), .flat .dead, .flat .dead, .flat .dead, .flat .dead, .flat (.int .i64), .flat .dead, .flat .dead, .flat .dead, .flat .dead, .flat .dead, .flat .dead, .flat .dead, .flat .dead, .flat .dead, .flat .dead, .flat .dead, .flat .dead, .flat .dead, .flat .dead, .flat .dead, .flat .dead, .flat .dead, .flat .dead, .flat .dead, .flat .dead, .flat .dead, .flat .dead, .flat .dead, .flat .dead, .flat .dead, .flat .dead, .flat .dead, .flat .dead, .flat .dead, .flat .dead, .flat .dead, .flat .dead, .flat .dead, .flat .dead, .flat .dead, .flat .dead, .flat .dead]
def os_spec_l7Take_H_0 : List (OP RT) := []
def conv_spec_l7Take_H_0 (r : Raw den ps_spec_l7Take_H_0 os_spec_l7Take_H_0) : ((Sl S_impl_Entry) × Int × (Sl S_impl_Entry)) × (Int) := ((r.1.1, r.1.2.1, r.1.2.2.1), r.1.2.2.2.2.2.2.2.1)
def back_spec_l7Take_H_0 (c : (Sl S_impl_Entry) × Int × (Sl S_impl_Entry)) (w : Int) : St RT den := ⟨[(.rs c.1.z .impl_Entry c.1.n c.1.f), (.int .i64 c.2.1), (.rs c.2.2.z .impl_Entry c.2.2.n c.2.2.f), .dead, .dead, .dead, .dead, (.int .i64 w), .dead, .dead, .dead, .dead, .dead, .dead, .dead, .dead, .dead, .dead, .dead, .dead, .dead, .dead, .dead, .dead, .dead, .dead, .dead, .dead, .dead, .dead, .dead, .dead, .dead, .dead, .dead, .dead, .dead, .dead, .dead, .dead, .dead, .dead, .dead, .dead, .dead], []⟩
def Bk_spec_l7Take_H_0 {ρ : Type} (fu : Nat) (c : (Sl S_impl_Entry) × Int × (Sl S_impl_Entry)) (k : Ex → St RT den → Option ρ) (w : Int) (go : (Int) → Option ρ) : Option ρ := F_spec_l7Take_H_B0 fu c.1 c.2.1 c.2.2 (fun a0 a1 a2 => k .ret ⟨[(.rs c.1.z .impl_Entry c.1.n c.1.f), .dead, .dead, .dead, .dead, .dead, (.os 0 a0), .dead, .dead, .dead, .dead, .dead, .dead, .dead, .dead, .dead, .dead, .dead, .dead, .dead, .dead, .dead, .dead, .dead, .dead, .dead, .dead, .dead, .dead, .dead, .dead, .dead, .dead, .dead, .dead, .dead, .dead, .dead, .dead, .dead, .dead, .dead, .dead, .dead, .dead], [(.row false .impl_Entry a1 a2)]⟩) (k (.exit 0) ⟨[(.rs c.1.z .impl_Entry c.1.n c.1.f), .dead, .dead, .dead, .dead, .dead, .dead, .dead, .dead, .dead, .dead, .dead, .dead, .dead, .dead, .dead, .dead, .dead, .dead, .dead, .dead, .dead, .dead, .dead, .dead, .dead, .dead, .dead, .dead, .dead, .dead, .dead, .dead, .dead, .dead, .dead, .dead, .dead, .dead, .dead, .dead, .dead, .dead, .dead, .dead], []⟩) w go
def lp_spec_l7Take_H (fu : Nat) : Lp RT den ((Sl S_impl_Entry)) := fun b s k => match b with | 0 => handle ps_spec_l7Take_H_0 os_spec_l7Take_H_0 conv_spec_l7Take_H_0 (Bk_spec_l7Take_H_0 fu) fu s k | _ => none
theorem ev_spec_l7Take_H (fu : Nat) (log_0 : (Sl S_impl_Entry)) (index_1 : Int) (more_2 : (Sl S_impl_Entry)) : evFunX E (pc_spec_l7Take_H fu) msk_spec_l7Take_H (lp_spec_l7Take_H fu) out_sl_impl_Entry_H 43 [(.rs log_0.z .impl_Entry log_0.n log_0.f), (.int .i64 index_1), (.rs more_2.z .impl_Entry more_2.n more_2.f)] [] = F_spec_l7Take_H fu log_0 index_1 more_2 := by kernel_rfl
noncomputable def body_spec_l7Take_H : Code := Try.f43.body.getD .skip
noncomputable def lc_spec_l7Take_H_0 : Code := ((loops 0 body_spec_l7Take_H).getD 0 (0, .skip)).2
theorem round_spec_l7Take_H_0 (fu : Nat) (it : St RT den → Option ((Sl S_impl_Entry))) (k : Ex → St RT den → Option ((Sl S_impl_Entry))) c w : evCode E (pc_spec_l7Take_H fu) msk_spec_l7Take_H (lp_spec_l7Take_H fu) 0 lc_spec_l7Take_H_0 (back_spec_l7Take_H_0 c w) (after (msk_spec_l7Take_H 0) (msk_spec_l7Take_H 100000) 0 it k) = Bk_spec_l7Take_H_0 fu c k w (fun w => it (back_spec_l7Take_H_0 c w)) := by kernel_rfl
theorem lpok_spec_l7Take_H_0 (fu : Nat) : ∀ s k r, lp_spec_l7Take_H fu 0 s k = some r → ∃ fuel, iter (msk_spec_l7Take_H 0) (msk_spec_l7Take_H 100000) s.objs.length (evCode E (pc_spec_l7Take_H fu) msk_spec_l7Take_H (lp_spec_l7Take_H fu) 0 lc_spec_l7Take_H_0) fuel s k = some r :=
  handle_ok (ps := ps_spec_l7Take_H_0) (os := os_spec_l7Take_H_0) (conv := conv_spec_l7Take_H_0) (B := Bk_spec_l7Take_H_0 fu) (fu := fu) back_spec_l7Take_H_0 (fun raw => by kernel_rfl) 0 (fun c w => by kernel_rfl) (round_spec_l7Take_H_0 fu)
theorem lpok_spec_l7Take_H (fu : Nat) : LpOk E (pc_spec_l7Take_H fu) msk_spec_l7Take_H (lp_spec_l7Take_H fu) (loops 0 body_spec_l7Take_H) := loop_all 1 (by kernel_rfl) fun i hi => match i, hi with
  | 0, _ => by
    have h : (loops 0 body_spec_l7Take_H).getD 0 (0, .skip) = (0, lc_spec_l7Take_H_0) := by kernel_rfl
    rw [h]; exact lpok_spec_l7Take_H_0 fu
  | i + 1, hi => absurd hi (by omega)
def S_spec_l7Take_H (fu : Nat) (xs : List (D RT den)) (ins : List (Ob RT den)) : Option (OutX RT den) := match xs, ins with | [.rs za0_0 .impl_Entry na0_0 fa0_0, .int .i64 a1_0, .rs za2_0 .impl_Entry na2_0 fa2_0], [] => some ⟨(Sl S_impl_Entry), F_spec_l7Take_H fu (⟨za0_0, na0_0, fa0_0⟩ : (Sl S_impl_Entry)) a1_0 (⟨za2_0, na2_0, fa2_0⟩ : (Sl S_impl_Entry)), enc_sl_impl_Entry_H⟩ | _, _ => none
theorem hpc_spec_l7Take_H (fu : Nat) : ∀ f xs o, pcf_spec_l7Take_H fu f xs = some o → ∀ y, o.x = some y → Good E Try.prog f xs (o.g y) := by
  intro f xs o h
  cases h
theorem hpx_spec_l7Take_H (fu : Nat) : ∀ f xs ins o, pcx_spec_l7Take_H fu f xs ins = some o → ∀ y, o.x = some y → GoodX E Try.prog f xs ins (o.g y).1 (o.g y).2 := by
  intro f xs ins o h
  unfold pcx_spec_l7Take_H at h
  split at h
  · exact good_spec_l7Copy_H fu xs ins o h
  · cases h
theorem goodv_spec_l7Take_H (fu : Nat) (log_0 : (Sl S_impl_Entry)) (index_1 : Int) (more_2 : (Sl S_impl_Entry)) (y : (Sl S_impl_Entry)) (hy : F_spec_l7Take_H fu log_0 index_1 more_2 = some y) : GoodX E Try.prog 43 [(.rs log_0.z .impl_Entry log_0.n log_0.f), (.int .i64 index_1), (.rs more_2.z .impl_Entry more_2.n more_2.f)] [] (enc_sl_impl_Entry_H y).1 (enc_sl_impl_Entry_H y).2 :=
  funX_good E_ok (pc_good (pc := pc_spec_l7Take_H fu) (hpc_spec_l7Take_H fu) (hpx_spec_l7Take_H fu)) (fn := Try.f43) (c := body_spec_l7Take_H) (out := out_sl_impl_Entry_H) (y := y) (by kernel_rfl) (by kernel_rfl) (by kernel_rfl) (lpok_spec_l7Take_H fu) (by kernel_rfl) (Nat.zero_le _) (fun d os hd => out_sl_impl_Entry_H_enc d os _ hd) ((ev_spec_l7Take_H fu log_0 index_1 more_2).trans hy)
theorem good_spec_l7Take_H (fu : Nat) : ∀ xs ins o, S_spec_l7Take_H fu xs ins = some o → ∀ y, o.x = some y → GoodX E Try.prog 43 xs ins (o.g y).1 (o.g y).2 := by
  intro xs ins o h y hy
  unfold S_spec_l7Take_H at h
  split at h
  · rename_i za0_0 na0_0 fa0_0 a1_0 za2_0 na2_0 fa2_0
    cases h
    exact goodv_spec_l7Take_H fu (⟨za0_0, na0_0, fa0_0⟩ : (Sl S_impl_Entry)) a1_0 (⟨za2_0, na2_0, fa2_0⟩ : (Sl S_impl_Entry)) y hy
  · cases h

/-! spec.l1In -/
def F_spec_l1In (fu : Nat) (v_0 : Int) (low_1 : Int) (high_2 : Int) : Option (Bool) :=
  (((bif (decide (v_0 ≥ low_1)) then (some (decide (v_0 ≤ high_2))) else (some false)) : Option Bool).bind fun m27 => (some m27))
def pcf_spec_l1In (fu : Nat) (f : Nat) (xs : List (D RT den)) : Option (Out RT den) := none
def pcx_spec_l1In (fu : Nat) (f : Nat) (xs : List (D RT den)) (ins : List (Ob RT den)) : Option (OutX RT den) := none
def pc_spec_l1In (fu : Nat) : Pc RT den := ⟨pcf_spec_l1In fu, fun _ => false, fun _ => false, pcx_spec_l1In fu⟩
def msk_spec_l1In (b : Nat) : List Nat := match b with | 200001 => [6] | _ => []
def lp_spec_l1In (fu : Nat) : Lp RT den (Bool) := fun b s k => none
theorem ev_spec_l1In (fu : Nat) (v_0 : Int) (low_1 : Int) (high_2 : Int) : evFun E (pc_spec_l1In fu) msk_spec_l1In (lp_spec_l1In fu) out_bo 53 [(.int .i64 v_0), (.int .i64 low_1), (.int .i64 high_2)] = F_spec_l1In fu v_0 low_1 high_2 := by kernel_rfl
noncomputable def body_spec_l1In : Code := Try.f53.body.getD .skip
theorem lpok_spec_l1In (fu : Nat) : LpOk E (pc_spec_l1In fu) msk_spec_l1In (lp_spec_l1In fu) (loops 0 body_spec_l1In) := by
  have h : loops 0 body_spec_l1In = [] := by kernel_rfl
  rw [h]; intro p hp; cases hp
def S_spec_l1In (fu : Nat) (xs : List (D RT den)) : Option (Out RT den) := match xs with | [.int .i64 a0_0, .int .i64 a1_0, .int .i64 a2_0] => some ⟨Bool, F_spec_l1In fu a0_0 a1_0 a2_0, enc_bo, fun _ => true⟩ | _ => none
theorem hpc_spec_l1In (fu : Nat) : ∀ f xs o, pcf_spec_l1In fu f xs = some o → ∀ y, o.x = some y → Good E Try.prog f xs (o.g y) := by
  intro f xs o h
  cases h
theorem hpx_spec_l1In (fu : Nat) : ∀ f xs ins o, pcx_spec_l1In fu f xs ins = some o → ∀ y, o.x = some y → GoodX E Try.prog f xs ins (o.g y).1 (o.g y).2 := by
  intro f xs ins o h
  cases h
theorem goodv_spec_l1In (fu : Nat) (v_0 : Int) (low_1 : Int) (high_2 : Int) (y : Bool) (hy : F_spec_l1In fu v_0 low_1 high_2 = some y) : Good E Try.prog 53 [(.int .i64 v_0), (.int .i64 low_1), (.int .i64 high_2)] (enc_bo y) :=
  fun_good E_ok (pc_good (pc := pc_spec_l1In fu) (hpc_spec_l1In fu) (hpx_spec_l1In fu)) (fn := Try.f53) (c := body_spec_l1In) (out := out_bo) (y := y) (by kernel_rfl) (by kernel_rfl) (by kernel_rfl) (lpok_spec_l1In fu) (fun d hd => out_bo_enc d _ hd) ((ev_spec_l1In fu v_0 low_1 high_2).trans hy)
theorem good_spec_l1In (fu : Nat) : ∀ xs o, S_spec_l1In fu xs = some o → ∀ y, o.x = some y → Good E Try.prog 53 xs (o.g y) := by
  intro xs o h y hy
  unfold S_spec_l1In at h
  split at h
  · rename_i a0_0 a1_0 a2_0
    cases h
    exact goodv_spec_l1In fu a0_0 a1_0 a2_0 y hy
  · cases h

/-! spec.l5Needs -/
def F_spec_l5Needs (fu : Nat) (kind_0 : Int) : Option (Bool × Bool × Bool × Bool) :=
  ((F_spec_l1In fu kind_0 5 8).bind fun y63 => (bif (kind_0 != 5) then (bif (kind_0 == 1) then (some ((kind_0 != 6), true, (kind_0 != 4), y63)) else (some ((kind_0 != 6), y63,
    (kind_0 != 4), y63))) else (bif (kind_0 == 1) then (some (false, true, (kind_0 != 4), y63)) else (some (false, y63, (kind_0 != 4), y63)))))
def pcf_spec_l5Needs (fu : Nat) (f : Nat) (xs : List (D RT den)) : Option (Out RT den) := match f with | 53 => S_spec_l1In fu xs | _ => none
def pcx_spec_l5Needs (fu : Nat) (f : Nat) (xs : List (D RT den)) (ins : List (Ob RT den)) : Option (OutX RT den) := none
def pc_spec_l5Needs (fu : Nat) : Pc RT den := ⟨pcf_spec_l5Needs fu, fun _ => false, fun _ => false, pcx_spec_l5Needs fu⟩
def msk_spec_l5Needs (b : Nat) : List Nat := []
def lp_spec_l5Needs (fu : Nat) : Lp RT den (Bool × Bool × Bool × Bool) := fun b s k => none
theorem ev_spec_l5Needs (fu : Nat) (kind_0 : Int) : evFun E (pc_spec_l5Needs fu) msk_spec_l5Needs (lp_spec_l5Needs fu) out_bo_bo_bo_bo 107 [(.int .i64 kind_0)] = F_spec_l5Needs fu kind_0 := by kernel_rfl
noncomputable def body_spec_l5Needs : Code := Try.f107.body.getD .skip
theorem lpok_spec_l5Needs (fu : Nat) : LpOk E (pc_spec_l5Needs fu) msk_spec_l5Needs (lp_spec_l5Needs fu) (loops 0 body_spec_l5Needs) := by
  have h : loops 0 body_spec_l5Needs = [] := by kernel_rfl
  rw [h]; intro p hp; cases hp
def S_spec_l5Needs (fu : Nat) (xs : List (D RT den)) : Option (Out RT den) := match xs with | [.int .i64 a0_0] => some ⟨Bool × Bool × Bool × Bool, F_spec_l5Needs fu a0_0, enc_bo_bo_bo_bo, fun _ => true⟩ | _ => none
theorem hpc_spec_l5Needs (fu : Nat) : ∀ f xs o, pcf_spec_l5Needs fu f xs = some o → ∀ y, o.x = some y → Good E Try.prog f xs (o.g y) := by
  intro f xs o h
  unfold pcf_spec_l5Needs at h
  split at h
  · exact good_spec_l1In fu xs o h
  · cases h
theorem hpx_spec_l5Needs (fu : Nat) : ∀ f xs ins o, pcx_spec_l5Needs fu f xs ins = some o → ∀ y, o.x = some y → GoodX E Try.prog f xs ins (o.g y).1 (o.g y).2 := by
  intro f xs ins o h
  cases h
theorem goodv_spec_l5Needs (fu : Nat) (kind_0 : Int) (y : Bool × Bool × Bool × Bool) (hy : F_spec_l5Needs fu kind_0 = some y) : Good E Try.prog 107 [(.int .i64 kind_0)] (enc_bo_bo_bo_bo y) :=
  fun_good E_ok (pc_good (pc := pc_spec_l5Needs fu) (hpc_spec_l5Needs fu) (hpx_spec_l5Needs fu)) (fn := Try.f107) (c := body_spec_l5Needs) (out := out_bo_bo_bo_bo) (y := y) (by kernel_rfl) (by kernel_rfl) (by kernel_rfl) (lpok_spec_l5Needs fu) (fun d hd => out_bo_bo_bo_bo_enc d _ hd) ((ev_spec_l5Needs fu kind_0).trans hy)
theorem good_spec_l5Needs (fu : Nat) : ∀ xs o, S_spec_l5Needs fu xs = some o → ∀ y, o.x = some y → Good E Try.prog 107 xs (o.g y) := by
  intro xs o h y hy
  unfold S_spec_l5Needs at h
  split at h
  · rename_i a0_0
    cases h
    exact goodv_spec_l5Needs fu a0_0 y hy
  · cases h

/-! spec.l5Version -/
def F_spec_l5Version (fu : Nat) (v_0 : Int) : Option (Bool) :=
  ((F_spec_l1In fu v_0 0 1000000).bind fun y64 => (some y64))
def pcf_spec_l5Version (fu : Nat) (f : Nat) (xs : List (D RT den)) : Option (Out RT den) := match f with | 53 => S_spec_l1In fu xs | _ => none
def pcx_spec_l5Version (fu : Nat) (f : Nat) (xs : List (D RT den)) (ins : List (Ob RT den)) : Option (OutX RT den) := none
def pc_spec_l5Version (fu : Nat) : Pc RT den := ⟨pcf_spec_l5Version fu, fun _ => false, fun _ => false, pcx_spec_l5Version fu⟩
def msk_spec_l5Version (b : Nat) : List Nat := []
def lp_spec_l5Version (fu : Nat) : Lp RT den (Bool) := fun b s k => none
theorem ev_spec_l5Version (fu : Nat) (v_0 : Int) : evFun E (pc_spec_l5Version fu) msk_spec_l5Version (lp_spec_l5Version fu) out_bo 117 [(.int .i64 v_0)] = F_spec_l5Version fu v_0 := by kernel_rfl
noncomputable def body_spec_l5Version : Code := Try.f117.body.getD .skip
theorem lpok_spec_l5Version (fu : Nat) : LpOk E (pc_spec_l5Version fu) msk_spec_l5Version (lp_spec_l5Version fu) (loops 0 body_spec_l5Version) := by
  have h : loops 0 body_spec_l5Version = [] := by kernel_rfl
  rw [h]; intro p hp; cases hp
def S_spec_l5Version (fu : Nat) (xs : List (D RT den)) : Option (Out RT den) := match xs with | [.int .i64 a0_0] => some ⟨Bool, F_spec_l5Version fu a0_0, enc_bo, fun _ => true⟩ | _ => none
theorem hpc_spec_l5Version (fu : Nat) : ∀ f xs o, pcf_spec_l5Version fu f xs = some o → ∀ y, o.x = some y → Good E Try.prog f xs (o.g y) := by
  intro f xs o h
  unfold pcf_spec_l5Version at h
  split at h
  · exact good_spec_l1In fu xs o h
  · cases h
theorem hpx_spec_l5Version (fu : Nat) : ∀ f xs ins o, pcx_spec_l5Version fu f xs ins = some o → ∀ y, o.x = some y → GoodX E Try.prog f xs ins (o.g y).1 (o.g y).2 := by
  intro f xs ins o h
  cases h
theorem goodv_spec_l5Version (fu : Nat) (v_0 : Int) (y : Bool) (hy : F_spec_l5Version fu v_0 = some y) : Good E Try.prog 117 [(.int .i64 v_0)] (enc_bo y) :=
  fun_good E_ok (pc_good (pc := pc_spec_l5Version fu) (hpc_spec_l5Version fu) (hpx_spec_l5Version fu)) (fn := Try.f117) (c := body_spec_l5Version) (out := out_bo) (y := y) (by kernel_rfl) (by kernel_rfl) (by kernel_rfl) (lpok_spec_l5Version fu) (fun d hd => out_bo_enc d _ hd) ((ev_spec_l5Version fu v_0).trans hy)
theorem good_spec_l5Version (fu : Nat) : ∀ xs o, S_spec_l5Version fu xs = some o → ∀ y, o.x = some y → Good E Try.prog 117 xs (o.g y) := by
  intro xs o h y hy
  unfold S_spec_l5Version at h
  split at h
  · rename_i a0_0
    cases h
    exact goodv_spec_l5Version fu a0_0 y hy
  · cases h

/-! spec.l3Name -/
def F_spec_l3Name (fu : Nat) (name_0 : Int) : Option (Bool) :=
  ((F_spec_l1In fu name_0 1 999).bind fun y65 => (some y65))
def pcf_spec_l3Name (fu : Nat) (f : Nat) (xs : List (D RT den)) : Option (Out RT den) := match f with | 53 => S_spec_l1In fu xs | _ => none
def pcx_spec_l3Name (fu : Nat) (f : Nat) (xs : List (D RT den)) (ins : List (Ob RT den)) : Option (OutX RT den) := none
def pc_spec_l3Name (fu : Nat) : Pc RT den := ⟨pcf_spec_l3Name fu, fun _ => false, fun _ => false, pcx_spec_l3Name fu⟩
def msk_spec_l3Name (b : Nat) : List Nat := []
def lp_spec_l3Name (fu : Nat) : Lp RT den (Bool) := fun b s k => none
theorem ev_spec_l3Name (fu : Nat) (name_0 : Int) : evFun E (pc_spec_l3Name fu) msk_spec_l3Name (lp_spec_l3Name fu) out_bo 118 [(.int .i64 name_0)] = F_spec_l3Name fu name_0 := by kernel_rfl
noncomputable def body_spec_l3Name : Code := Try.f118.body.getD .skip
theorem lpok_spec_l3Name (fu : Nat) : LpOk E (pc_spec_l3Name fu) msk_spec_l3Name (lp_spec_l3Name fu) (loops 0 body_spec_l3Name) := by
  have h : loops 0 body_spec_l3Name = [] := by kernel_rfl
  rw [h]; intro p hp; cases hp
def S_spec_l3Name (fu : Nat) (xs : List (D RT den)) : Option (Out RT den) := match xs with | [.int .i64 a0_0] => some ⟨Bool, F_spec_l3Name fu a0_0, enc_bo, fun _ => true⟩ | _ => none
theorem hpc_spec_l3Name (fu : Nat) : ∀ f xs o, pcf_spec_l3Name fu f xs = some o → ∀ y, o.x = some y → Good E Try.prog f xs (o.g y) := by
  intro f xs o h
  unfold pcf_spec_l3Name at h
  split at h
  · exact good_spec_l1In fu xs o h
  · cases h
theorem hpx_spec_l3Name (fu : Nat) : ∀ f xs ins o, pcx_spec_l3Name fu f xs ins = some o → ∀ y, o.x = some y → GoodX E Try.prog f xs ins (o.g y).1 (o.g y).2 := by
  intro f xs ins o h
  cases h
theorem goodv_spec_l3Name (fu : Nat) (name_0 : Int) (y : Bool) (hy : F_spec_l3Name fu name_0 = some y) : Good E Try.prog 118 [(.int .i64 name_0)] (enc_bo y) :=
  fun_good E_ok (pc_good (pc := pc_spec_l3Name fu) (hpc_spec_l3Name fu) (hpx_spec_l3Name fu)) (fn := Try.f118) (c := body_spec_l3Name) (out := out_bo) (y := y) (by kernel_rfl) (by kernel_rfl) (by kernel_rfl) (lpok_spec_l3Name fu) (fun d hd => out_bo_enc d _ hd) ((ev_spec_l3Name fu name_0).trans hy)
theorem good_spec_l3Name (fu : Nat) : ∀ xs o, S_spec_l3Name fu xs = some o → ∀ y, o.x = some y → Good E Try.prog 118 xs (o.g y) := by
  intro xs o h y hy
  unfold S_spec_l3Name at h
  split at h
  · rename_i a0_0
    cases h
    exact goodv_spec_l3Name fu a0_0 y hy
  · cases h

/-! spec.l2Address -/
def F_spec_l2Address (fu : Nat) (a_0 : Int) : Option (Bool) :=
  ((F_spec_l1In fu a_0 0 4294967295).bind fun y66 => (some y66))
def pcf_spec_l2Address (fu : Nat) (f : Nat) (xs : List (D RT den)) : Option (Out RT den) := match f with | 53 => S_spec_l1In fu xs | _ => none
def pcx_spec_l2Address (fu : Nat) (f : Nat) (xs : List (D RT den)) (ins : List (Ob RT den)) : Option (OutX RT den) := none
def pc_spec_l2Address (fu : Nat) : Pc RT den := ⟨pcf_spec_l2Address fu, fun _ => false, fun _ => false, pcx_spec_l2Address fu⟩
def msk_spec_l2Address (b : Nat) : List Nat := []
def lp_spec_l2Address (fu : Nat) : Lp RT den (Bool) := fun b s k => none
theorem ev_spec_l2Address (fu : Nat) (a_0 : Int) : evFun E (pc_spec_l2Address fu) msk_spec_l2Address (lp_spec_l2Address fu) out_bo 119 [(.int .i64 a_0)] = F_spec_l2Address fu a_0 := by kernel_rfl
noncomputable def body_spec_l2Address : Code := Try.f119.body.getD .skip
theorem lpok_spec_l2Address (fu : Nat) : LpOk E (pc_spec_l2Address fu) msk_spec_l2Address (lp_spec_l2Address fu) (loops 0 body_spec_l2Address) := by
  have h : loops 0 body_spec_l2Address = [] := by kernel_rfl
  rw [h]; intro p hp; cases hp
def S_spec_l2Address (fu : Nat) (xs : List (D RT den)) : Option (Out RT den) := match xs with | [.int .i64 a0_0] => some ⟨Bool, F_spec_l2Address fu a0_0, enc_bo, fun _ => true⟩ | _ => none
theorem hpc_spec_l2Address (fu : Nat) : ∀ f xs o, pcf_spec_l2Address fu f xs = some o → ∀ y, o.x = some y → Good E Try.prog f xs (o.g y) := by
  intro f xs o h
  unfold pcf_spec_l2Address at h
  split at h
  · exact good_spec_l1In fu xs o h
  · cases h
theorem hpx_spec_l2Address (fu : Nat) : ∀ f xs ins o, pcx_spec_l2Address fu f xs ins = some o → ∀ y, o.x = some y → GoodX E Try.prog f xs ins (o.g y).1 (o.g y).2 := by
  intro f xs ins o h
  cases h
theorem goodv_spec_l2Address (fu : Nat) (a_0 : Int) (y : Bool) (hy : F_spec_l2Address fu a_0 = some y) : Good E Try.prog 119 [(.int .i64 a_0)] (enc_bo y) :=
  fun_good E_ok (pc_good (pc := pc_spec_l2Address fu) (hpc_spec_l2Address fu) (hpx_spec_l2Address fu)) (fn := Try.f119) (c := body_spec_l2Address) (out := out_bo) (y := y) (by kernel_rfl) (by kernel_rfl) (by kernel_rfl) (lpok_spec_l2Address fu) (fun d hd => out_bo_enc d _ hd) ((ev_spec_l2Address fu a_0).trans hy)
theorem good_spec_l2Address (fu : Nat) : ∀ xs o, S_spec_l2Address fu xs = some o → ∀ y, o.x = some y → Good E Try.prog 119 xs (o.g y) := by
  intro xs o h y hy
  unfold S_spec_l2Address at h
  split at h
  · rename_i a0_0
    cases h
    exact goodv_spec_l2Address fu a0_0 y hy
  · cases h

/-! spec.l2Port -/
def F_spec_l2Port (fu : Nat) (p_0 : Int) : Option (Bool) :=
  ((F_spec_l1In fu p_0 0 65535).bind fun y72 => (some y72))
def pcf_spec_l2Port (fu : Nat) (f : Nat) (xs : List (D RT den)) : Option (Out RT den) := match f with | 53 => S_spec_l1In fu xs | _ => none
def pcx_spec_l2Port (fu : Nat) (f : Nat) (xs : List (D RT den)) (ins : List (Ob RT den)) : Option (OutX RT den) := none
def pc_spec_l2Port (fu : Nat) : Pc RT den := ⟨pcf_spec_l2Port fu, fun _ => false, fun _ => false, pcx_spec_l2Port fu⟩
def msk_spec_l2Port (b : Nat) : List Nat := []
def lp_spec_l2Port (fu : Nat) : Lp RT den (Bool) := fun b s k => none
theorem ev_spec_l2Port (fu : Nat) (p_0 : Int) : evFun E (pc_spec_l2Port fu) msk_spec_l2Port (lp_spec_l2Port fu) out_bo 123 [(.int .i64 p_0)] = F_spec_l2Port fu p_0 := by kernel_rfl
noncomputable def body_spec_l2Port : Code := Try.f123.body.getD .skip
theorem lpok_spec_l2Port (fu : Nat) : LpOk E (pc_spec_l2Port fu) msk_spec_l2Port (lp_spec_l2Port fu) (loops 0 body_spec_l2Port) := by
  have h : loops 0 body_spec_l2Port = [] := by kernel_rfl
  rw [h]; intro p hp; cases hp
def S_spec_l2Port (fu : Nat) (xs : List (D RT den)) : Option (Out RT den) := match xs with | [.int .i64 a0_0] => some ⟨Bool, F_spec_l2Port fu a0_0, enc_bo, fun _ => true⟩ | _ => none
theorem hpc_spec_l2Port (fu : Nat) : ∀ f xs o, pcf_spec_l2Port fu f xs = some o → ∀ y, o.x = some y → Good E Try.prog f xs (o.g y) := by
  intro f xs o h
  unfold pcf_spec_l2Port at h
  split at h
  · exact good_spec_l1In fu xs o h
  · cases h
theorem hpx_spec_l2Port (fu : Nat) : ∀ f xs ins o, pcx_spec_l2Port fu f xs ins = some o → ∀ y, o.x = some y → GoodX E Try.prog f xs ins (o.g y).1 (o.g y).2 := by
  intro f xs ins o h
  cases h
theorem goodv_spec_l2Port (fu : Nat) (p_0 : Int) (y : Bool) (hy : F_spec_l2Port fu p_0 = some y) : Good E Try.prog 123 [(.int .i64 p_0)] (enc_bo y) :=
  fun_good E_ok (pc_good (pc := pc_spec_l2Port fu) (hpc_spec_l2Port fu) (hpx_spec_l2Port fu)) (fn := Try.f123) (c := body_spec_l2Port) (out := out_bo) (y := y) (by kernel_rfl) (by kernel_rfl) (by kernel_rfl) (lpok_spec_l2Port fu) (fun d hd => out_bo_enc d _ hd) ((ev_spec_l2Port fu p_0).trans hy)
theorem good_spec_l2Port (fu : Nat) : ∀ xs o, S_spec_l2Port fu xs = some o → ∀ y, o.x = some y → Good E Try.prog 123 xs (o.g y) := by
  intro xs o h y hy
  unfold S_spec_l2Port at h
  split at h
  · rename_i a0_0
    cases h
    exact goodv_spec_l2Port fu a0_0 y hy
  · cases h

/-! spec.l5Number -/
def F_spec_l5Number (fu : Nat) (x_0 : S_impl_Cmd) : Option (Bool) :=
  (bif (x_0.Kind == 1) then ((F_spec_l1In fu x_0.Number 0 9).bind fun y67 => (some y67)) else (bif (x_0.Kind == 2) then ((F_spec_l1In fu x_0.Number 0 9).bind fun y68 => (some y68)) else
    (bif (x_0.Kind == 3) then ((F_spec_l1In fu x_0.Number 1 3).bind fun y69 => (some y69)) else (bif (x_0.Kind == 9) then ((F_spec_l1In fu x_0.Number 0 1).bind fun y70 => (some y70)) else
    ((F_spec_l2Port fu x_0.Number).bind fun y71 => (some y71))))))
def pcf_spec_l5Number (fu : Nat) (f : Nat) (xs : List (D RT den)) : Option (Out RT den) := match f with | 53 => S_spec_l1In fu xs | 123 => S_spec_l2Port fu xs | _ => none
def pcx_spec_l5Number (fu : Nat) (f : Nat) (xs : List (D RT den)) (ins : List (Ob RT den)) : Option (OutX RT den) := none
def pc_spec_l5Number (fu : Nat) : Pc RT den := ⟨pcf_spec_l5Number fu, fun _ => false, fun _ => false, pcx_spec_l5Number fu⟩
def msk_spec_l5Number (b : Nat) : List Nat := []
def lp_spec_l5Number (fu : Nat) : Lp RT den (Bool) := fun b s k => none
theorem ev_spec_l5Number (fu : Nat) (x_0 : S_impl_Cmd) : evFun E (pc_spec_l5Number fu) msk_spec_l5Number (lp_spec_l5Number fu) out_bo 120 [(.agg [(.int .i64 x_0.Kind), (.int .i64 x_0.Expect), (.int .i64 x_0.Name), (.int .i64 x_0.Addr), (.int .i64 x_0.Number), (.int .i64 x_0.Proto)])] = F_spec_l5Number fu x_0 := by kernel_rfl
noncomputable def body_spec_l5Number : Code := Try.f120.body.getD .skip
theorem lpok_spec_l5Number (fu : Nat) : LpOk E (pc_spec_l5Number fu) msk_spec_l5Number (lp_spec_l5Number fu) (loops 0 body_spec_l5Number) := by
  have h : loops 0 body_spec_l5Number = [] := by kernel_rfl
  rw [h]; intro p hp; cases hp
def S_spec_l5Number (fu : Nat) (xs : List (D RT den)) : Option (Out RT den) := match xs with | [.agg [.int .i64 a0_1, .int .i64 a0_2, .int .i64 a0_3, .int .i64 a0_4, .int .i64 a0_5, .int .i64 a0_6]] => some ⟨Bool, F_spec_l5Number fu (⟨a0_1, a0_2, a0_3, a0_4, a0_5, a0_6⟩ : S_impl_Cmd), enc_bo, fun _ => true⟩ | _ => none
theorem hpc_spec_l5Number (fu : Nat) : ∀ f xs o, pcf_spec_l5Number fu f xs = some o → ∀ y, o.x = some y → Good E Try.prog f xs (o.g y) := by
  intro f xs o h
  unfold pcf_spec_l5Number at h
  split at h
  · exact good_spec_l1In fu xs o h
  · exact good_spec_l2Port fu xs o h
  · cases h
theorem hpx_spec_l5Number (fu : Nat) : ∀ f xs ins o, pcx_spec_l5Number fu f xs ins = some o → ∀ y, o.x = some y → GoodX E Try.prog f xs ins (o.g y).1 (o.g y).2 := by
  intro f xs ins o h
  cases h
theorem goodv_spec_l5Number (fu : Nat) (x_0 : S_impl_Cmd) (y : Bool) (hy : F_spec_l5Number fu x_0 = some y) : Good E Try.prog 120 [(.agg [(.int .i64 x_0.Kind), (.int .i64 x_0.Expect), (.int .i64 x_0.Name), (.int .i64 x_0.Addr), (.int .i64 x_0.Number), (.int .i64 x_0.Proto)])] (enc_bo y) :=
  fun_good E_ok (pc_good (pc := pc_spec_l5Number fu) (hpc_spec_l5Number fu) (hpx_spec_l5Number fu)) (fn := Try.f120) (c := body_spec_l5Number) (out := out_bo) (y := y) (by kernel_rfl) (by kernel_rfl) (by kernel_rfl) (lpok_spec_l5Number fu) (fun d hd => out_bo_enc d _ hd) ((ev_spec_l5Number fu x_0).trans hy)
theorem good_spec_l5Number (fu : Nat) : ∀ xs o, S_spec_l5Number fu xs = some o → ∀ y, o.x = some y → Good E Try.prog 120 xs (o.g y) := by
  intro xs o h y hy
  unfold S_spec_l5Number at h
  split at h
  · rename_i a0_1 a0_2 a0_3 a0_4 a0_5 a0_6
    cases h
    exact goodv_spec_l5Number fu (⟨a0_1, a0_2, a0_3, a0_4, a0_5, a0_6⟩ : S_impl_Cmd) y hy
  · cases h

/-! spec.l5Proto -/
def F_spec_l5Proto (fu : Nat) (p_0 : Int) : Option (Bool) :=
  (((bif (p_0 == 6) then (some true) else (some (p_0 == 17))) : Option Bool).bind fun m73 => (some m73))
def pcf_spec_l5Proto (fu : Nat) (f : Nat) (xs : List (D RT den)) : Option (Out RT den) := none
def pcx_spec_l5Proto (fu : Nat) (f : Nat) (xs : List (D RT den)) (ins : List (Ob RT den)) : Option (OutX RT den) := none
def pc_spec_l5Proto (fu : Nat) : Pc RT den := ⟨pcf_spec_l5Proto fu, fun _ => false, fun _ => false, pcx_spec_l5Proto fu⟩
def msk_spec_l5Proto (b : Nat) : List Nat := match b with | 200001 => [2] | _ => []
def lp_spec_l5Proto (fu : Nat) : Lp RT den (Bool) := fun b s k => none
theorem ev_spec_l5Proto (fu : Nat) (p_0 : Int) : evFun E (pc_spec_l5Proto fu) msk_spec_l5Proto (lp_spec_l5Proto fu) out_bo 121 [(.int .i64 p_0)] = F_spec_l5Proto fu p_0 := by kernel_rfl
noncomputable def body_spec_l5Proto : Code := Try.f121.body.getD .skip
theorem lpok_spec_l5Proto (fu : Nat) : LpOk E (pc_spec_l5Proto fu) msk_spec_l5Proto (lp_spec_l5Proto fu) (loops 0 body_spec_l5Proto) := by
  have h : loops 0 body_spec_l5Proto = [] := by kernel_rfl
  rw [h]; intro p hp; cases hp
def S_spec_l5Proto (fu : Nat) (xs : List (D RT den)) : Option (Out RT den) := match xs with | [.int .i64 a0_0] => some ⟨Bool, F_spec_l5Proto fu a0_0, enc_bo, fun _ => true⟩ | _ => none
theorem hpc_spec_l5Proto (fu : Nat) : ∀ f xs o, pcf_spec_l5Proto fu f xs = some o → ∀ y, o.x = some y → Good E Try.prog f xs (o.g y) := by
  intro f xs o h
  cases h
theorem hpx_spec_l5Proto (fu : Nat) : ∀ f xs ins o, pcx_spec_l5Proto fu f xs ins = some o → ∀ y, o.x = some y → GoodX E Try.prog f xs ins (o.g y).1 (o.g y).2 := by
  intro f xs ins o h
  cases h
theorem goodv_spec_l5Proto (fu : Nat) (p_0 : Int) (y : Bool) (hy : F_spec_l5Proto fu p_0 = some y) : Good E Try.prog 121 [(.int .i64 p_0)] (enc_bo y) :=
  fun_good E_ok (pc_good (pc := pc_spec_l5Proto fu) (hpc_spec_l5Proto fu) (hpx_spec_l5Proto fu)) (fn := Try.f121) (c := body_spec_l5Proto) (out := out_bo) (y := y) (by kernel_rfl) (by kernel_rfl) (by kernel_rfl) (lpok_spec_l5Proto fu) (fun d hd => out_bo_enc d _ hd) ((ev_spec_l5Proto fu p_0).trans hy)
theorem good_spec_l5Proto (fu : Nat) : ∀ xs o, S_spec_l5Proto fu xs = some o → ∀ y, o.x = some y → Good E Try.prog 121 xs (o.g y) := by
  intro xs o h y hy
  unfold S_spec_l5Proto at h
  split at h
  · rename_i a0_0
    cases h
    exact goodv_spec_l5Proto fu a0_0 y hy
  · cases h

/-! spec.CmdFault -/
def F_spec_CmdFault (fu : Nat) (x_0 : S_impl_Cmd) : Option (Int) :=
  ((F_spec_l1In fu x_0.Kind 1 9).bind fun y28 => (bif (!y28) then (some 1) else ((F_spec_l5Needs fu x_0.Kind).bind fun y29 => (((bif (x_0.Expect != (-1)) then ((F_spec_l5Version fu x_0.Expect).bind fun y30 =>
    (bif (!y30) then (some true) else (bif y29.1 then ((F_spec_l3Name fu x_0.Name).bind fun y31 => (bif (!y31) then (some true) else (bif y29.2.1 then ((F_spec_l2Address fu x_0.Addr).bind fun y32 =>
    (bif (!y32) then (some true) else (bif y29.2.2.1 then ((F_spec_l5Number fu x_0).bind fun y33 => (bif (!y33) then (some true) else (bif y29.2.2.2 then ((F_spec_l5Proto fu x_0.Proto).bind fun y34 =>
    (some (!y34))) else (some false)))) else (bif y29.2.2.2 then ((F_spec_l5Proto fu x_0.Proto).bind fun y35 => (some (!y35))) else (some false))))) else (bif y29.2.2.1 then
    ((F_spec_l5Number fu x_0).bind fun y36 => (bif (!y36) then (some true) else (bif y29.2.2.2 then ((F_spec_l5Proto fu x_0.Proto).bind fun y37 => (some (!y37))) else (some false)))) else
    (bif y29.2.2.2 then ((F_spec_l5Proto fu x_0.Proto).bind fun y38 => (some (!y38))) else (some false)))))) else (bif y29.2.1 then ((F_spec_l2Address fu x_0.Addr).bind fun y39 =>
    (bif (!y39) then (some true) else (bif y29.2.2.1 then ((F_spec_l5Number fu x_0).bind fun y40 => (bif (!y40) then (some true) else (bif y29.2.2.2 then ((F_spec_l5Proto fu x_0.Proto).bind fun y41 =>
    (some (!y41))) else (some false)))) else (bif y29.2.2.2 then ((F_spec_l5Proto fu x_0.Proto).bind fun y42 => (some (!y42))) else (some false))))) else (bif y29.2.2.1 then
    ((F_spec_l5Number fu x_0).bind fun y43 => (bif (!y43) then (some true) else (bif y29.2.2.2 then ((F_spec_l5Proto fu x_0.Proto).bind fun y44 => (some (!y44))) else (some false)))) else
    (bif y29.2.2.2 then ((F_spec_l5Proto fu x_0.Proto).bind fun y45 => (some (!y45))) else (some false))))))) else (bif y29.1 then ((F_spec_l3Name fu x_0.Name).bind fun y46 => (bif (!y46) then
    (some true) else (bif y29.2.1 then ((F_spec_l2Address fu x_0.Addr).bind fun y47 => (bif (!y47) then (some true) else (bif y29.2.2.1 then ((F_spec_l5Number fu x_0).bind fun y48 =>
    (bif (!y48) then (some true) else (bif y29.2.2.2 then ((F_spec_l5Proto fu x_0.Proto).bind fun y49 => (some (!y49))) else (some false)))) else (bif y29.2.2.2 then
    ((F_spec_l5Proto fu x_0.Proto).bind fun y50 => (some (!y50))) else (some false))))) else (bif y29.2.2.1 then ((F_spec_l5Number fu x_0).bind fun y51 => (bif (!y51) then (some true) else
    (bif y29.2.2.2 then ((F_spec_l5Proto fu x_0.Proto).bind fun y52 => (some (!y52))) else (some false)))) else (bif y29.2.2.2 then ((F_spec_l5Proto fu x_0.Proto).bind fun y53 =>
    (some (!y53))) else (some false)))))) else (bif y29.2.1 then ((F_spec_l2Address fu x_0.Addr).bind fun y54 => (bif (!y54) then (some true) else (bif y29.2.2.1 then
    ((F_spec_l5Number fu x_0).bind fun y55 => (bif (!y55) then (some true) else (bif y29.2.2.2 then ((F_spec_l5Proto fu x_0.Proto).bind fun y56 => (some (!y56))) else (some false)))) else
    (bif y29.2.2.2 then ((F_spec_l5Proto fu x_0.Proto).bind fun y57 => (some (!y57))) else (some false))))) else (bif y29.2.2.1 then ((F_spec_l5Number fu x_0).bind fun y58 => (bif (!y58) then
    (some true) else (bif y29.2.2.2 then ((F_spec_l5Proto fu x_0.Proto).bind fun y59 => (some (!y59))) else (some false)))) else (bif y29.2.2.2 then ((F_spec_l5Proto fu x_0.Proto).bind fun y60 =>
    (some (!y60))) else (some false)))))) : Option Bool).bind fun m61 => (bif m61 then (some 3) else (((bif (!y29.1) then (bif (x_0.Name != 0) then (some true) else (bif (!y29.2.1) then
    (bif (x_0.Addr != 0) then (some true) else (bif (!y29.2.2.1) then (bif (x_0.Number != 0) then (some true) else (bif (!y29.2.2.2) then (some (x_0.Proto != 0)) else (some false))) else
    (bif (!y29.2.2.2) then (some (x_0.Proto != 0)) else (some false)))) else (bif (!y29.2.2.1) then (bif (x_0.Number != 0) then (some true) else (bif (!y29.2.2.2) then (some (x_0.Proto != 0)) else
    (some false))) else (bif (!y29.2.2.2) then (some (x_0.Proto != 0)) else (some false))))) else (bif (!y29.2.1) then (bif (x_0.Addr != 0) then (some true) else (bif (!y29.2.2.1) then
    (bif (x_0.Number != 0) then (some true) else (bif (!y29.2.2.2) then (some (x_0.Proto != 0)) else (some false))) else (bif (!y29.2.2.2) then (some (x_0.Proto != 0)) else (some false)))) else
    (bif (!y29.2.2.1) then (bif (x_0.Number != 0) then (some true) else (bif (!y29.2.2.2) then (some (x_0.Proto != 0)) else (some false))) else (bif (!y29.2.2.2) then (some (x_0.Proto != 0)) else
    (some false))))) : Option Bool).bind fun m62 => (bif m62 then (some 1) else (some 0))))))))
def pcf_spec_CmdFault (fu : Nat) (f : Nat) (xs : List (D RT den)) : Option (Out RT den) := match f with | 53 => S_spec_l1In fu xs | 107 => S_spec_l5Needs fu xs | 117 => S_spec_l5Version fu xs | 118 => S_spec_l3Name fu xs | 119 => S_spec_l2Address fu xs | 120 => S_spec_l5Number fu xs | 121 => S_spec_l5Proto fu xs | _ => none
def pcx_spec_CmdFault (fu : Nat) (f : Nat) (xs : List (D RT den)) (ins : List (Ob RT den)) : Option (OutX RT den) := none
def pc_spec_CmdFault (fu : Nat) : Pc RT den := ⟨pcf_spec_CmdFault fu, fun _ => false, fun _ => false, pcx_spec_CmdFault fu⟩
def msk_spec_CmdFault (b : Nat) : List Nat := match b with | 200004 => [62] | 200006 => [96] | _ => []
def lp_spec_CmdFault (fu : Nat) : Lp RT den (Int) := fun b s k => none
theorem ev_spec_CmdFault (fu : Nat) (x_0 : S_impl_Cmd) : evFun E (pc_spec_CmdFault fu) msk_spec_CmdFault (lp_spec_CmdFault fu) out_i64 106 [(.agg [(.int .i64 x_0.Kind), (.int .i64 x_0.Expect), (.int .i64 x_0.Name), (.int .i64 x_0.Addr), (.int .i64 x_0.Number), (.int .i64 x_0.Proto)])] = F_spec_CmdFault fu x_0 := by kernel_rfl
noncomputable def body_spec_CmdFault : Code := Try.f106.body.getD .skip
theorem lpok_spec_CmdFault (fu : Nat) : LpOk E (pc_spec_CmdFault fu) msk_spec_CmdFault (lp_spec_CmdFault fu) (loops 0 body_spec_CmdFault) := by
  have h : loops 0 body_spec_CmdFault = [] := by kernel_rfl
  rw [h]; intro p hp; cases hp
def S_spec_CmdFault (fu : Nat) (xs : List (D RT den)) : Option (Out RT den) := match xs with | [.agg [.int .i64 a0_1, .int .i64 a0_2, .int .i64 a0_3, .int .i64 a0_4, .int .i64 a0_5, .int .i64 a0_6]] => some ⟨Int, F_spec_CmdFault fu (⟨a0_1, a0_2, a0_3, a0_4, a0_5, a0_6⟩ : S_impl_Cmd), enc_i64, fun _ => true⟩ | _ => none
theorem hpc_spec_CmdFault (fu : Nat) : ∀ f xs o, pcf_spec_CmdFault fu f xs = some o → ∀ y, o.x = some y → Good E Try.prog f xs (o.g y) := by
  intro f xs o h
  unfold pcf_spec_CmdFault at h
  split at h
  · exact good_spec_l1In fu xs o h
  · exact good_spec_l5Needs fu xs o h
  · exact good_spec_l5Version fu xs o h
  · exact good_spec_l3Name fu xs o h
  · exact good_spec_l2Address fu xs o h
  · exact good_spec_l5Number fu xs o h
  · exact good_spec_l5Proto fu xs o h
  · cases h
theorem hpx_spec_CmdFault (fu : Nat) : ∀ f xs ins o, pcx_spec_CmdFault fu f xs ins = some o → ∀ y, o.x = some y → GoodX E Try.prog f xs ins (o.g y).1 (o.g y).2 := by
  intro f xs ins o h
  cases h
theorem goodv_spec_CmdFault (fu : Nat) (x_0 : S_impl_Cmd) (y : Int) (hy : F_spec_CmdFault fu x_0 = some y) : Good E Try.prog 106 [(.agg [(.int .i64 x_0.Kind), (.int .i64 x_0.Expect), (.int .i64 x_0.Name), (.int .i64 x_0.Addr), (.int .i64 x_0.Number), (.int .i64 x_0.Proto)])] (enc_i64 y) :=
  fun_good E_ok (pc_good (pc := pc_spec_CmdFault fu) (hpc_spec_CmdFault fu) (hpx_spec_CmdFault fu)) (fn := Try.f106) (c := body_spec_CmdFault) (out := out_i64) (y := y) (by kernel_rfl) (by kernel_rfl) (by kernel_rfl) (lpok_spec_CmdFault fu) (fun d hd => out_i64_enc d _ hd) ((ev_spec_CmdFault fu x_0).trans hy)
theorem good_spec_CmdFault (fu : Nat) : ∀ xs o, S_spec_CmdFault fu xs = some o → ∀ y, o.x = some y → Good E Try.prog 106 xs (o.g y) := by
  intro xs o h y hy
  unfold S_spec_CmdFault at h
  split at h
  · rename_i a0_1 a0_2 a0_3 a0_4 a0_5 a0_6
    cases h
    exact goodv_spec_CmdFault fu (⟨a0_1, a0_2, a0_3, a0_4, a0_5, a0_6⟩ : S_impl_Cmd) y hy
  · cases h

/-! spec.EntryFault -/
def F_spec_EntryFault (fu : Nat) (x_0 : S_impl_Entry) : Option (Int) :=
  ((((F_spec_l1In fu x_0.Term 1 100000).bind fun y22 => (bif (!y22) then (some true) else ((F_spec_l1In fu x_0.Client 0 999).bind fun y23 => (bif (!y23) then (some true) else
    ((F_spec_l1In fu x_0.Seq 0 1000000).bind fun y24 => (some (!y24))))))) : Option Bool).bind fun m25 => (bif m25 then (some 3) else (bif (!((x_0.Client == 0) == (x_0.Seq == 0))) then
    (some 1) else (bif (x_0.Client != 0) then ((F_spec_CmdFault fu x_0.Cmd).bind fun y26 => (some y26)) else (bif (!((x_0.Cmd.Kind == 0) && ((x_0.Cmd.Expect == 0) && ((x_0.Cmd.Name == 0) &&
    ((x_0.Cmd.Addr == 0) && ((x_0.Cmd.Number == 0) && ((x_0.Cmd.Proto == 0) && true))))))) then (some 1) else (some 0))))))
def pcf_spec_EntryFault (fu : Nat) (f : Nat) (xs : List (D RT den)) : Option (Out RT den) := match f with | 53 => S_spec_l1In fu xs | 106 => S_spec_CmdFault fu xs | _ => none
def pcx_spec_EntryFault (fu : Nat) (f : Nat) (xs : List (D RT den)) (ins : List (Ob RT den)) : Option (OutX RT den) := none
def pc_spec_EntryFault (fu : Nat) : Pc RT den := ⟨pcf_spec_EntryFault fu, fun _ => false, fun _ => false, pcx_spec_EntryFault fu⟩
def msk_spec_EntryFault (b : Nat) : List Nat := match b with | 200001 => [19] | _ => []
def lp_spec_EntryFault (fu : Nat) : Lp RT den (Int) := fun b s k => none
theorem ev_spec_EntryFault (fu : Nat) (x_0 : S_impl_Entry) : evFun E (pc_spec_EntryFault fu) msk_spec_EntryFault (lp_spec_EntryFault fu) out_i64 78 [(.agg [(.int .i64 x_0.Term), (.int .i64 x_0.Client), (.int .i64 x_0.Seq), (.int .i64 x_0.Cmd.Kind), (.int .i64 x_0.Cmd.Expect), (.int .i64 x_0.Cmd.Name), (.int .i64 x_0.Cmd.Addr), (.int .i64 x_0.Cmd.Number), (.int .i64 x_0.Cmd.Proto)])] = F_spec_EntryFault fu x_0 := by kernel_rfl
noncomputable def body_spec_EntryFault : Code := Try.f78.body.getD .skip
theorem lpok_spec_EntryFault (fu : Nat) : LpOk E (pc_spec_EntryFault fu) msk_spec_EntryFault (lp_spec_EntryFault fu) (loops 0 body_spec_EntryFault) := by
  have h : loops 0 body_spec_EntryFault = [] := by kernel_rfl
  rw [h]; intro p hp; cases hp
def S_spec_EntryFault (fu : Nat) (xs : List (D RT den)) : Option (Out RT den) := match xs with | [.agg [.int .i64 a0_1, .int .i64 a0_2, .int .i64 a0_3, .int .i64 a0_5, .int .i64 a0_6, .int .i64 a0_7, .int .i64 a0_8, .int .i64 a0_9, .int .i64 a0_10]] => some ⟨Int, F_spec_EntryFault fu (⟨a0_1, a0_2, a0_3, (⟨a0_5, a0_6, a0_7, a0_8, a0_9, a0_10⟩ : S_impl_Cmd)⟩ : S_impl_Entry), enc_i64, fun _ => true⟩ | _ => none
theorem hpc_spec_EntryFault (fu : Nat) : ∀ f xs o, pcf_spec_EntryFault fu f xs = some o → ∀ y, o.x = some y → Good E Try.prog f xs (o.g y) := by
  intro f xs o h
  unfold pcf_spec_EntryFault at h
  split at h
  · exact good_spec_l1In fu xs o h
  · exact good_spec_CmdFault fu xs o h
  · cases h
theorem hpx_spec_EntryFault (fu : Nat) : ∀ f xs ins o, pcx_spec_EntryFault fu f xs ins = some o → ∀ y, o.x = some y → GoodX E Try.prog f xs ins (o.g y).1 (o.g y).2 := by
  intro f xs ins o h
  cases h
theorem goodv_spec_EntryFault (fu : Nat) (x_0 : S_impl_Entry) (y : Int) (hy : F_spec_EntryFault fu x_0 = some y) : Good E Try.prog 78 [(.agg [(.int .i64 x_0.Term), (.int .i64 x_0.Client), (.int .i64 x_0.Seq), (.int .i64 x_0.Cmd.Kind), (.int .i64 x_0.Cmd.Expect), (.int .i64 x_0.Cmd.Name), (.int .i64 x_0.Cmd.Addr), (.int .i64 x_0.Cmd.Number), (.int .i64 x_0.Cmd.Proto)])] (enc_i64 y) :=
  fun_good E_ok (pc_good (pc := pc_spec_EntryFault fu) (hpc_spec_EntryFault fu) (hpx_spec_EntryFault fu)) (fn := Try.f78) (c := body_spec_EntryFault) (out := out_i64) (y := y) (by kernel_rfl) (by kernel_rfl) (by kernel_rfl) (lpok_spec_EntryFault fu) (fun d hd => out_i64_enc d _ hd) ((ev_spec_EntryFault fu x_0).trans hy)
theorem good_spec_EntryFault (fu : Nat) : ∀ xs o, S_spec_EntryFault fu xs = some o → ∀ y, o.x = some y → Good E Try.prog 78 xs (o.g y) := by
  intro xs o h y hy
  unfold S_spec_EntryFault at h
  split at h
  · rename_i a0_1 a0_2 a0_3 a0_5 a0_6 a0_7 a0_8 a0_9 a0_10
    cases h
    exact goodv_spec_EntryFault fu (⟨a0_1, a0_2, a0_3, (⟨a0_5, a0_6, a0_7, a0_8, a0_9, a0_10⟩ : S_impl_Cmd)⟩ : S_impl_Entry) y hy
  · cases h

/-! spec.LogFault -/
def F_spec_LogFault_B0 {ρ : Type} (fu : Nat) (log0_0 : (Sl S_impl_Entry)) (k0 : Int → Option ρ) (k1 : Option ρ) (k2 : Option ρ) (i3_1 : Int) (go : Int → Option ρ) : Option ρ :=
  (bif (decide (i3_1 < ((log0_0.n : Nat) : Int))) then ((bif (decide (0 ≤ i3_1) && decide ((Int.toNat i3_1) < log0_0.n)) then some () else none : Option Unit).bind fun _ =>
    ((F_spec_EntryFault fu (log0_0.f (Int.toNat i3_1))).bind fun y19 => (bif (y19 != 0) then (k0 y19) else (((bif (decide (i3_1 > 0)) then ((bif (decide (0 ≤ i3_1) && decide ((Int.toNat i3_1) < log0_0.n)) then
    some () else none : Option Unit).bind fun _ => ((bif (decide (0 ≤ (IntKind.wrap .i64 (i3_1 - 1))) && decide ((Int.toNat (IntKind.wrap .i64 (i3_1 - 1))) < log0_0.n)) then some () else
    none : Option Unit).bind fun _ => (some (decide ((log0_0.f (Int.toNat i3_1)).Term < (log0_0.f (Int.toNat (IntKind.wrap .i64 (i3_1 - 1)))).Term))))) else (some false)) : Option Bool).bind fun m20 =>
    (bif m20 then k1 else (go (IntKind.wrap .i64 (i3_1 + 1)))))))) else k2)
def F_spec_LogFault (fu : Nat) (log_0 : (Sl S_impl_Entry)) : Option (Int) :=
  (bif (decide (((log_0.n : Nat) : Int) > 40)) then (some 2) else (L (fun w0 go0 => F_spec_LogFault_B0 fu log_0 (fun z21 => (some z21)) (some 1) (some 0) w0 go0) fu (0 : Int)))
def pcf_spec_LogFault (fu : Nat) (f : Nat) (xs : List (D RT den)) : Option (Out RT den) := match f with | 78 => S_spec_EntryFault fu xs | _ => none
def pcx_spec_LogFault (fu : Nat) (f : Nat) (xs : List (D RT den)) (ins : List (Ob RT den)) : Option (OutX RT den) := none
def pc_spec_LogFault (fu : Nat) : Pc RT den := ⟨pcf_spec_LogFault fu, fun _ => false, fun _ => false, pcx_spec_LogFault fu⟩
def msk_spec_LogFault (b : Nat) : List Nat := match b with | 0 => [1, 2, 4, 5, 6, 7, 8, 9, 10, 11, 12, 13, 14, 15, 16, 17, 18, 19, 20, 21, 22, 23, 24, 25, 26, 27, 28, 29, 30, 31, 32, 33, 34, 35, 36, 37] | 100000 => [0, 1, 3, 4, 5, 6, 7, 8, 9, 10, 11, 12, 13, 14, 15, 16, 17, 18, 19, 20, 21, 22, 23, 24, 25, 26, 27, 28, 29, 30, 31, 32, 33, 34, 35, 36, 37] | 200009 => [37] | _ => []
def ps_spec_LogFault_0 : List (Pat RT) := [.flat (.rs .impl_Entry), .flat .dead, .flat .dead, .flat (.int .i64), .flat .dead, .flat .dead, .flat .dead, .flat .dead, .flat .dead, .flat .dead, .flat .dead, .flat .dead, .flat .dead, .flat .dead, .flat .dead, .flat .dead, .flat .dead, .flat .dead, .flat .dead, .flat .dead, .flat .dead, .flat .dead, .flat .dead, .flat .dead, .flat .dead, .flat .dead, .flat .dead, .flat .dead, .flat .dead, .flat .dead, .flat .dead, .flat .dead, .flat .dead, .flat .dead, .flat .dead, .flat .dead, .flat .dead, .flat .dead]
def os_spec_LogFault_0 : List (OP RT) := []
def conv_spec_LogFault_0 (r : Raw den ps_spec_LogFault_0 os_spec_LogFault_0) : ((Sl S_impl_Entry)) × (Int) := (r.1.1, r.1.2.2.2.1)
def back_spec_LogFault_0 (c : (Sl S_impl_Entry)) (w : Int) : St RT den := ⟨[(.rs c.z .impl_Entry c.n c.f), .dead, .dead, (.int .i64 w), .dead, .dead, .dead, .dead, .dead, .dead, .dead, .dead, .dead, .dead, .dead, .dead, .dead, .dead, .dead, .dead, .dead, .dead, .dead, .dead, .dead, .dead, .dead, .dead, .dead, .dead, .dead, .dead, .dead, .dead, .dead, .dead, .dead, .dead], []⟩
def Bk_spec_LogFault_0 {ρ : Type} (fu : Nat) (c : (Sl S_impl_Entry)) (k : Ex → St RT den → Option ρ) (w : Int) (go : (Int) → Option ρ) : Option ρ := F_spec_LogFault_B0 fu c (fun a0 => k .ret ⟨[.dead, .dead, (.int .i64 a0), .dead, .dead, .dead, .dead, .dead, .dead, .dead, .dead, .dead, .dead, .dead, .dead, .dead, .dead, .dead, .dead, .dead, .dead, .dead, .dead, .dead, .dead, .dead, .dead, .dead, .dead, .dead, .dead, .dead, .dead, .dead, .dead, .dead, .dead, .dead], []⟩) (k .ret ⟨[.dead, .dead, (.int .i64 1), .dead, .dead, .dead, .dead, .dead, .dead, .dead, .dead, .dead, .dead, .dead, .dead, .dead, .dead, .dead, .dead, .dead, .dead, .dead, .dead, .dead, .dead, .dead, .dead, .dead, .dead, .dead, .dead, .dead, .dead, .dead, .dead, .dead, .dead, .dead], []⟩) (k (.exit 0) ⟨[.dead, .dead, .dead, .dead, .dead, .dead, .dead, .dead, .dead, .dead, .dead, .dead, .dead, .dead, .dead, .dead, .dead, .dead, .dead, .dead, .dead, .dead, .dead, .dead, .dead, .dead, .dead, .dead, .dead, .dead, .dead, .dead, .dead, .dead, .dead, .dead, .dead, .dead], []⟩) w go
def lp_spec_LogFault (fu : Nat) : Lp RT den (Int) := fun b s k => match b with | 0 => handle ps_spec_LogFault_0 os_spec_LogFault_0 conv_spec_LogFault_0 (Bk_spec_LogFault_0 fu) fu s k | _ => none
theorem ev_spec_LogFault (fu : Nat) (log_0 : (Sl S_impl_Entry)) : evFun E (pc_spec_LogFault fu) msk_spec_LogFault (lp_spec_LogFault fu) out_i64 41 [(.rs log_0.z .impl_Entry log_0.n log_0.f)] = F_spec_LogFault fu log_0 := by kernel_rfl
noncomputable def body_spec_LogFault : Code := Try.f41.body.getD .skip
noncomputable def lc_spec_LogFault_0 : Code := ((loops 0 body_spec_LogFault).getD 0 (0, .skip)).2
theorem round_spec_LogFault_0 (fu : Nat) (it : St RT den → Option (Int)) (k : Ex → St RT den → Option (Int)) c w : evCode E (pc_spec_LogFault fu) msk_spec_LogFault (lp_spec_LogFault fu) 0 lc_spec_LogFault_0 (back_spec_LogFault_0 c w) (after (msk_spec_LogFault 0) (msk_spec_LogFault 100000) 0 it k) = Bk_spec_LogFault_0 fu c k w (fun w => it (back_spec_LogFault_0 c w)) := by kernel_rfl
theorem lpok_spec_LogFault_0 (fu : Nat) : ∀ s k r, lp_spec_LogFault fu 0 s k = some r → ∃ fuel, iter (msk_spec_LogFault 0) (msk_spec_LogFault 100000) s.objs.length (evCode E (pc_spec_LogFault fu) msk_spec_LogFault (lp_spec_LogFault fu) 0 lc_spec_LogFault_0) fuel s k = some r :=
  handle_ok (ps := ps_spec_LogFault_0) (os := os_spec_LogFault_0) (conv := conv_spec_LogFault_0) (B := Bk_spec_LogFault_0 fu) (fu := fu) back_spec_LogFault_0 (fun raw => by kernel_rfl) 0 (fun c w => by kernel_rfl) (round_spec_LogFault_0 fu)
theorem lpok_spec_LogFault (fu : Nat) : LpOk E (pc_spec_LogFault fu) msk_spec_LogFault (lp_spec_LogFault fu) (loops 0 body_spec_LogFault) := loop_all 1 (by kernel_rfl) fun i hi => match i, hi with
  | 0, _ => by
    have h : (loops 0 body_spec_LogFault).getD 0 (0, .skip) = (0, lc_spec_LogFault_0) := by kernel_rfl
    rw [h]; exact lpok_spec_LogFault_0 fu
  | i + 1, hi => absurd hi (by omega)
def S_spec_LogFault (fu : Nat) (xs : List (D RT den)) : Option (Out RT den) := match xs with | [.rs za0_0 .impl_Entry na0_0 fa0_0] => some ⟨Int, F_spec_LogFault fu (⟨za0_0, na0_0, fa0_0⟩ : (Sl S_impl_Entry)), enc_i64, fun _ => true⟩ | _ => none
theorem hpc_spec_LogFault (fu : Nat) : ∀ f xs o, pcf_spec_LogFault fu f xs = some o → ∀ y, o.x = some y → Good E Try.prog f xs (o.g y) := by
  intro f xs o h
  unfold pcf_spec_LogFault at h
  split at h
  · exact good_spec_EntryFault fu xs o h
  · cases h
theorem hpx_spec_LogFault (fu : Nat) : ∀ f xs ins o, pcx_spec_LogFault fu f xs ins = some o → ∀ y, o.x = some y → GoodX E Try.prog f xs ins (o.g y).1 (o.g y).2 := by
  intro f xs ins o h
  cases h
theorem goodv_spec_LogFault (fu : Nat) (log_0 : (Sl S_impl_Entry)) (y : Int) (hy : F_spec_LogFault fu log_0 = some y) : Good E Try.prog 41 [(.rs log_0.z .impl_Entry log_0.n log_0.f)] (enc_i64 y) :=
  fun_good E_ok (pc_good (pc := pc_spec_LogFault fu) (hpc_spec_LogFault fu) (hpx_spec_LogFault fu)) (fn := Try.f41) (c := body_spec_LogFault) (out := out_i64) (y := y) (by kernel_rfl) (by kernel_rfl) (by kernel_rfl) (lpok_spec_LogFault fu) (fun d hd => out_i64_enc d _ hd) ((ev_spec_LogFault fu log_0).trans hy)
theorem good_spec_LogFault (fu : Nat) : ∀ xs o, S_spec_LogFault fu xs = some o → ∀ y, o.x = some y → Good E Try.prog 41 xs (o.g y) := by
  intro xs o h y hy
  unfold S_spec_LogFault at h
  split at h
  · rename_i za0_0 na0_0 fa0_0
    cases h
    exact goodv_spec_LogFault fu (⟨za0_0, na0_0, fa0_0⟩ : (Sl S_impl_Entry)) y hy
  · cases h

/-! spec.l7Fits -/
def F_spec_l7Fits (fu : Nat) (log_0 : (Sl S_impl_Entry)) (index_1 : Int) (term_2 : Int) : Option (Bool) :=
  (bif (index_1 == 0) then (some (term_2 == 0)) else ((((F_spec_l1In fu index_1 1 ((log_0.n : Nat) : Int)).bind fun y74 => (bif y74 then ((bif (decide (0 ≤ (IntKind.wrap .i64 (index_1 - 1))) &&
    decide ((Int.toNat (IntKind.wrap .i64 (index_1 - 1))) < log_0.n)) then some () else none : Option Unit).bind fun _ => (some ((log_0.f (Int.toNat (IntKind.wrap .i64 (index_1 - 1)))).Term == term_2))) else
    (some false))) : Option Bool).bind fun m75 => (some m75)))
def pcf_spec_l7Fits (fu : Nat) (f : Nat) (xs : List (D RT den)) : Option (Out RT den) := match f with | 53 => S_spec_l1In fu xs | _ => none
def pcx_spec_l7Fits (fu : Nat) (f : Nat) (xs : List (D RT den)) (ins : List (Ob RT den)) : Option (OutX RT den) := none
def pc_spec_l7Fits (fu : Nat) : Pc RT den := ⟨pcf_spec_l7Fits fu, fun _ => false, fun _ => false, pcx_spec_l7Fits fu⟩
def msk_spec_l7Fits (b : Nat) : List Nat := match b with | 200003 => [6] | _ => []
def lp_spec_l7Fits (fu : Nat) : Lp RT den (Bool) := fun b s k => none
theorem ev_spec_l7Fits (fu : Nat) (log_0 : (Sl S_impl_Entry)) (index_1 : Int) (term_2 : Int) : evFun E (pc_spec_l7Fits fu) msk_spec_l7Fits (lp_spec_l7Fits fu) out_bo 42 [(.rs log_0.z .impl_Entry log_0.n log_0.f), (.int .i64 index_1), (.int .i64 term_2)] = F_spec_l7Fits fu log_0 index_1 term_2 := by kernel_rfl
noncomputable def body_spec_l7Fits : Code := Try.f42.body.getD .skip
theorem lpok_spec_l7Fits (fu : Nat) : LpOk E (pc_spec_l7Fits fu) msk_spec_l7Fits (lp_spec_l7Fits fu) (loops 0 body_spec_l7Fits) := by
  have h : loops 0 body_spec_l7Fits = [] := by kernel_rfl
  rw [h]; intro p hp; cases hp
def S_spec_l7Fits (fu : Nat) (xs : List (D RT den)) : Option (Out RT den) := match xs with | [.rs za0_0 .impl_Entry na0_0 fa0_0, .int .i64 a1_0, .int .i64 a2_0] => some ⟨Bool, F_spec_l7Fits fu (⟨za0_0, na0_0, fa0_0⟩ : (Sl S_impl_Entry)) a1_0 a2_0, enc_bo, fun _ => true⟩ | _ => none
theorem hpc_spec_l7Fits (fu : Nat) : ∀ f xs o, pcf_spec_l7Fits fu f xs = some o → ∀ y, o.x = some y → Good E Try.prog f xs (o.g y) := by
  intro f xs o h
  unfold pcf_spec_l7Fits at h
  split at h
  · exact good_spec_l1In fu xs o h
  · cases h
theorem hpx_spec_l7Fits (fu : Nat) : ∀ f xs ins o, pcx_spec_l7Fits fu f xs ins = some o → ∀ y, o.x = some y → GoodX E Try.prog f xs ins (o.g y).1 (o.g y).2 := by
  intro f xs ins o h
  cases h
theorem goodv_spec_l7Fits (fu : Nat) (log_0 : (Sl S_impl_Entry)) (index_1 : Int) (term_2 : Int) (y : Bool) (hy : F_spec_l7Fits fu log_0 index_1 term_2 = some y) : Good E Try.prog 42 [(.rs log_0.z .impl_Entry log_0.n log_0.f), (.int .i64 index_1), (.int .i64 term_2)] (enc_bo y) :=
  fun_good E_ok (pc_good (pc := pc_spec_l7Fits fu) (hpc_spec_l7Fits fu) (hpx_spec_l7Fits fu)) (fn := Try.f42) (c := body_spec_l7Fits) (out := out_bo) (y := y) (by kernel_rfl) (by kernel_rfl) (by kernel_rfl) (lpok_spec_l7Fits fu) (fun d hd => out_bo_enc d _ hd) ((ev_spec_l7Fits fu log_0 index_1 term_2).trans hy)
theorem good_spec_l7Fits (fu : Nat) : ∀ xs o, S_spec_l7Fits fu xs = some o → ∀ y, o.x = some y → Good E Try.prog 42 xs (o.g y) := by
  intro xs o h y hy
  unfold S_spec_l7Fits at h
  split at h
  · rename_i za0_0 na0_0 fa0_0 a1_0 a2_0
    cases h
    exact goodv_spec_l7Fits fu (⟨za0_0, na0_0, fa0_0⟩ : (Sl S_impl_Entry)) a1_0 a2_0 y hy
  · cases h

/-! spec.TakeEntries -/
def F_spec_TakeEntries_H (fu : Nat) (log_0 : (Sl S_impl_Entry)) (index_1 : Int) (term_2 : Int) (more_3 : (Sl S_impl_Entry)) : Option (S_impl_EntriesResult) :=
  ((F_spec_LogFault fu log_0).bind fun y8 => (bif (y8 != 0) then (some (⟨y8, (⟨(some true), 0, (fun _ => dflt .impl_Entry)⟩ : (Sl S_impl_Entry))⟩ : S_impl_EntriesResult)) else
    ((F_spec_LogFault fu more_3).bind fun y9 => (bif (y9 != 0) then (some (⟨y9, (⟨(some true), 0, (fun _ => dflt .impl_Entry)⟩ : (Sl S_impl_Entry))⟩ : S_impl_EntriesResult)) else
    ((F_spec_l7Fits fu log_0 index_1 term_2).bind fun y10 => (bif (!y10) then (some (⟨9, (⟨(some true), 0, (fun _ => dflt .impl_Entry)⟩ : (Sl S_impl_Entry))⟩ : S_impl_EntriesResult)) else
    (((bif (decide (((more_3.n : Nat) : Int) > 0)) then ((bif (decide (0 ≤ (0 : Int)) && decide ((Int.toNat 0) < more_3.n)) then some () else none : Option Unit).bind fun _ => (some (decide ((more_3.f (Int.toNat 0)).Term < term_2)))) else
    (some false)) : Option Bool).bind fun m11 => (bif m11 then (some (⟨1, (⟨(some true), 0, (fun _ => dflt .impl_Entry)⟩ : (Sl S_impl_Entry))⟩ : S_impl_EntriesResult)) else
    ((F_spec_l7Take_H fu log_0 index_1 more_3).bind fun y18 => (bif (decide (((y18.n : Nat) : Int) > 40)) then (some (⟨2, (⟨(some true), 0, (fun _ => dflt .impl_Entry)⟩ : (Sl S_impl_Entry))⟩ : S_impl_EntriesResult)) else
    (some (⟨0, (⟨none, y18.n, y18.f⟩ : (Sl S_impl_Entry))⟩ : S_impl_EntriesResult))))))))))))
def pcf_spec_TakeEntries_H (fu : Nat) (f : Nat) (xs : List (D RT den)) : Option (Out RT den) := match f with | 41 => S_spec_LogFault fu xs | 42 => S_spec_l7Fits fu xs | _ => none
def pcx_spec_TakeEntries_H (fu : Nat) (f : Nat) (xs : List (D RT den)) (ins : List (Ob RT den)) : Option (OutX RT den) := match f with | 43 => S_spec_l7Take_H fu xs ins | _ => none
def pc_spec_TakeEntries_H (fu : Nat) : Pc RT den := ⟨pcf_spec_TakeEntries_H fu, fun f => match f with | 43 => true | _ => false, fun _ => false, pcx_spec_TakeEntries_H fu⟩
def msk_spec_TakeEntries_H (b : Nat) : List Nat := match b with | 200009 => [40] | _ => []
def lp_spec_TakeEntries_H (fu : Nat) : Lp RT den (S_impl_EntriesResult) := fun b s k => none
theorem ev_spec_TakeEntries_H (fu : Nat) (log_0 : (Sl S_impl_Entry)) (index_1 : Int) (term_2 : Int) (more_3 : (Sl S_impl_Entry)) : evFunX E (pc_spec_TakeEntries_H fu) msk_spec_TakeEntries_H (lp_spec_TakeEntries_H fu) out_impl_EntriesResult_H 9 [(.rs log_0.z .impl_Entry log_0.n log_0.f), (.int .i64 index_1), (.int .i64 term_2), (.rs more_3.z .impl_Entry more_3.n more_3.f)] [] = F_spec_TakeEntries_H fu log_0 index_1 term_2 more_3 := by kernel_rfl
noncomputable def body_spec_TakeEntries_H : Code := Try.f9.body.getD .skip
theorem lpok_spec_TakeEntries_H (fu : Nat) : LpOk E (pc_spec_TakeEntries_H fu) msk_spec_TakeEntries_H (lp_spec_TakeEntries_H fu) (loops 0 body_spec_TakeEntries_H) := by
  have h : loops 0 body_spec_TakeEntries_H = [] := by kernel_rfl
  rw [h]; intro p hp; cases hp
def S_spec_TakeEntries_H (fu : Nat) (xs : List (D RT den)) (ins : List (Ob RT den)) : Option (OutX RT den) := match xs, ins with | [.rs za0_0 .impl_Entry na0_0 fa0_0, .int .i64 a1_0, .int .i64 a2_0, .rs za3_0 .impl_Entry na3_0 fa3_0], [] => some ⟨S_impl_EntriesResult, F_spec_TakeEntries_H fu (⟨za0_0, na0_0, fa0_0⟩ : (Sl S_impl_Entry)) a1_0 a2_0 (⟨za3_0, na3_0, fa3_0⟩ : (Sl S_impl_Entry)), enc_impl_EntriesResult_H⟩ | _, _ => none
theorem hpc_spec_TakeEntries_H (fu : Nat) : ∀ f xs o, pcf_spec_TakeEntries_H fu f xs = some o → ∀ y, o.x = some y → Good E Try.prog f xs (o.g y) := by
  intro f xs o h
  unfold pcf_spec_TakeEntries_H at h
  split at h
  · exact good_spec_LogFault fu xs o h
  · exact good_spec_l7Fits fu xs o h
  · cases h
theorem hpx_spec_TakeEntries_H (fu : Nat) : ∀ f xs ins o, pcx_spec_TakeEntries_H fu f xs ins = some o → ∀ y, o.x = some y → GoodX E Try.prog f xs ins (o.g y).1 (o.g y).2 := by
  intro f xs ins o h
  unfold pcx_spec_TakeEntries_H at h
  split at h
  · exact good_spec_l7Take_H fu xs ins o h
  · cases h
theorem goodv_spec_TakeEntries_H (fu : Nat) (log_0 : (Sl S_impl_Entry)) (index_1 : Int) (term_2 : Int) (more_3 : (Sl S_impl_Entry)) (y : S_impl_EntriesResult) (hy : F_spec_TakeEntries_H fu log_0 index_1 term_2 more_3 = some y) : GoodX E Try.prog 9 [(.rs log_0.z .impl_Entry log_0.n log_0.f), (.int .i64 index_1), (.int .i64 term_2), (.rs more_3.z .impl_Entry more_3.n more_3.f)] [] (enc_impl_EntriesResult_H y).1 (enc_impl_EntriesResult_H y).2 :=
  funX_good E_ok (pc_good (pc := pc_spec_TakeEntries_H fu) (hpc_spec_TakeEntries_H fu) (hpx_spec_TakeEntries_H fu)) (fn := Try.f9) (c := body_spec_TakeEntries_H) (out := out_impl_EntriesResult_H) (y := y) (by kernel_rfl) (by kernel_rfl) (by kernel_rfl) (lpok_spec_TakeEntries_H fu) (by kernel_rfl) (Nat.zero_le _) (fun d os hd => out_impl_EntriesResult_H_enc d os _ hd) ((ev_spec_TakeEntries_H fu log_0 index_1 term_2 more_3).trans hy)
theorem good_spec_TakeEntries_H (fu : Nat) : ∀ xs ins o, S_spec_TakeEntries_H fu xs ins = some o → ∀ y, o.x = some y → GoodX E Try.prog 9 xs ins (o.g y).1 (o.g y).2 := by
  intro xs ins o h y hy
  unfold S_spec_TakeEntries_H at h
  split at h
  · rename_i za0_0 na0_0 fa0_0 a1_0 a2_0 za3_0 na3_0 fa3_0
    cases h
    exact goodv_spec_TakeEntries_H fu (⟨za0_0, na0_0, fa0_0⟩ : (Sl S_impl_Entry)) a1_0 a2_0 (⟨za3_0, na3_0, fa3_0⟩ : (Sl S_impl_Entry)) y hy
  · cases h

/-! slices.Clone[[]impl.Entry,impl.Entry] -/
def F_slices_Clone_impl_Entry_impl_Entry_H_raw (fu : Nat) (s_0 : (Sl S_impl_Entry)) : Option ((Sl S_impl_Entry)) :=
  ((s_0.z).bind fun b83 => (bif b83 then (some (⟨(some true), 0, (fun _ => dflt .impl_Entry)⟩ : (Sl S_impl_Entry))) else (bif (decide (s_0.n ≤ 9223372036854775807) && decide (s_0.n * 72 ≤ 140737488355328)) then
    (some (⟨none, s_0.n, s_0.f⟩ : (Sl S_impl_Entry))) else none)))
def pcf_slices_Clone_impl_Entry_impl_Entry_H_raw (fu : Nat) (f : Nat) (xs : List (D RT den)) : Option (Out RT den) := none
def pcx_slices_Clone_impl_Entry_impl_Entry_H_raw (fu : Nat) (f : Nat) (xs : List (D RT den)) (ins : List (Ob RT den)) : Option (OutX RT den) := none
def pc_slices_Clone_impl_Entry_impl_Entry_H_raw (fu : Nat) : Pc RT den := ⟨pcf_slices_Clone_impl_Entry_impl_Entry_H_raw fu, fun _ => false, fun _ => false, pcx_slices_Clone_impl_Entry_impl_Entry_H_raw fu⟩
def msk_slices_Clone_impl_Entry_impl_Entry_H_raw (b : Nat) : List Nat := []
def lp_slices_Clone_impl_Entry_impl_Entry_H_raw (fu : Nat) : Lp RT den ((Sl S_impl_Entry)) := fun b s k => none
theorem ev_slices_Clone_impl_Entry_impl_Entry_H_raw (fu : Nat) (s_0 : (Sl S_impl_Entry)) : evFunX E (pc_slices_Clone_impl_Entry_impl_Entry_H_raw fu) msk_slices_Clone_impl_Entry_impl_Entry_H_raw (lp_slices_Clone_impl_Entry_impl_Entry_H_raw fu) out_sl_impl_Entry_H 71 [(.rs s_0.z .impl_Entry s_0.n s_0.f)] [] = F_slices_Clone_impl_Entry_impl_Entry_H_raw fu s_0 := by kernel_rfl
noncomputable def body_slices_Clone_impl_Entry_impl_Entry_H_raw : Code := Try.f71.body.getD .skip
theorem lpok_slices_Clone_impl_Entry_impl_Entry_H_raw (fu : Nat) : LpOk E (pc_slices_Clone_impl_Entry_impl_Entry_H_raw fu) msk_slices_Clone_impl_Entry_impl_Entry_H_raw (lp_slices_Clone_impl_Entry_impl_Entry_H_raw fu) (loops 0 body_slices_Clone_impl_Entry_impl_Entry_H_raw) := by
  have h : loops 0 body_slices_Clone_impl_Entry_impl_Entry_H_raw = [] := by kernel_rfl
  rw [h]; intro p hp; cases hp
def S_slices_Clone_impl_Entry_impl_Entry_H_raw (fu : Nat) (xs : List (D RT den)) (ins : List (Ob RT den)) : Option (OutX RT den) := match xs, ins with | [.rs za0_0 .impl_Entry na0_0 fa0_0], [] => some ⟨(Sl S_impl_Entry), F_slices_Clone_impl_Entry_impl_Entry_H_raw fu (⟨za0_0, na0_0, fa0_0⟩ : (Sl S_impl_Entry)), enc_sl_impl_Entry_H⟩ | _, _ => none
theorem hpc_slices_Clone_impl_Entry_impl_Entry_H_raw (fu : Nat) : ∀ f xs o, pcf_slices_Clone_impl_Entry_impl_Entry_H_raw fu f xs = some o → ∀ y, o.x = some y → Good E Try.prog f xs (o.g y) := by
  intro f xs o h
  cases h
theorem hpx_slices_Clone_impl_Entry_impl_Entry_H_raw (fu : Nat) : ∀ f xs ins o, pcx_slices_Clone_impl_Entry_impl_Entry_H_raw fu f xs ins = some o → ∀ y, o.x = some y → GoodX E Try.prog f xs ins (o.g y).1 (o.g y).2 := by
  intro f xs ins o h
  cases h
theorem goodv_slices_Clone_impl_Entry_impl_Entry_H_raw (fu : Nat) (s_0 : (Sl S_impl_Entry)) (y : (Sl S_impl_Entry)) (hy : F_slices_Clone_impl_Entry_impl_Entry_H_raw fu s_0 = some y) : GoodX E Try.prog 71 [(.rs s_0.z .impl_Entry s_0.n s_0.f)] [] (enc_sl_impl_Entry_H y).1 (enc_sl_impl_Entry_H y).2 :=
  funX_good E_ok (pc_good (pc := pc_slices_Clone_impl_Entry_impl_Entry_H_raw fu) (hpc_slices_Clone_impl_Entry_impl_Entry_H_raw fu) (hpx_slices_Clone_impl_Entry_impl_Entry_H_raw fu)) (fn := Try.f71) (c := body_slices_Clone_impl_Entry_impl_Entry_H_raw) (out := out_sl_impl_Entry_H) (y := y) (by kernel_rfl) (by kernel_rfl) (by kernel_rfl) (lpok_slices_Clone_impl_Entry_impl_Entry_H_raw fu) (by kernel_rfl) (Nat.zero_le _) (fun d os hd => out_sl_impl_Entry_H_enc d os _ hd) ((ev_slices_Clone_impl_Entry_impl_Entry_H_raw fu s_0).trans hy)
def F_slices_Clone_impl_Entry_impl_Entry_H (fu : Nat) (s_0 : (Sl S_impl_Entry)) : Option ((Sl S_impl_Entry)) := bif decide (s_0.n ≤ 9223372036854775807) && decide (s_0.n * 72 ≤ 140737488355328) then some ⟨none, s_0.n, s_0.f⟩ else none
def S_slices_Clone_impl_Entry_impl_Entry_H (fu : Nat) (xs : List (D RT den)) (ins : List (Ob RT den)) : Option (OutX RT den) := match xs, ins with | [.rs za0_0 .impl_Entry na0_0 fa0_0], [] => some ⟨(Sl S_impl_Entry), F_slices_Clone_impl_Entry_impl_Entry_H fu (⟨za0_0, na0_0, fa0_0⟩ : (Sl S_impl_Entry)), enc_sl_impl_Entry_H⟩ | _, _ => none
theorem good_slices_Clone_impl_Entry_impl_Entry_H (fu : Nat) : ∀ xs ins o, S_slices_Clone_impl_Entry_impl_Entry_H fu xs ins = some o → ∀ y, o.x = some y → GoodX E Try.prog 71 xs ins (o.g y).1 (o.g y).2 := by
  intro xs ins o h y hy
  unfold S_slices_Clone_impl_Entry_impl_Entry_H at h
  split at h
  · rename_i za0_0 na0_0 fa0_0
    cases h
    have hy : F_slices_Clone_impl_Entry_impl_Entry_H fu ⟨za0_0, na0_0, fa0_0⟩ = some y := hy
    unfold F_slices_Clone_impl_Entry_impl_Entry_H at hy
    dsimp only at hy
    cases hc : (decide (na0_0 ≤ 9223372036854775807) && decide (na0_0 * 72 ≤ 140737488355328)) with
    | false => rw [hc] at hy; cases hy
    | true =>
      rw [hc] at hy
      have hy := Option.some.inj hy; subst hy
      refine GoodX.clone (d0 := fun _ => dflt .impl_Entry) (goodv_slices_Clone_impl_Entry_impl_Entry_H_raw fu ⟨some true, na0_0, fa0_0⟩ ⟨some true, 0, fun _ => dflt .impl_Entry⟩ rfl) (goodv_slices_Clone_impl_Entry_impl_Entry_H_raw fu ⟨some false, na0_0, fa0_0⟩ ⟨none, na0_0, fa0_0⟩ ?_) _
      unfold F_slices_Clone_impl_Entry_impl_Entry_H_raw
      simp only [Option.bind_some, cond_false, hc, cond_true]
  · cases h

/-! impl.size[impl.Entry] -/
def F_impl_size_impl_Entry (fu : Nat) (list_0 : (Sl S_impl_Entry)) : Option (Int) :=
  (some ((list_0.n : Nat) : Int))
def pcf_impl_size_impl_Entry (fu : Nat) (f : Nat) (xs : List (D RT den)) : Option (Out RT den) := none
def pcx_impl_size_impl_Entry (fu : Nat) (f : Nat) (xs : List (D RT den)) (ins : List (Ob RT den)) : Option (OutX RT den) := none
def pc_impl_size_impl_Entry (fu : Nat) : Pc RT den := ⟨pcf_impl_size_impl_Entry fu, fun _ => false, fun _ => false, pcx_impl_size_impl_Entry fu⟩
def msk_impl_size_impl_Entry (b : Nat) : List Nat := []
def lp_impl_size_impl_Entry (fu : Nat) : Lp RT den (Int) := fun b s k => none
theorem ev_impl_size_impl_Entry (fu : Nat) (list_0 : (Sl S_impl_Entry)) : evFun E (pc_impl_size_impl_Entry fu) msk_impl_size_impl_Entry (lp_impl_size_impl_Entry fu) out_i64 80 [(.rs list_0.z .impl_Entry list_0.n list_0.f)] = F_impl_size_impl_Entry fu list_0 := by kernel_rfl
noncomputable def body_impl_size_impl_Entry : Code := Try.f80.body.getD .skip
theorem lpok_impl_size_impl_Entry (fu : Nat) : LpOk E (pc_impl_size_impl_Entry fu) msk_impl_size_impl_Entry (lp_impl_size_impl_Entry fu) (loops 0 body_impl_size_impl_Entry) := by
  have h : loops 0 body_impl_size_impl_Entry = [] := by kernel_rfl
  rw [h]; intro p hp; cases hp
def S_impl_size_impl_Entry (fu : Nat) (xs : List (D RT den)) : Option (Out RT den) := match xs with | [.rs za0_0 .impl_Entry na0_0 fa0_0] => some ⟨Int, F_impl_size_impl_Entry fu (⟨za0_0, na0_0, fa0_0⟩ : (Sl S_impl_Entry)), enc_i64, fun _ => true⟩ | _ => none
theorem hpc_impl_size_impl_Entry (fu : Nat) : ∀ f xs o, pcf_impl_size_impl_Entry fu f xs = some o → ∀ y, o.x = some y → Good E Try.prog f xs (o.g y) := by
  intro f xs o h
  cases h
theorem hpx_impl_size_impl_Entry (fu : Nat) : ∀ f xs ins o, pcx_impl_size_impl_Entry fu f xs ins = some o → ∀ y, o.x = some y → GoodX E Try.prog f xs ins (o.g y).1 (o.g y).2 := by
  intro f xs ins o h
  cases h
theorem goodv_impl_size_impl_Entry (fu : Nat) (list_0 : (Sl S_impl_Entry)) (y : Int) (hy : F_impl_size_impl_Entry fu list_0 = some y) : Good E Try.prog 80 [(.rs list_0.z .impl_Entry list_0.n list_0.f)] (enc_i64 y) :=
  fun_good E_ok (pc_good (pc := pc_impl_size_impl_Entry fu) (hpc_impl_size_impl_Entry fu) (hpx_impl_size_impl_Entry fu)) (fn := Try.f80) (c := body_impl_size_impl_Entry) (out := out_i64) (y := y) (by kernel_rfl) (by kernel_rfl) (by kernel_rfl) (lpok_impl_size_impl_Entry fu) (fun d hd => out_i64_enc d _ hd) ((ev_impl_size_impl_Entry fu list_0).trans hy)
theorem good_impl_size_impl_Entry (fu : Nat) : ∀ xs o, S_impl_size_impl_Entry fu xs = some o → ∀ y, o.x = some y → Good E Try.prog 80 xs (o.g y) := by
  intro xs o h y hy
  unfold S_impl_size_impl_Entry at h
  split at h
  · rename_i za0_0 na0_0 fa0_0
    cases h
    exact goodv_impl_size_impl_Entry fu (⟨za0_0, na0_0, fa0_0⟩ : (Sl S_impl_Entry)) y hy
  · cases h
end Go.Proofs.Ytmdjkdgjmbfegaa.Pc
