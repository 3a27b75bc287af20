/- The functions' evaluated forms, each a proved summary. Conditions: none. -/
import Derived.Test.YtohlgllpplbehaaPcT
namespace Go.Proofs.Ytohlgllpplbehaa.Pc
open Go Go.RowKit Go.Proofs Vm
set_option linter.unusedVariables false
set_option linter.unusedSimpArgs false
set_option maxRecDepth 100000
/-! laws.toCmd -/
def F_laws_toCmd (fu : Nat) (a_0 : S_impl_Cmd) : Option (S_impl_Cmd) :=
  (some a_0)
def pcf_laws_toCmd (fu : Nat) (f : Nat) (xs : List (D RT den)) : Option (Out RT den) := none
def pcx_laws_toCmd (fu : Nat) (f : Nat) (xs : List (D RT den)) (ins : List (Ob RT den)) : Option (OutX RT den) := none
def pc_laws_toCmd (fu : Nat) : Pc RT den := ⟨pcf_laws_toCmd fu, fun _ => false, fun _ => false, pcx_laws_toCmd fu⟩
def msk_laws_toCmd (b : Nat) : List Nat := []
def lp_laws_toCmd (fu : Nat) : Lp RT den (S_impl_Cmd) := fun b s k => none
theorem ev_laws_toCmd (fu : Nat) (a_0 : S_impl_Cmd) : evFun E (pc_laws_toCmd fu) msk_laws_toCmd (lp_laws_toCmd fu) out_impl_Cmd 59 [(.agg [(.int .i64 a_0.Kind), (.int .i64 a_0.Expect), (.int .i64 a_0.Name), (.int .i64 a_0.Addr), (.int .i64 a_0.Number), (.int .i64 a_0.Proto)])] = F_laws_toCmd fu a_0 := by kernel_rfl
noncomputable def body_laws_toCmd : Code := Try.f59.body.getD .skip
theorem lpok_laws_toCmd (fu : Nat) : LpOk E (pc_laws_toCmd fu) msk_laws_toCmd (lp_laws_toCmd fu) (loops 0 body_laws_toCmd) := by
  have h : loops 0 body_laws_toCmd = [] := by kernel_rfl
  rw [h]; intro p hp; cases hp
def S_laws_toCmd (fu : Nat) (xs : List (D RT den)) : Option (Out RT den) := match xs with | [.agg [.int .i64 a0_1, .int .i64 a0_2, .int .i64 a0_3, .int .i64 a0_4, .int .i64 a0_5, .int .i64 a0_6]] => some ⟨S_impl_Cmd, F_laws_toCmd fu (⟨a0_1, a0_2, a0_3, a0_4, a0_5, a0_6⟩ : S_impl_Cmd), enc_impl_Cmd, fun _ => true⟩ | _ => none
theorem hpc_laws_toCmd (fu : Nat) : ∀ f xs o, pcf_laws_toCmd fu f xs = some o → ∀ y, o.x = some y → Good E Try.prog f xs (o.g y) := by
  intro f xs o h
  cases h
theorem hpx_laws_toCmd (fu : Nat) : ∀ f xs ins o, pcx_laws_toCmd fu f xs ins = some o → ∀ y, o.x = some y → GoodX E Try.prog f xs ins (o.g y).1 (o.g y).2 := by
  intro f xs ins o h
  cases h
theorem goodv_laws_toCmd (fu : Nat) (a_0 : S_impl_Cmd) (y : S_impl_Cmd) (hy : F_laws_toCmd fu a_0 = some y) : Good E Try.prog 59 [(.agg [(.int .i64 a_0.Kind), (.int .i64 a_0.Expect), (.int .i64 a_0.Name), (.int .i64 a_0.Addr), (.int .i64 a_0.Number), (.int .i64 a_0.Proto)])] (enc_impl_Cmd y) :=
  fun_good E_ok (pc_good (pc := pc_laws_toCmd fu) (hpc_laws_toCmd fu) (hpx_laws_toCmd fu)) (fn := Try.f59) (c := body_laws_toCmd) (out := out_impl_Cmd) (y := y) (by kernel_rfl) (by kernel_rfl) (by kernel_rfl) (lpok_laws_toCmd fu) (fun d hd => out_impl_Cmd_enc d _ hd) ((ev_laws_toCmd fu a_0).trans hy)
theorem good_laws_toCmd (fu : Nat) : ∀ xs o, S_laws_toCmd fu xs = some o → ∀ y, o.x = some y → Good E Try.prog 59 xs (o.g y) := by
  intro xs o h y hy
  unfold S_laws_toCmd at h
  split at h
  · rename_i a0_1 a0_2 a0_3 a0_4 a0_5 a0_6
    cases h
    exact goodv_laws_toCmd fu (⟨a0_1, a0_2, a0_3, a0_4, a0_5, a0_6⟩ : S_impl_Cmd) y hy
  · cases h

/-! laws.toEntry -/
def F_laws_toEntry (fu : Nat) (a_0 : S_laws_Entry) : Option (S_impl_Entry) :=
  ((F_laws_toCmd fu a_0.Cmd).bind fun y6 => (some (⟨a_0.Term, a_0.Client, a_0.Seq, y6⟩ : S_impl_Entry)))
def pcf_laws_toEntry (fu : Nat) (f : Nat) (xs : List (D RT den)) : Option (Out RT den) := match f with | 59 => S_laws_toCmd fu xs | _ => none
def pcx_laws_toEntry (fu : Nat) (f : Nat) (xs : List (D RT den)) (ins : List (Ob RT den)) : Option (OutX RT den) := none
def pc_laws_toEntry (fu : Nat) : Pc RT den := ⟨pcf_laws_toEntry fu, fun _ => false, fun _ => false, pcx_laws_toEntry fu⟩
def msk_laws_toEntry (b : Nat) : List Nat := []
def lp_laws_toEntry (fu : Nat) : Lp RT den (S_impl_Entry) := fun b s k => none
theorem ev_laws_toEntry (fu : Nat) (a_0 : S_laws_Entry) : evFun E (pc_laws_toEntry fu) msk_laws_toEntry (lp_laws_toEntry fu) out_impl_Entry 18 [(.agg [(.int .i64 a_0.Term), (.int .i64 a_0.Client), (.int .i64 a_0.Seq), (.int .i64 a_0.Cmd.Kind), (.int .i64 a_0.Cmd.Expect), (.int .i64 a_0.Cmd.Name), (.int .i64 a_0.Cmd.Addr), (.int .i64 a_0.Cmd.Number), (.int .i64 a_0.Cmd.Proto)])] = F_laws_toEntry fu a_0 := by kernel_rfl
noncomputable def body_laws_toEntry : Code := Try.f18.body.getD .skip
theorem lpok_laws_toEntry (fu : Nat) : LpOk E (pc_laws_toEntry fu) msk_laws_toEntry (lp_laws_toEntry fu) (loops 0 body_laws_toEntry) := by
  have h : loops 0 body_laws_toEntry = [] := by kernel_rfl
  rw [h]; intro p hp; cases hp
def S_laws_toEntry (fu : Nat) (xs : List (D RT den)) : Option (Out RT den) := match xs with | [.agg [.int .i64 a0_1, .int .i64 a0_2, .int .i64 a0_3, .int .i64 a0_5, .int .i64 a0_6, .int .i64 a0_7, .int .i64 a0_8, .int .i64 a0_9, .int .i64 a0_10]] => some ⟨S_impl_Entry, F_laws_toEntry fu (⟨a0_1, a0_2, a0_3, (⟨a0_5, a0_6, a0_7, a0_8, a0_9, a0_10⟩ : S_impl_Cmd)⟩ : S_laws_Entry), enc_impl_Entry, fun _ => true⟩ | _ => none
theorem hpc_laws_toEntry (fu : Nat) : ∀ f xs o, pcf_laws_toEntry fu f xs = some o → ∀ y, o.x = some y → Good E Try.prog f xs (o.g y) := by
  intro f xs o h
  unfold pcf_laws_toEntry at h
  split at h
  · exact good_laws_toCmd fu xs o h
  · cases h
theorem hpx_laws_toEntry (fu : Nat) : ∀ f xs ins o, pcx_laws_toEntry fu f xs ins = some o → ∀ y, o.x = some y → GoodX E Try.prog f xs ins (o.g y).1 (o.g y).2 := by
  intro f xs ins o h
  cases h
theorem goodv_laws_toEntry (fu : Nat) (a_0 : S_laws_Entry) (y : S_impl_Entry) (hy : F_laws_toEntry fu a_0 = some y) : Good E Try.prog 18 [(.agg [(.int .i64 a_0.Term), (.int .i64 a_0.Client), (.int .i64 a_0.Seq), (.int .i64 a_0.Cmd.Kind), (.int .i64 a_0.Cmd.Expect), (.int .i64 a_0.Cmd.Name), (.int .i64 a_0.Cmd.Addr), (.int .i64 a_0.Cmd.Number), (.int .i64 a_0.Cmd.Proto)])] (enc_impl_Entry y) :=
  fun_good E_ok (pc_good (pc := pc_laws_toEntry fu) (hpc_laws_toEntry fu) (hpx_laws_toEntry fu)) (fn := Try.f18) (c := body_laws_toEntry) (out := out_impl_Entry) (y := y) (by kernel_rfl) (by kernel_rfl) (by kernel_rfl) (lpok_laws_toEntry fu) (fun d hd => out_impl_Entry_enc d _ hd) ((ev_laws_toEntry fu a_0).trans hy)
theorem good_laws_toEntry (fu : Nat) : ∀ xs o, S_laws_toEntry fu xs = some o → ∀ y, o.x = some y → Good E Try.prog 18 xs (o.g y) := by
  intro xs o h y hy
  unfold S_laws_toEntry at h
  split at h
  · rename_i a0_1 a0_2 a0_3 a0_5 a0_6 a0_7 a0_8 a0_9 a0_10
    cases h
    exact goodv_laws_toEntry fu (⟨a0_1, a0_2, a0_3, (⟨a0_5, a0_6, a0_7, a0_8, a0_9, a0_10⟩ : S_impl_Cmd)⟩ : S_laws_Entry) y hy
  · cases h

/-! laws.toEntryS -/
def F_laws_toEntryS_H_B0 {ρ : Type} (fu : Nat) (a0_0 : (Sl S_laws_Entry)) (out3_1 : Nat) (on0_3 : Nat) (k0 : (Nat → S_impl_Entry) → Option ρ) (i4_2 : Int) (of0_4 : (Nat → S_impl_Entry)) (go : Int → (Nat → S_impl_Entry) → Option ρ) : Option ρ :=
  (bif (decide (i4_2 < ((a0_0.n : Nat) : Int))) then ((bif (decide (0 ≤ i4_2) && decide ((Int.toNat i4_2) < a0_0.n)) then some () else none : Option Unit).bind fun _ =>
    ((F_laws_toEntry fu (a0_0.f (Int.toNat i4_2))).bind fun y4 => ((bif (decide (0 ≤ i4_2) && decide ((Int.toNat i4_2) < out3_1)) then some () else none : Option Unit).bind fun _ =>
    (go (IntKind.wrap .i64 (i4_2 + 1)) (fun j => if j = (Int.toNat i4_2) then y4 else of0_4 j))))) else (k0 of0_4))
def F_laws_toEntryS_H (fu : Nat) (a_0 : (Sl S_laws_Entry)) : Option ((Sl S_impl_Entry)) :=
  (bif (decide (0 ≤ ((a_0.n : Nat) : Int)) && (decide (((a_0.n : Nat) : Int) = ((a_0.n : Nat) : Int)) && (decide ((72 : Int) * ((a_0.n : Nat) : Int) ≤ 281474976710656) && decide (((a_0.n : Nat) : Int) ≤ 9223372036854775807)))) then
    (L (fun w0 go0 => F_laws_toEntryS_H_B0 fu a_0 (Int.toNat ((a_0.n : Nat) : Int)) (Int.toNat ((a_0.n : Nat) : Int)) (fun z5 => (some (⟨none, (Int.toNat ((a_0.n : Nat) : Int)), z5⟩ : (Sl S_impl_Entry)))) w0.1 w0.2 (fun q0 q1 =>
    go0 (q0, q1))) fu ((0, (fun _ => (⟨0, 0, 0, (⟨0, 0, 0, 0, 0, 0⟩ : S_impl_Cmd)⟩ : S_impl_Entry))) : Int × (Nat → S_impl_Entry))) else none)
def pcf_laws_toEntryS_H (fu : Nat) (f : Nat) (xs : List (D RT den)) : Option (Out RT den) := match f with | 18 => S_laws_toEntry fu xs | _ => none
def pcx_laws_toEntryS_H (fu : Nat) (f : Nat) (xs : List (D RT den)) (ins : List (Ob RT den)) : Option (OutX RT den) := none
def pc_laws_toEntryS_H (fu : Nat) : Pc RT den := ⟨pcf_laws_toEntryS_H fu, fun _ => false, fun _ => false, pcx_laws_toEntryS_H fu⟩
def msk_laws_toEntryS_H (b : Nat) : List Nat := match b with | 0 => [1, 2, 5, 6, 7, 8, 9, 10, 11, 12, 13, 14, 15, 16, 17, 18, 19, 20, 21, 22] | 100000 => [0, 1, 4, 5, 6, 7, 8, 9, 10, 11, 12, 13, 14, 15, 16, 17, 18, 19, 20, 21, 22] | _ => []
def ps_laws_toEntryS_H_0 : List (Pat RT) := [.flat (.rs .laws_Entry), .flat .dead, .flat .dead, .flat (.os 0), .flat (.int .i64), .flat .dead, .flat .dead, .flat .dead, .flat .dead, .flat .dead, .flat .dead, .flat .dead, .flat .dead, .flat .dead, .flat .dead, .flat .dead, .flat .dead, .flat .dead, .flat .dead, .flat .dead, .flat .dead, .flat .dead, .flat .dead]
def os_laws_toEntryS_H_0 : List (OP RT) := [.row false .impl_Entry]
def conv_laws_toEntryS_H_0 (r : Raw den ps_laws_toEntryS_H_0 os_laws_toEntryS_H_0) : ((Sl S_laws_Entry) × Nat × Nat) × (Int × (Nat → S_impl_Entry)) := ((r.1.1, r.1.2.2.2.1, r.2.1.1), (r.1.2.2.2.2.1, r.2.1.2))
def back_laws_toEntryS_H_0 (c : (Sl S_laws_Entry) × Nat × Nat) (w : Int × (Nat → S_impl_Entry)) : St RT den := ⟨[(.rs c.1.z .laws_Entry c.1.n c.1.f), .dead, .dead, (.os 0 c.2.1), (.int .i64 w.1), .dead, .dead, .dead, .dead, .dead, .dead, .dead, .dead, .dead, .dead, .dead, .dead, .dead, .dead, .dead, .dead, .dead, .dead], [(.row false .impl_Entry c.2.2 w.2)]⟩
def Bk_laws_toEntryS_H_0 {ρ : Type} (fu : Nat) (c : (Sl S_laws_Entry) × Nat × Nat) (k : Ex → St RT den → Option ρ) (w : Int × (Nat → S_impl_Entry)) (go : (Int × (Nat → S_impl_Entry)) → Option ρ) : Option ρ := F_laws_toEntryS_H_B0 fu c.1 c.2.1 c.2.2 (fun a0 => k (.exit 0) ⟨[.dead, .dead, .dead, (.os 0 c.2.1), .dead, .dead, .dead, .dead, .dead, .dead, .dead, .dead, .dead, .dead, .dead, .dead, .dead, .dead, .dead, .dead, .dead, .dead, .dead], [(.row false .impl_Entry c.2.2 a0)]⟩) w.1 w.2 (fun q0 q1 => go (q0, q1))
def lp_laws_toEntryS_H (fu : Nat) : Lp RT den ((Sl S_impl_Entry)) := fun b s k => match b with | 0 => handle ps_laws_toEntryS_H_0 os_laws_toEntryS_H_0 conv_laws_toEntryS_H_0 (Bk_laws_toEntryS_H_0 fu) fu s k | _ => none
theorem ev_laws_toEntryS_H (fu : Nat) (a_0 : (Sl S_laws_Entry)) : evFunX E false (pc_laws_toEntryS_H fu) msk_laws_toEntryS_H (lp_laws_toEntryS_H fu) out_sl_impl_Entry_H 40 [(.rs a_0.z .laws_Entry a_0.n a_0.f)] [] = F_laws_toEntryS_H fu a_0 := by kernel_rfl
noncomputable def body_laws_toEntryS_H : Code := Try.f40.body.getD .skip
noncomputable def lc_laws_toEntryS_H_0 : Code := ((loops 0 body_laws_toEntryS_H).getD 0 (0, .skip)).2
theorem round_laws_toEntryS_H_0 (fu : Nat) (it : St RT den → Option ((Sl S_impl_Entry))) (k : Ex → St RT den → Option ((Sl S_impl_Entry))) c w : evCode E (pc_laws_toEntryS_H fu) msk_laws_toEntryS_H (lp_laws_toEntryS_H fu) 0 lc_laws_toEntryS_H_0 (back_laws_toEntryS_H_0 c w) (after (msk_laws_toEntryS_H 0) (msk_laws_toEntryS_H 100000) 1 it k) = Bk_laws_toEntryS_H_0 fu c k w (fun w => it (back_laws_toEntryS_H_0 c w)) := by kernel_rfl
theorem lpok_laws_toEntryS_H_0 (fu : Nat) : ∀ s k r, lp_laws_toEntryS_H fu 0 s k = some r → ∃ fuel, iter (msk_laws_toEntryS_H 0) (msk_laws_toEntryS_H 100000) s.objs.length (evCode E (pc_laws_toEntryS_H fu) msk_laws_toEntryS_H (lp_laws_toEntryS_H fu) 0 lc_laws_toEntryS_H_0) fuel s k = some r :=
  handle_ok (ps := ps_laws_toEntryS_H_0) (os := os_laws_toEntryS_H_0) (conv := conv_laws_toEntryS_H_0) (B := Bk_laws_toEntryS_H_0 fu) (fu := fu) back_laws_toEntryS_H_0 (fun raw => by kernel_rfl) 1 (fun c w => by kernel_rfl) (round_laws_toEntryS_H_0 fu)
theorem lpok_laws_toEntryS_H (fu : Nat) : LpOk E (pc_laws_toEntryS_H fu) msk_laws_toEntryS_H (lp_laws_toEntryS_H fu) (loops 0 body_laws_toEntryS_H) := loop_all 1 (by kernel_rfl) fun i hi => match i, hi with
  | 0, _ => by
    have h : (loops 0 body_laws_toEntryS_H).getD 0 (0, .skip) = (0, lc_laws_toEntryS_H_0) := by kernel_rfl
    rw [h]; exact lpok_laws_toEntryS_H_0 fu
  | i + 1, hi => absurd hi (by omega)
def S_laws_toEntryS_H (fu : Nat) (xs : List (D RT den)) (ins : List (Ob RT den)) : Option (OutX RT den) := match xs, ins with | [.rs za0_0 .laws_Entry na0_0 fa0_0], [] => some ⟨(Sl S_impl_Entry), F_laws_toEntryS_H fu (⟨za0_0, na0_0, fa0_0⟩ : (Sl S_laws_Entry)), enc_sl_impl_Entry_H⟩ | _, _ => none
theorem hpc_laws_toEntryS_H (fu : Nat) : ∀ f xs o, pcf_laws_toEntryS_H fu f xs = some o → ∀ y, o.x = some y → Good E Try.prog f xs (o.g y) := by
  intro f xs o h
  unfold pcf_laws_toEntryS_H at h
  split at h
  · exact good_laws_toEntry fu xs o h
  · cases h
theorem hpx_laws_toEntryS_H (fu : Nat) : ∀ f xs ins o, pcx_laws_toEntryS_H fu f xs ins = some o → ∀ y, o.x = some y → GoodX E Try.prog f xs ins (o.g y).1 (o.g y).2 := by
  intro f xs ins o h
  cases h
theorem goodv_laws_toEntryS_H (fu : Nat) (a_0 : (Sl S_laws_Entry)) (y : (Sl S_impl_Entry)) (hy : F_laws_toEntryS_H fu a_0 = some y) : GoodX E Try.prog 40 [(.rs a_0.z .laws_Entry a_0.n a_0.f)] [] (enc_sl_impl_Entry_H y).1 (enc_sl_impl_Entry_H y).2 :=
  funX_good (ke := false) E_ok (pc_good (pc := pc_laws_toEntryS_H fu) (hpc_laws_toEntryS_H fu) (hpx_laws_toEntryS_H fu)) (fn := Try.f40) (c := body_laws_toEntryS_H) (out := out_sl_impl_Entry_H) (y := y) (by kernel_rfl) (by kernel_rfl) (by kernel_rfl) (lpok_laws_toEntryS_H fu) (by kernel_rfl) (Nat.zero_le _) (fun d os hd => out_sl_impl_Entry_H_enc d os _ hd) ((ev_laws_toEntryS_H fu a_0).trans hy)
theorem good_laws_toEntryS_H (fu : Nat) : ∀ xs ins o, S_laws_toEntryS_H fu xs ins = some o → ∀ y, o.x = some y → GoodX E Try.prog 40 xs ins (o.g y).1 (o.g y).2 := by
  intro xs ins o h y hy
  unfold S_laws_toEntryS_H at h
  split at h
  · rename_i za0_0 na0_0 fa0_0
    cases h
    exact goodv_laws_toEntryS_H fu (⟨za0_0, na0_0, fa0_0⟩ : (Sl S_laws_Entry)) y hy
  · cases h

/-! laws.toInt64S -/
def F_laws_toInt64S_H_B0 {ρ : Type} (fu : Nat) (a0_0 : (Sl Int)) (out3_1 : Nat) (on0_3 : Nat) (k0 : (Nat → Int) → Option ρ) (i4_2 : Int) (of0_4 : (Nat → Int)) (go : Int → (Nat → Int) → Option ρ) : Option ρ :=
  (bif (decide (i4_2 < ((a0_0.n : Nat) : Int))) then ((bif (decide (0 ≤ i4_2) && decide ((Int.toNat i4_2) < a0_0.n)) then some () else none : Option Unit).bind fun _ => ((bif (decide (0 ≤ i4_2) &&
    decide ((Int.toNat i4_2) < out3_1)) then some () else none : Option Unit).bind fun _ => (go (IntKind.wrap .i64 (i4_2 + 1)) (fun j => if j = (Int.toNat i4_2) then (a0_0.f (Int.toNat i4_2)) else
    of0_4 j)))) else (k0 of0_4))
def F_laws_toInt64S_H (fu : Nat) (a_0 : (Sl Int)) : Option ((Sl Int)) :=
  (bif (decide (0 ≤ ((a_0.n : Nat) : Int)) && (decide (((a_0.n : Nat) : Int) = ((a_0.n : Nat) : Int)) && (decide ((8 : Int) * ((a_0.n : Nat) : Int) ≤ 281474976710656) && decide (((a_0.n : Nat) : Int) ≤ 9223372036854775807)))) then
    (L (fun w0 go0 => F_laws_toInt64S_H_B0 fu a_0 (Int.toNat ((a_0.n : Nat) : Int)) (Int.toNat ((a_0.n : Nat) : Int)) (fun z9 => (some (⟨none, (Int.toNat ((a_0.n : Nat) : Int)), z9⟩ : (Sl Int)))) w0.1 w0.2 (fun q0 q1 =>
    go0 (q0, q1))) fu ((0, (fun _ => 0)) : Int × (Nat → Int))) else none)
def pcf_laws_toInt64S_H (fu : Nat) (f : Nat) (xs : List (D RT den)) : Option (Out RT den) := none
def pcx_laws_toInt64S_H (fu : Nat) (f : Nat) (xs : List (D RT den)) (ins : List (Ob RT den)) : Option (OutX RT den) := none
def pc_laws_toInt64S_H (fu : Nat) : Pc RT den := ⟨pcf_laws_toInt64S_H fu, fun _ => false, fun _ => false, pcx_laws_toInt64S_H fu⟩
def msk_laws_toInt64S_H (b : Nat) : List Nat := match b with | 0 => [1, 2, 5, 6, 7, 8, 9, 10, 11, 12, 13, 14, 15, 16, 17, 18, 19, 20, 21] | 100000 => [0, 1, 4, 5, 6, 7, 8, 9, 10, 11, 12, 13, 14, 15, 16, 17, 18, 19, 20, 21] | _ => []
def ps_laws_toInt64S_H_0 : List (Pat RT) := [.flat (.rs .i64), .flat .dead, .flat .dead, .flat (.os 0), .flat (.int .i64), .flat .dead, .flat .dead, .flat .dead, .flat .dead, .flat .dead, .flat .dead, .flat .dead, .flat .dead, .flat .dead, .flat .dead, .flat .dead, .flat .dead, .flat .dead, .flat .dead, .flat .dead, .flat .dead, .flat .dead]
def os_laws_toInt64S_H_0 : List (OP RT) := [.row false .i64]
def conv_laws_toInt64S_H_0 (r : Raw den ps_laws_toInt64S_H_0 os_laws_toInt64S_H_0) : ((Sl Int) × Nat × Nat) × (Int × (Nat → Int)) := ((r.1.1, r.1.2.2.2.1, r.2.1.1), (r.1.2.2.2.2.1, r.2.1.2))
def back_laws_toInt64S_H_0 (c : (Sl Int) × Nat × Nat) (w : Int × (Nat → Int)) : St RT den := ⟨[(.rs c.1.z .i64 c.1.n c.1.f), .dead, .dead, (.os 0 c.2.1), (.int .i64 w.1), .dead, .dead, .dead, .dead, .dead, .dead, .dead, .dead, .dead, .dead, .dead, .dead, .dead, .dead, .dead, .dead, .dead], [(.row false .i64 c.2.2 w.2)]⟩
def Bk_laws_toInt64S_H_0 {ρ : Type} (fu : Nat) (c : (Sl Int) × Nat × Nat) (k : Ex → St RT den → Option ρ) (w : Int × (Nat → Int)) (go : (Int × (Nat → Int)) → Option ρ) : Option ρ := F_laws_toInt64S_H_B0 fu c.1 c.2.1 c.2.2 (fun a0 => k (.exit 0) ⟨[.dead, .dead, .dead, (.os 0 c.2.1), .dead, .dead, .dead, .dead, .dead, .dead, .dead, .dead, .dead, .dead, .dead, .dead, .dead, .dead, .dead, .dead, .dead, .dead], [(.row false .i64 c.2.2 a0)]⟩) w.1 w.2 (fun q0 q1 => go (q0, q1))
def lp_laws_toInt64S_H (fu : Nat) : Lp RT den ((Sl Int)) := fun b s k => match b with | 0 => handle ps_laws_toInt64S_H_0 os_laws_toInt64S_H_0 conv_laws_toInt64S_H_0 (Bk_laws_toInt64S_H_0 fu) fu s k | _ => none
theorem ev_laws_toInt64S_H (fu : Nat) (a_0 : (Sl Int)) : evFunX E false (pc_laws_toInt64S_H fu) msk_laws_toInt64S_H (lp_laws_toInt64S_H fu) out_sl_i64_H 41 [(.rs a_0.z .i64 a_0.n a_0.f)] [] = F_laws_toInt64S_H fu a_0 := by kernel_rfl
noncomputable def body_laws_toInt64S_H : Code := Try.f41.body.getD .skip
noncomputable def lc_laws_toInt64S_H_0 : Code := ((loops 0 body_laws_toInt64S_H).getD 0 (0, .skip)).2
theorem round_laws_toInt64S_H_0 (fu : Nat) (it : St RT den → Option ((Sl Int))) (k : Ex → St RT den → Option ((Sl Int))) c w : evCode E (pc_laws_toInt64S_H fu) msk_laws_toInt64S_H (lp_laws_toInt64S_H fu) 0 lc_laws_toInt64S_H_0 (back_laws_toInt64S_H_0 c w) (after (msk_laws_toInt64S_H 0) (msk_laws_toInt64S_H 100000) 1 it k) = Bk_laws_toInt64S_H_0 fu c k w (fun w => it (back_laws_toInt64S_H_0 c w)) := by kernel_rfl
theorem lpok_laws_toInt64S_H_0 (fu : Nat) : ∀ s k r, lp_laws_toInt64S_H fu 0 s k = some r → ∃ fuel, iter (msk_laws_toInt64S_H 0) (msk_laws_toInt64S_H 100000) s.objs.length (evCode E (pc_laws_toInt64S_H fu) msk_laws_toInt64S_H (lp_laws_toInt64S_H fu) 0 lc_laws_toInt64S_H_0) fuel s k = some r :=
  handle_ok (ps := ps_laws_toInt64S_H_0) (os := os_laws_toInt64S_H_0) (conv := conv_laws_toInt64S_H_0) (B := Bk_laws_toInt64S_H_0 fu) (fu := fu) back_laws_toInt64S_H_0 (fun raw => by kernel_rfl) 1 (fun c w => by kernel_rfl) (round_laws_toInt64S_H_0 fu)
theorem lpok_laws_toInt64S_H (fu : Nat) : LpOk E (pc_laws_toInt64S_H fu) msk_laws_toInt64S_H (lp_laws_toInt64S_H fu) (loops 0 body_laws_toInt64S_H) := loop_all 1 (by kernel_rfl) fun i hi => match i, hi with
  | 0, _ => by
    have h : (loops 0 body_laws_toInt64S_H).getD 0 (0, .skip) = (0, lc_laws_toInt64S_H_0) := by kernel_rfl
    rw [h]; exact lpok_laws_toInt64S_H_0 fu
  | i + 1, hi => absurd hi (by omega)
def S_laws_toInt64S_H (fu : Nat) (xs : List (D RT den)) (ins : List (Ob RT den)) : Option (OutX RT den) := match xs, ins with | [.rs za0_0 .i64 na0_0 fa0_0], [] => some ⟨(Sl Int), F_laws_toInt64S_H fu (⟨za0_0, na0_0, fa0_0⟩ : (Sl Int)), enc_sl_i64_H⟩ | _, _ => none
theorem hpc_laws_toInt64S_H (fu : Nat) : ∀ f xs o, pcf_laws_toInt64S_H fu f xs = some o → ∀ y, o.x = some y → Good E Try.prog f xs (o.g y) := by
  intro f xs o h
  cases h
theorem hpx_laws_toInt64S_H (fu : Nat) : ∀ f xs ins o, pcx_laws_toInt64S_H fu f xs ins = some o → ∀ y, o.x = some y → GoodX E Try.prog f xs ins (o.g y).1 (o.g y).2 := by
  intro f xs ins o h
  cases h
theorem goodv_laws_toInt64S_H (fu : Nat) (a_0 : (Sl Int)) (y : (Sl Int)) (hy : F_laws_toInt64S_H fu a_0 = some y) : GoodX E Try.prog 41 [(.rs a_0.z .i64 a_0.n a_0.f)] [] (enc_sl_i64_H y).1 (enc_sl_i64_H y).2 :=
  funX_good (ke := false) E_ok (pc_good (pc := pc_laws_toInt64S_H fu) (hpc_laws_toInt64S_H fu) (hpx_laws_toInt64S_H fu)) (fn := Try.f41) (c := body_laws_toInt64S_H) (out := out_sl_i64_H) (y := y) (by kernel_rfl) (by kernel_rfl) (by kernel_rfl) (lpok_laws_toInt64S_H fu) (by kernel_rfl) (Nat.zero_le _) (fun d os hd => out_sl_i64_H_enc d os _ hd) ((ev_laws_toInt64S_H fu a_0).trans hy)
theorem good_laws_toInt64S_H (fu : Nat) : ∀ xs ins o, S_laws_toInt64S_H fu xs ins = some o → ∀ y, o.x = some y → GoodX E Try.prog 41 xs ins (o.g y).1 (o.g y).2 := by
  intro xs ins o h y hy
  unfold S_laws_toInt64S_H at h
  split at h
  · rename_i za0_0 na0_0 fa0_0
    cases h
    exact goodv_laws_toInt64S_H fu (⟨za0_0, na0_0, fa0_0⟩ : (Sl Int)) y hy
  · cases h

/-! laws.toNode -/
def F_laws_toNode_H (fu : Nat) (a_0 : S_laws_Node) : Option (S_impl_Node) :=
  ((F_laws_toEntryS_H fu a_0.Log).bind fun y13 => ((F_laws_toInt64S_H fu a_0.Votes).bind fun y14 => ((F_laws_toInt64S_H fu a_0.Next).bind fun y15 => ((F_laws_toInt64S_H fu a_0.Match).bind fun y16 =>
    (some (⟨a_0.Id, a_0.Peers, a_0.Term, a_0.Voted, (⟨none, y13.n, y13.f⟩ : (Sl S_impl_Entry)), a_0.Role, a_0.Commit, (⟨none, y14.n, y14.f⟩ : (Sl Int)), (⟨none, y15.n, y15.f⟩ : (Sl Int)),
    (⟨none, y16.n, y16.f⟩ : (Sl Int))⟩ : S_impl_Node))))))
def pcf_laws_toNode_H (fu : Nat) (f : Nat) (xs : List (D RT den)) : Option (Out RT den) := none
def pcx_laws_toNode_H (fu : Nat) (f : Nat) (xs : List (D RT den)) (ins : List (Ob RT den)) : Option (OutX RT den) := match f with | 40 => S_laws_toEntryS_H fu xs ins | 41 => S_laws_toInt64S_H fu xs ins | _ => none
def pc_laws_toNode_H (fu : Nat) : Pc RT den := ⟨pcf_laws_toNode_H fu, fun f => match f with | 40 => true | 41 => true | _ => false, fun _ => false, pcx_laws_toNode_H fu⟩
def msk_laws_toNode_H (b : Nat) : List Nat := []
def lp_laws_toNode_H (fu : Nat) : Lp RT den (S_impl_Node) := fun b s k => none
theorem ev_laws_toNode_H (fu : Nat) (a_0 : S_laws_Node) : evFunX E false (pc_laws_toNode_H fu) msk_laws_toNode_H (lp_laws_toNode_H fu) out_impl_Node_H 10 [(.agg [(.int .i64 a_0.Id), (.int .i64 a_0.Peers), (.int .i64 a_0.Term), (.int .i64 a_0.Voted), (.rs a_0.Log.z .laws_Entry a_0.Log.n a_0.Log.f), (.int .i64 a_0.Role), (.int .i64 a_0.Commit), (.rs a_0.Votes.z .i64 a_0.Votes.n a_0.Votes.f), (.rs a_0.Next.z .i64 a_0.Next.n a_0.Next.f), (.rs a_0.Match.z .i64 a_0.Match.n a_0.Match.f)])] [] = F_laws_toNode_H fu a_0 := by kernel_rfl
noncomputable def body_laws_toNode_H : Code := Try.f10.body.getD .skip
theorem lpok_laws_toNode_H (fu : Nat) : LpOk E (pc_laws_toNode_H fu) msk_laws_toNode_H (lp_laws_toNode_H fu) (loops 0 body_laws_toNode_H) := by
  have h : loops 0 body_laws_toNode_H = [] := by kernel_rfl
  rw [h]; intro p hp; cases hp
def S_laws_toNode_H (fu : Nat) (xs : List (D RT den)) (ins : List (Ob RT den)) : Option (OutX RT den) := match xs, ins with | [.agg [.int .i64 a0_1, .int .i64 a0_2, .int .i64 a0_3, .int .i64 a0_4, .rs za0_5 .laws_Entry na0_5 fa0_5, .int .i64 a0_6, .int .i64 a0_7, .rs za0_8 .i64 na0_8 fa0_8, .rs za0_9 .i64 na0_9 fa0_9, .rs za0_10 .i64 na0_10 fa0_10]], [] => some ⟨S_impl_Node, F_laws_toNode_H fu (⟨a0_1, a0_2, a0_3, a0_4, (⟨za0_5, na0_5, fa0_5⟩ : (Sl S_laws_Entry)), a0_6, a0_7, (⟨za0_8, na0_8, fa0_8⟩ : (Sl Int)), (⟨za0_9, na0_9, fa0_9⟩ : (Sl Int)), (⟨za0_10, na0_10, fa0_10⟩ : (Sl Int))⟩ : S_laws_Node), enc_impl_Node_H⟩ | _, _ => none
theorem hpc_laws_toNode_H (fu : Nat) : ∀ f xs o, pcf_laws_toNode_H fu f xs = some o → ∀ y, o.x = some y → Good E Try.prog f xs (o.g y) := by
  intro f xs o h
  cases h
theorem hpx_laws_toNode_H (fu : Nat) : ∀ f xs ins o, pcx_laws_toNode_H fu f xs ins = some o → ∀ y, o.x = some y → GoodX E Try.prog f xs ins (o.g y).1 (o.g y).2 := by
  intro f xs ins o h
  unfold pcx_laws_toNode_H at h
  split at h
  · exact good_laws_toEntryS_H fu xs ins o h
  · exact good_laws_toInt64S_H fu xs ins o h
  · cases h
theorem goodv_laws_toNode_H (fu : Nat) (a_0 : S_laws_Node) (y : S_impl_Node) (hy : F_laws_toNode_H fu a_0 = some y) : GoodX E Try.prog 10 [(.agg [(.int .i64 a_0.Id), (.int .i64 a_0.Peers), (.int .i64 a_0.Term), (.int .i64 a_0.Voted), (.rs a_0.Log.z .laws_Entry a_0.Log.n a_0.Log.f), (.int .i64 a_0.Role), (.int .i64 a_0.Commit), (.rs a_0.Votes.z .i64 a_0.Votes.n a_0.Votes.f), (.rs a_0.Next.z .i64 a_0.Next.n a_0.Next.f), (.rs a_0.Match.z .i64 a_0.Match.n a_0.Match.f)])] [] (enc_impl_Node_H y).1 (enc_impl_Node_H y).2 :=
  funX_good (ke := false) E_ok (pc_good (pc := pc_laws_toNode_H fu) (hpc_laws_toNode_H fu) (hpx_laws_toNode_H fu)) (fn := Try.f10) (c := body_laws_toNode_H) (out := out_impl_Node_H) (y := y) (by kernel_rfl) (by kernel_rfl) (by kernel_rfl) (lpok_laws_toNode_H fu) (by kernel_rfl) (Nat.zero_le _) (fun d os hd => out_impl_Node_H_enc d os _ hd) ((ev_laws_toNode_H fu a_0).trans hy)
theorem good_laws_toNode_H (fu : Nat) : ∀ xs ins o, S_laws_toNode_H fu xs ins = some o → ∀ y, o.x = some y → GoodX E Try.prog 10 xs ins (o.g y).1 (o.g y).2 := by
  intro xs ins o h y hy
  unfold S_laws_toNode_H at h
  split at h
  · rename_i a0_1 a0_2 a0_3 a0_4 za0_5 na0_5 fa0_5 a0_6 a0_7 za0_8 na0_8 fa0_8 za0_9 na0_9 fa0_9 za0_10 na0_10 fa0_10
    cases h
    exact goodv_laws_toNode_H fu (⟨a0_1, a0_2, a0_3, a0_4, (⟨za0_5, na0_5, fa0_5⟩ : (Sl S_laws_Entry)), a0_6, a0_7, (⟨za0_8, na0_8, fa0_8⟩ : (Sl Int)), (⟨za0_9, na0_9, fa0_9⟩ : (Sl Int)), (⟨za0_10, na0_10, fa0_10⟩ : (Sl Int))⟩ : S_laws_Node) y hy
  · cases h

/-! spec.l1In -/
def F_spec_l1In (fu : Nat) (v_0 : Int) (low_1 : Int) (high_2 : Int) : Option (Bool) :=
  (((bif (decide (v_0 ≥ low_1)) then (some (decide (v_0 ≤ high_2))) else (some false)) : Option Bool).bind fun m33 => (some m33))
def pcf_spec_l1In (fu : Nat) (f : Nat) (xs : List (D RT den)) : Option (Out RT den) := none
def pcx_spec_l1In (fu : Nat) (f : Nat) (xs : List (D RT den)) (ins : List (Ob RT den)) : Option (OutX RT den) := none
def pc_spec_l1In (fu : Nat) : Pc RT den := ⟨pcf_spec_l1In fu, fun _ => false, fun _ => false, pcx_spec_l1In fu⟩
def msk_spec_l1In (b : Nat) : List Nat := match b with | 200001 => [6] | _ => []
def lp_spec_l1In (fu : Nat) : Lp RT den (Bool) := fun b s k => none
theorem ev_spec_l1In (fu : Nat) (v_0 : Int) (low_1 : Int) (high_2 : Int) : evFun E (pc_spec_l1In fu) msk_spec_l1In (lp_spec_l1In fu) out_bo 72 [(.int .i64 v_0), (.int .i64 low_1), (.int .i64 high_2)] = F_spec_l1In fu v_0 low_1 high_2 := by kernel_rfl
noncomputable def body_spec_l1In : Code := Try.f72.body.getD .skip
theorem lpok_spec_l1In (fu : Nat) : LpOk E (pc_spec_l1In fu) msk_spec_l1In (lp_spec_l1In fu) (loops 0 body_spec_l1In) := by
  have h : loops 0 body_spec_l1In = [] := by kernel_rfl
  rw [h]; intro p hp; cases hp
def S_spec_l1In (fu : Nat) (xs : List (D RT den)) : Option (Out RT den) := match xs with | [.int .i64 a0_0, .int .i64 a1_0, .int .i64 a2_0] => some ⟨Bool, F_spec_l1In fu a0_0 a1_0 a2_0, enc_bo, fun _ => true⟩ | _ => none
theorem hpc_spec_l1In (fu : Nat) : ∀ f xs o, pcf_spec_l1In fu f xs = some o → ∀ y, o.x = some y → Good E Try.prog f xs (o.g y) := by
  intro f xs o h
  cases h
theorem hpx_spec_l1In (fu : Nat) : ∀ f xs ins o, pcx_spec_l1In fu f xs ins = some o → ∀ y, o.x = some y → GoodX E Try.prog f xs ins (o.g y).1 (o.g y).2 := by
  intro f xs ins o h
  cases h
theorem goodv_spec_l1In (fu : Nat) (v_0 : Int) (low_1 : Int) (high_2 : Int) (y : Bool) (hy : F_spec_l1In fu v_0 low_1 high_2 = some y) : Good E Try.prog 72 [(.int .i64 v_0), (.int .i64 low_1), (.int .i64 high_2)] (enc_bo y) :=
  fun_good E_ok (pc_good (pc := pc_spec_l1In fu) (hpc_spec_l1In fu) (hpx_spec_l1In fu)) (fn := Try.f72) (c := body_spec_l1In) (out := out_bo) (y := y) (by kernel_rfl) (by kernel_rfl) (by kernel_rfl) (lpok_spec_l1In fu) (fun d hd => out_bo_enc d _ hd) ((ev_spec_l1In fu v_0 low_1 high_2).trans hy)
theorem good_spec_l1In (fu : Nat) : ∀ xs o, S_spec_l1In fu xs = some o → ∀ y, o.x = some y → Good E Try.prog 72 xs (o.g y) := by
  intro xs o h y hy
  unfold S_spec_l1In at h
  split at h
  · rename_i a0_0 a1_0 a2_0
    cases h
    exact goodv_spec_l1In fu a0_0 a1_0 a2_0 y hy
  · cases h

/-! spec.l8Id -/
def F_spec_l8Id (fu : Nat) (n_0 : S_impl_Node) (id_1 : Int) : Option (Bool) :=
  ((F_spec_l1In fu id_1 0 (IntKind.wrap .i64 (n_0.Peers - 1))).bind fun y34 => (some y34))
def pcf_spec_l8Id (fu : Nat) (f : Nat) (xs : List (D RT den)) : Option (Out RT den) := match f with | 72 => S_spec_l1In fu xs | _ => none
def pcx_spec_l8Id (fu : Nat) (f : Nat) (xs : List (D RT den)) (ins : List (Ob RT den)) : Option (OutX RT den) := none
def pc_spec_l8Id (fu : Nat) : Pc RT den := ⟨pcf_spec_l8Id fu, fun _ => false, fun _ => false, pcx_spec_l8Id fu⟩
def msk_spec_l8Id (b : Nat) : List Nat := []
def lp_spec_l8Id (fu : Nat) : Lp RT den (Bool) := fun b s k => none
theorem ev_spec_l8Id (fu : Nat) (n_0 : S_impl_Node) (id_1 : Int) : evFun E (pc_spec_l8Id fu) msk_spec_l8Id (lp_spec_l8Id fu) out_bo 92 [(.rptr [(.int .i64 n_0.Id), (.int .i64 n_0.Peers), (.int .i64 n_0.Term), (.int .i64 n_0.Voted), (.rs n_0.Log.z .impl_Entry n_0.Log.n n_0.Log.f), (.int .i64 n_0.Role), (.int .i64 n_0.Commit), (.rs n_0.Votes.z .i64 n_0.Votes.n n_0.Votes.f), (.rs n_0.Next.z .i64 n_0.Next.n n_0.Next.f), (.rs n_0.Match.z .i64 n_0.Match.n n_0.Match.f)]), (.int .i64 id_1)] = F_spec_l8Id fu n_0 id_1 := by kernel_rfl
noncomputable def body_spec_l8Id : Code := Try.f92.body.getD .skip
theorem lpok_spec_l8Id (fu : Nat) : LpOk E (pc_spec_l8Id fu) msk_spec_l8Id (lp_spec_l8Id fu) (loops 0 body_spec_l8Id) := by
  have h : loops 0 body_spec_l8Id = [] := by kernel_rfl
  rw [h]; intro p hp; cases hp
def S_spec_l8Id (fu : Nat) (xs : List (D RT den)) : Option (Out RT den) := match xs with | [.rptr (.int .i64 a0_1 :: .int .i64 a0_2 :: .int .i64 a0_3 :: .int .i64 a0_4 :: .rs za0_5 .impl_Entry na0_5 fa0_5 :: .int .i64 a0_6 :: .int .i64 a0_7 :: .rs za0_8 .i64 na0_8 fa0_8 :: .rs za0_9 .i64 na0_9 fa0_9 :: .rs za0_10 .i64 na0_10 fa0_10 :: ra0), .int .i64 a1_0] => some ⟨Bool, F_spec_l8Id fu (⟨a0_1, a0_2, a0_3, a0_4, (⟨za0_5, na0_5, fa0_5⟩ : (Sl S_impl_Entry)), a0_6, a0_7, (⟨za0_8, na0_8, fa0_8⟩ : (Sl Int)), (⟨za0_9, na0_9, fa0_9⟩ : (Sl Int)), (⟨za0_10, na0_10, fa0_10⟩ : (Sl Int))⟩ : S_impl_Node) a1_0, enc_bo, fun _ => true⟩ | _ => none
theorem hpc_spec_l8Id (fu : Nat) : ∀ f xs o, pcf_spec_l8Id fu f xs = some o → ∀ y, o.x = some y → Good E Try.prog f xs (o.g y) := by
  intro f xs o h
  unfold pcf_spec_l8Id at h
  split at h
  · exact good_spec_l1In fu xs o h
  · cases h
theorem hpx_spec_l8Id (fu : Nat) : ∀ f xs ins o, pcx_spec_l8Id fu f xs ins = some o → ∀ y, o.x = some y → GoodX E Try.prog f xs ins (o.g y).1 (o.g y).2 := by
  intro f xs ins o h
  cases h
theorem goodv_spec_l8Id (fu : Nat) (n_0 : S_impl_Node) (id_1 : Int) (y : Bool) (hy : F_spec_l8Id fu n_0 id_1 = some y) : Good E Try.prog 92 [(.rptr [(.int .i64 n_0.Id), (.int .i64 n_0.Peers), (.int .i64 n_0.Term), (.int .i64 n_0.Voted), (.rs n_0.Log.z .impl_Entry n_0.Log.n n_0.Log.f), (.int .i64 n_0.Role), (.int .i64 n_0.Commit), (.rs n_0.Votes.z .i64 n_0.Votes.n n_0.Votes.f), (.rs n_0.Next.z .i64 n_0.Next.n n_0.Next.f), (.rs n_0.Match.z .i64 n_0.Match.n n_0.Match.f)]), (.int .i64 id_1)] (enc_bo y) :=
  fun_good E_ok (pc_good (pc := pc_spec_l8Id fu) (hpc_spec_l8Id fu) (hpx_spec_l8Id fu)) (fn := Try.f92) (c := body_spec_l8Id) (out := out_bo) (y := y) (by kernel_rfl) (by kernel_rfl) (by kernel_rfl) (lpok_spec_l8Id fu) (fun d hd => out_bo_enc d _ hd) ((ev_spec_l8Id fu n_0 id_1).trans hy)
theorem good_spec_l8Id (fu : Nat) : ∀ xs o, S_spec_l8Id fu xs = some o → ∀ y, o.x = some y → Good E Try.prog 92 xs (o.g y) := by
  intro xs o h y hy
  unfold S_spec_l8Id at h
  split at h
  · rename_i a0_1 a0_2 a0_3 a0_4 za0_5 na0_5 fa0_5 a0_6 a0_7 za0_8 na0_8 fa0_8 za0_9 na0_9 fa0_9 za0_10 na0_10 fa0_10 ra0 a1_0
    cases h
    exact (goodv_spec_l8Id fu (⟨a0_1, a0_2, a0_3, a0_4, (⟨za0_5, na0_5, fa0_5⟩ : (Sl S_impl_Entry)), a0_6, a0_7, (⟨za0_8, na0_8, fa0_8⟩ : (Sl Int)), (⟨za0_9, na0_9, fa0_9⟩ : (Sl Int)), (⟨za0_10, na0_10, fa0_10⟩ : (Sl Int))⟩ : S_impl_Node) a1_0 y hy).sub ⟨Sub.of_eq ra0 rfl, .refl _, trivial⟩
  · cases h

/-! spec.l5Needs -/
def F_spec_l5Needs (fu : Nat) (kind_0 : Int) : Option (Bool × Bool × Bool × Bool) :=
  ((F_spec_l1In fu kind_0 5 8).bind fun y78 => (bif (kind_0 != 5) then (bif (kind_0 == 1) then (some ((kind_0 != 6), true, (kind_0 != 4), y78)) else (some ((kind_0 != 6), y78,
    (kind_0 != 4), y78))) else (bif (kind_0 == 1) then (some (false, true, (kind_0 != 4), y78)) else (some (false, y78, (kind_0 != 4), y78)))))
def pcf_spec_l5Needs (fu : Nat) (f : Nat) (xs : List (D RT den)) : Option (Out RT den) := match f with | 72 => S_spec_l1In fu xs | _ => none
def pcx_spec_l5Needs (fu : Nat) (f : Nat) (xs : List (D RT den)) (ins : List (Ob RT den)) : Option (OutX RT den) := none
def pc_spec_l5Needs (fu : Nat) : Pc RT den := ⟨pcf_spec_l5Needs fu, fun _ => false, fun _ => false, pcx_spec_l5Needs fu⟩
def msk_spec_l5Needs (b : Nat) : List Nat := []
def lp_spec_l5Needs (fu : Nat) : Lp RT den (Bool × Bool × Bool × Bool) := fun b s k => none
theorem ev_spec_l5Needs (fu : Nat) (kind_0 : Int) : evFun E (pc_spec_l5Needs fu) msk_spec_l5Needs (lp_spec_l5Needs fu) out_bo_bo_bo_bo 110 [(.int .i64 kind_0)] = F_spec_l5Needs fu kind_0 := by kernel_rfl
noncomputable def body_spec_l5Needs : Code := Try.f110.body.getD .skip
theorem lpok_spec_l5Needs (fu : Nat) : LpOk E (pc_spec_l5Needs fu) msk_spec_l5Needs (lp_spec_l5Needs fu) (loops 0 body_spec_l5Needs) := by
  have h : loops 0 body_spec_l5Needs = [] := by kernel_rfl
  rw [h]; intro p hp; cases hp
def S_spec_l5Needs (fu : Nat) (xs : List (D RT den)) : Option (Out RT den) := match xs with | [.int .i64 a0_0] => some ⟨Bool × Bool × Bool × Bool, F_spec_l5Needs fu a0_0, enc_bo_bo_bo_bo, fun _ => true⟩ | _ => none
theorem hpc_spec_l5Needs (fu : Nat) : ∀ f xs o, pcf_spec_l5Needs fu f xs = some o → ∀ y, o.x = some y → Good E Try.prog f xs (o.g y) := by
  intro f xs o h
  unfold pcf_spec_l5Needs at h
  split at h
  · exact good_spec_l1In fu xs o h
  · cases h
theorem hpx_spec_l5Needs (fu : Nat) : ∀ f xs ins o, pcx_spec_l5Needs fu f xs ins = some o → ∀ y, o.x = some y → GoodX E Try.prog f xs ins (o.g y).1 (o.g y).2 := by
  intro f xs ins o h
  cases h
theorem goodv_spec_l5Needs (fu : Nat) (kind_0 : Int) (y : Bool × Bool × Bool × Bool) (hy : F_spec_l5Needs fu kind_0 = some y) : Good E Try.prog 110 [(.int .i64 kind_0)] (enc_bo_bo_bo_bo y) :=
  fun_good E_ok (pc_good (pc := pc_spec_l5Needs fu) (hpc_spec_l5Needs fu) (hpx_spec_l5Needs fu)) (fn := Try.f110) (c := body_spec_l5Needs) (out := out_bo_bo_bo_bo) (y := y) (by kernel_rfl) (by kernel_rfl) (by kernel_rfl) (lpok_spec_l5Needs fu) (fun d hd => out_bo_bo_bo_bo_enc d _ hd) ((ev_spec_l5Needs fu kind_0).trans hy)
theorem good_spec_l5Needs (fu : Nat) : ∀ xs o, S_spec_l5Needs fu xs = some o → ∀ y, o.x = some y → Good E Try.prog 110 xs (o.g y) := by
  intro xs o h y hy
  unfold S_spec_l5Needs at h
  split at h
  · rename_i a0_0
    cases h
    exact goodv_spec_l5Needs fu a0_0 y hy
  · cases h

/-! spec.l5Version -/
def F_spec_l5Version (fu : Nat) (v_0 : Int) : Option (Bool) :=
  ((F_spec_l1In fu v_0 0 1000000).bind fun y79 => (some y79))
def pcf_spec_l5Version (fu : Nat) (f : Nat) (xs : List (D RT den)) : Option (Out RT den) := match f with | 72 => S_spec_l1In fu xs | _ => none
def pcx_spec_l5Version (fu : Nat) (f : Nat) (xs : List (D RT den)) (ins : List (Ob RT den)) : Option (OutX RT den) := none
def pc_spec_l5Version (fu : Nat) : Pc RT den := ⟨pcf_spec_l5Version fu, fun _ => false, fun _ => false, pcx_spec_l5Version fu⟩
def msk_spec_l5Version (b : Nat) : List Nat := []
def lp_spec_l5Version (fu : Nat) : Lp RT den (Bool) := fun b s k => none
theorem ev_spec_l5Version (fu : Nat) (v_0 : Int) : evFun E (pc_spec_l5Version fu) msk_spec_l5Version (lp_spec_l5Version fu) out_bo 111 [(.int .i64 v_0)] = F_spec_l5Version fu v_0 := by kernel_rfl
noncomputable def body_spec_l5Version : Code := Try.f111.body.getD .skip
theorem lpok_spec_l5Version (fu : Nat) : LpOk E (pc_spec_l5Version fu) msk_spec_l5Version (lp_spec_l5Version fu) (loops 0 body_spec_l5Version) := by
  have h : loops 0 body_spec_l5Version = [] := by kernel_rfl
  rw [h]; intro p hp; cases hp
def S_spec_l5Version (fu : Nat) (xs : List (D RT den)) : Option (Out RT den) := match xs with | [.int .i64 a0_0] => some ⟨Bool, F_spec_l5Version fu a0_0, enc_bo, fun _ => true⟩ | _ => none
theorem hpc_spec_l5Version (fu : Nat) : ∀ f xs o, pcf_spec_l5Version fu f xs = some o → ∀ y, o.x = some y → Good E Try.prog f xs (o.g y) := by
  intro f xs o h
  unfold pcf_spec_l5Version at h
  split at h
  · exact good_spec_l1In fu xs o h
  · cases h
theorem hpx_spec_l5Version (fu : Nat) : ∀ f xs ins o, pcx_spec_l5Version fu f xs ins = some o → ∀ y, o.x = some y → GoodX E Try.prog f xs ins (o.g y).1 (o.g y).2 := by
  intro f xs ins o h
  cases h
theorem goodv_spec_l5Version (fu : Nat) (v_0 : Int) (y : Bool) (hy : F_spec_l5Version fu v_0 = some y) : Good E Try.prog 111 [(.int .i64 v_0)] (enc_bo y) :=
  fun_good E_ok (pc_good (pc := pc_spec_l5Version fu) (hpc_spec_l5Version fu) (hpx_spec_l5Version fu)) (fn := Try.f111) (c := body_spec_l5Version) (out := out_bo) (y := y) (by kernel_rfl) (by kernel_rfl) (by kernel_rfl) (lpok_spec_l5Version fu) (fun d hd => out_bo_enc d _ hd) ((ev_spec_l5Version fu v_0).trans hy)
theorem good_spec_l5Version (fu : Nat) : ∀ xs o, S_spec_l5Version fu xs = some o → ∀ y, o.x = some y → Good E Try.prog 111 xs (o.g y) := by
  intro xs o h y hy
  unfold S_spec_l5Version at h
  split at h
  · rename_i a0_0
    cases h
    exact goodv_spec_l5Version fu a0_0 y hy
  · cases h

/-! spec.l3Name -/
def F_spec_l3Name (fu : Nat) (name_0 : Int) : Option (Bool) :=
  ((F_spec_l1In fu name_0 1 999).bind fun y80 => (some y80))
def pcf_spec_l3Name (fu : Nat) (f : Nat) (xs : List (D RT den)) : Option (Out RT den) := match f with | 72 => S_spec_l1In fu xs | _ => none
def pcx_spec_l3Name (fu : Nat) (f : Nat) (xs : List (D RT den)) (ins : List (Ob RT den)) : Option (OutX RT den) := none
def pc_spec_l3Name (fu : Nat) : Pc RT den := ⟨pcf_spec_l3Name fu, fun _ => false, fun _ => false, pcx_spec_l3Name fu⟩
def msk_spec_l3Name (b : Nat) : List Nat := []
def lp_spec_l3Name (fu : Nat) : Lp RT den (Bool) := fun b s k => none
theorem ev_spec_l3Name (fu : Nat) (name_0 : Int) : evFun E (pc_spec_l3Name fu) msk_spec_l3Name (lp_spec_l3Name fu) out_bo 112 [(.int .i64 name_0)] = F_spec_l3Name fu name_0 := by kernel_rfl
noncomputable def body_spec_l3Name : Code := Try.f112.body.getD .skip
theorem lpok_spec_l3Name (fu : Nat) : LpOk E (pc_spec_l3Name fu) msk_spec_l3Name (lp_spec_l3Name fu) (loops 0 body_spec_l3Name) := by
  have h : loops 0 body_spec_l3Name = [] := by kernel_rfl
  rw [h]; intro p hp; cases hp
def S_spec_l3Name (fu : Nat) (xs : List (D RT den)) : Option (Out RT den) := match xs with | [.int .i64 a0_0] => some ⟨Bool, F_spec_l3Name fu a0_0, enc_bo, fun _ => true⟩ | _ => none
theorem hpc_spec_l3Name (fu : Nat) : ∀ f xs o, pcf_spec_l3Name fu f xs = some o → ∀ y, o.x = some y → Good E Try.prog f xs (o.g y) := by
  intro f xs o h
  unfold pcf_spec_l3Name at h
  split at h
  · exact good_spec_l1In fu xs o h
  · cases h
theorem hpx_spec_l3Name (fu : Nat) : ∀ f xs ins o, pcx_spec_l3Name fu f xs ins = some o → ∀ y, o.x = some y → GoodX E Try.prog f xs ins (o.g y).1 (o.g y).2 := by
  intro f xs ins o h
  cases h
theorem goodv_spec_l3Name (fu : Nat) (name_0 : Int) (y : Bool) (hy : F_spec_l3Name fu name_0 = some y) : Good E Try.prog 112 [(.int .i64 name_0)] (enc_bo y) :=
  fun_good E_ok (pc_good (pc := pc_spec_l3Name fu) (hpc_spec_l3Name fu) (hpx_spec_l3Name fu)) (fn := Try.f112) (c := body_spec_l3Name) (out := out_bo) (y := y) (by kernel_rfl) (by kernel_rfl) (by kernel_rfl) (lpok_spec_l3Name fu) (fun d hd => out_bo_enc d _ hd) ((ev_spec_l3Name fu name_0).trans hy)
theorem good_spec_l3Name (fu : Nat) : ∀ xs o, S_spec_l3Name fu xs = some o → ∀ y, o.x = some y → Good E Try.prog 112 xs (o.g y) := by
  intro xs o h y hy
  unfold S_spec_l3Name at h
  split at h
  · rename_i a0_0
    cases h
    exact goodv_spec_l3Name fu a0_0 y hy
  · cases h

/-! spec.l2Address -/
def F_spec_l2Address (fu : Nat) (a_0 : Int) : Option (Bool) :=
  ((F_spec_l1In fu a_0 0 4294967295).bind fun y81 => (some y81))
def pcf_spec_l2Address (fu : Nat) (f : Nat) (xs : List (D RT den)) : Option (Out RT den) := match f with | 72 => S_spec_l1In fu xs | _ => none
def pcx_spec_l2Address (fu : Nat) (f : Nat) (xs : List (D RT den)) (ins : List (Ob RT den)) : Option (OutX RT den) := none
def pc_spec_l2Address (fu : Nat) : Pc RT den := ⟨pcf_spec_l2Address fu, fun _ => false, fun _ => false, pcx_spec_l2Address fu⟩
def msk_spec_l2Address (b : Nat) : List Nat := []
def lp_spec_l2Address (fu : Nat) : Lp RT den (Bool) := fun b s k => none
theorem ev_spec_l2Address (fu : Nat) (a_0 : Int) : evFun E (pc_spec_l2Address fu) msk_spec_l2Address (lp_spec_l2Address fu) out_bo 113 [(.int .i64 a_0)] = F_spec_l2Address fu a_0 := by kernel_rfl
noncomputable def body_spec_l2Address : Code := Try.f113.body.getD .skip
theorem lpok_spec_l2Address (fu : Nat) : LpOk E (pc_spec_l2Address fu) msk_spec_l2Address (lp_spec_l2Address fu) (loops 0 body_spec_l2Address) := by
  have h : loops 0 body_spec_l2Address = [] := by kernel_rfl
  rw [h]; intro p hp; cases hp
def S_spec_l2Address (fu : Nat) (xs : List (D RT den)) : Option (Out RT den) := match xs with | [.int .i64 a0_0] => some ⟨Bool, F_spec_l2Address fu a0_0, enc_bo, fun _ => true⟩ | _ => none
theorem hpc_spec_l2Address (fu : Nat) : ∀ f xs o, pcf_spec_l2Address fu f xs = some o → ∀ y, o.x = some y → Good E Try.prog f xs (o.g y) := by
  intro f xs o h
  unfold pcf_spec_l2Address at h
  split at h
  · exact good_spec_l1In fu xs o h
  · cases h
theorem hpx_spec_l2Address (fu : Nat) : ∀ f xs ins o, pcx_spec_l2Address fu f xs ins = some o → ∀ y, o.x = some y → GoodX E Try.prog f xs ins (o.g y).1 (o.g y).2 := by
  intro f xs ins o h
  cases h
theorem goodv_spec_l2Address (fu : Nat) (a_0 : Int) (y : Bool) (hy : F_spec_l2Address fu a_0 = some y) : Good E Try.prog 113 [(.int .i64 a_0)] (enc_bo y) :=
  fun_good E_ok (pc_good (pc := pc_spec_l2Address fu) (hpc_spec_l2Address fu) (hpx_spec_l2Address fu)) (fn := Try.f113) (c := body_spec_l2Address) (out := out_bo) (y := y) (by kernel_rfl) (by kernel_rfl) (by kernel_rfl) (lpok_spec_l2Address fu) (fun d hd => out_bo_enc d _ hd) ((ev_spec_l2Address fu a_0).trans hy)
theorem good_spec_l2Address (fu : Nat) : ∀ xs o, S_spec_l2Address fu xs = some o → ∀ y, o.x = some y → Good E Try.prog 113 xs (o.g y) := by
  intro xs o h y hy
  unfold S_spec_l2Address at h
  split at h
  · rename_i a0_0
    cases h
    exact goodv_spec_l2Address fu a0_0 y hy
  · cases h

/-! spec.l2Port -/
def F_spec_l2Port (fu : Nat) (p_0 : Int) : Option (Bool) :=
  ((F_spec_l1In fu p_0 0 65535).bind fun y87 => (some y87))
def pcf_spec_l2Port (fu : Nat) (f : Nat) (xs : List (D RT den)) : Option (Out RT den) := match f with | 72 => S_spec_l1In fu xs | _ => none
def pcx_spec_l2Port (fu : Nat) (f : Nat) (xs : List (D RT den)) (ins : List (Ob RT den)) : Option (OutX RT den) := none
def pc_spec_l2Port (fu : Nat) : Pc RT den := ⟨pcf_spec_l2Port fu, fun _ => false, fun _ => false, pcx_spec_l2Port fu⟩
def msk_spec_l2Port (b : Nat) : List Nat := []
def lp_spec_l2Port (fu : Nat) : Lp RT den (Bool) := fun b s k => none
theorem ev_spec_l2Port (fu : Nat) (p_0 : Int) : evFun E (pc_spec_l2Port fu) msk_spec_l2Port (lp_spec_l2Port fu) out_bo 122 [(.int .i64 p_0)] = F_spec_l2Port fu p_0 := by kernel_rfl
noncomputable def body_spec_l2Port : Code := Try.f122.body.getD .skip
theorem lpok_spec_l2Port (fu : Nat) : LpOk E (pc_spec_l2Port fu) msk_spec_l2Port (lp_spec_l2Port fu) (loops 0 body_spec_l2Port) := by
  have h : loops 0 body_spec_l2Port = [] := by kernel_rfl
  rw [h]; intro p hp; cases hp
def S_spec_l2Port (fu : Nat) (xs : List (D RT den)) : Option (Out RT den) := match xs with | [.int .i64 a0_0] => some ⟨Bool, F_spec_l2Port fu a0_0, enc_bo, fun _ => true⟩ | _ => none
theorem hpc_spec_l2Port (fu : Nat) : ∀ f xs o, pcf_spec_l2Port fu f xs = some o → ∀ y, o.x = some y → Good E Try.prog f xs (o.g y) := by
  intro f xs o h
  unfold pcf_spec_l2Port at h
  split at h
  · exact good_spec_l1In fu xs o h
  · cases h
theorem hpx_spec_l2Port (fu : Nat) : ∀ f xs ins o, pcx_spec_l2Port fu f xs ins = some o → ∀ y, o.x = some y → GoodX E Try.prog f xs ins (o.g y).1 (o.g y).2 := by
  intro f xs ins o h
  cases h
theorem goodv_spec_l2Port (fu : Nat) (p_0 : Int) (y : Bool) (hy : F_spec_l2Port fu p_0 = some y) : Good E Try.prog 122 [(.int .i64 p_0)] (enc_bo y) :=
  fun_good E_ok (pc_good (pc := pc_spec_l2Port fu) (hpc_spec_l2Port fu) (hpx_spec_l2Port fu)) (fn := Try.f122) (c := body_spec_l2Port) (out := out_bo) (y := y) (by kernel_rfl) (by kernel_rfl) (by kernel_rfl) (lpok_spec_l2Port fu) (fun d hd => out_bo_enc d _ hd) ((ev_spec_l2Port fu p_0).trans hy)
theorem good_spec_l2Port (fu : Nat) : ∀ xs o, S_spec_l2Port fu xs = some o → ∀ y, o.x = some y → Good E Try.prog 122 xs (o.g y) := by
  intro xs o h y hy
  unfold S_spec_l2Port at h
  split at h
  · rename_i a0_0
    cases h
    exact goodv_spec_l2Port fu a0_0 y hy
  · cases h

/-! spec.l5Number -/
def F_spec_l5Number (fu : Nat) (x_0 : S_impl_Cmd) : Option (Bool) :=
  (bif (x_0.Kind == 1) then ((F_spec_l1In fu x_0.Number 0 9).bind fun y82 => (some y82)) else (bif (x_0.Kind == 2) then ((F_spec_l1In fu x_0.Number 0 9).bind fun y83 => (some y83)) else
    (bif (x_0.Kind == 3) then ((F_spec_l1In fu x_0.Number 1 3).bind fun y84 => (some y84)) else (bif (x_0.Kind == 9) then ((F_spec_l1In fu x_0.Number 0 1).bind fun y85 => (some y85)) else
    ((F_spec_l2Port fu x_0.Number).bind fun y86 => (some y86))))))
def pcf_spec_l5Number (fu : Nat) (f : Nat) (xs : List (D RT den)) : Option (Out RT den) := match f with | 72 => S_spec_l1In fu xs | 122 => S_spec_l2Port fu xs | _ => none
def pcx_spec_l5Number (fu : Nat) (f : Nat) (xs : List (D RT den)) (ins : List (Ob RT den)) : Option (OutX RT den) := none
def pc_spec_l5Number (fu : Nat) : Pc RT den := ⟨pcf_spec_l5Number fu, fun _ => false, fun _ => false, pcx_spec_l5Number fu⟩
def msk_spec_l5Number (b : Nat) : List Nat := []
def lp_spec_l5Number (fu : Nat) : Lp RT den (Bool) := fun b s k => none
theorem ev_spec_l5Number (fu : Nat) (x_0 : S_impl_Cmd) : evFun E (pc_spec_l5Number fu) msk_spec_l5Number (lp_spec_l5Number fu) out_bo 114 [(.agg [(.int .i64 x_0.Kind), (.int .i64 x_0.Expect), (.int .i64 x_0.Name), (.int .i64 x_0.Addr), (.int .i64 x_0.Number), (.int .i64 x_0.Proto)])] = F_spec_l5Number fu x_0 := by kernel_rfl
noncomputable def body_spec_l5Number : Code := Try.f114.body.getD .skip
theorem lpok_spec_l5Number (fu : Nat) : LpOk E (pc_spec_l5Number fu) msk_spec_l5Number (lp_spec_l5Number fu) (loops 0 body_spec_l5Number) := by
  have h : loops 0 body_spec_l5Number = [] := by kernel_rfl
  rw [h]; intro p hp; cases hp
def S_spec_l5Number (fu : Nat) (xs : List (D RT den)) : Option (Out RT den) := match xs with | [.agg [.int .i64 a0_1, .int .i64 a0_2, .int .i64 a0_3, .int .i64 a0_4, .int .i64 a0_5, .int .i64 a0_6]] => some ⟨Bool, F_spec_l5Number fu (⟨a0_1, a0_2, a0_3, a0_4, a0_5, a0_6⟩ : S_impl_Cmd), enc_bo, fun _ => true⟩ | _ => none
theorem hpc_spec_l5Number (fu : Nat) : ∀ f xs o, pcf_spec_l5Number fu f xs = some o → ∀ y, o.x = some y → Good E Try.prog f xs (o.g y) := by
  intro f xs o h
  unfold pcf_spec_l5Number at h
  split at h
  · exact good_spec_l1In fu xs o h
  · exact good_spec_l2Port fu xs o h
  · cases h
theorem hpx_spec_l5Number (fu : Nat) : ∀ f xs ins o, pcx_spec_l5Number fu f xs ins = some o → ∀ y, o.x = some y → GoodX E Try.prog f xs ins (o.g y).1 (o.g y).2 := by
  intro f xs ins o h
  cases h
theorem goodv_spec_l5Number (fu : Nat) (x_0 : S_impl_Cmd) (y : Bool) (hy : F_spec_l5Number fu x_0 = some y) : Good E Try.prog 114 [(.agg [(.int .i64 x_0.Kind), (.int .i64 x_0.Expect), (.int .i64 x_0.Name), (.int .i64 x_0.Addr), (.int .i64 x_0.Number), (.int .i64 x_0.Proto)])] (enc_bo y) :=
  fun_good E_ok (pc_good (pc := pc_spec_l5Number fu) (hpc_spec_l5Number fu) (hpx_spec_l5Number fu)) (fn := Try.f114) (c := body_spec_l5Number) (out := out_bo) (y := y) (by kernel_rfl) (by kernel_rfl) (by kernel_rfl) (lpok_spec_l5Number fu) (fun d hd => out_bo_enc d _ hd) ((ev_spec_l5Number fu x_0).trans hy)
theorem good_spec_l5Number (fu : Nat) : ∀ xs o, S_spec_l5Number fu xs = some o → ∀ y, o.x = some y → Good E Try.prog 114 xs (o.g y) := by
  intro xs o h y hy
  unfold S_spec_l5Number at h
  split at h
  · rename_i a0_1 a0_2 a0_3 a0_4 a0_5 a0_6
    cases h
    exact goodv_spec_l5Number fu (⟨a0_1, a0_2, a0_3, a0_4, a0_5, a0_6⟩ : S_impl_Cmd) y hy
  · cases h

/-! spec.l5Proto -/
def F_spec_l5Proto (fu : Nat) (p_0 : Int) : Option (Bool) :=
  (((bif (p_0 == 6) then (some true) else (some (p_0 == 17))) : Option Bool).bind fun m88 => (some m88))
def pcf_spec_l5Proto (fu : Nat) (f : Nat) (xs : List (D RT den)) : Option (Out RT den) := none
def pcx_spec_l5Proto (fu : Nat) (f : Nat) (xs : List (D RT den)) (ins : List (Ob RT den)) : Option (OutX RT den) := none
def pc_spec_l5Proto (fu : Nat) : Pc RT den := ⟨pcf_spec_l5Proto fu, fun _ => false, fun _ => false, pcx_spec_l5Proto fu⟩
def msk_spec_l5Proto (b : Nat) : List Nat := match b with | 200001 => [2] | _ => []
def lp_spec_l5Proto (fu : Nat) : Lp RT den (Bool) := fun b s k => none
theorem ev_spec_l5Proto (fu : Nat) (p_0 : Int) : evFun E (pc_spec_l5Proto fu) msk_spec_l5Proto (lp_spec_l5Proto fu) out_bo 115 [(.int .i64 p_0)] = F_spec_l5Proto fu p_0 := by kernel_rfl
noncomputable def body_spec_l5Proto : Code := Try.f115.body.getD .skip
theorem lpok_spec_l5Proto (fu : Nat) : LpOk E (pc_spec_l5Proto fu) msk_spec_l5Proto (lp_spec_l5Proto fu) (loops 0 body_spec_l5Proto) := by
  have h : loops 0 body_spec_l5Proto = [] := by kernel_rfl
  rw [h]; intro p hp; cases hp
def S_spec_l5Proto (fu : Nat) (xs : List (D RT den)) : Option (Out RT den) := match xs with | [.int .i64 a0_0] => some ⟨Bool, F_spec_l5Proto fu a0_0, enc_bo, fun _ => true⟩ | _ => none
theorem hpc_spec_l5Proto (fu : Nat) : ∀ f xs o, pcf_spec_l5Proto fu f xs = some o → ∀ y, o.x = some y → Good E Try.prog f xs (o.g y) := by
  intro f xs o h
  cases h
theorem hpx_spec_l5Proto (fu : Nat) : ∀ f xs ins o, pcx_spec_l5Proto fu f xs ins = some o → ∀ y, o.x = some y → GoodX E Try.prog f xs ins (o.g y).1 (o.g y).2 := by
  intro f xs ins o h
  cases h
theorem goodv_spec_l5Proto (fu : Nat) (p_0 : Int) (y : Bool) (hy : F_spec_l5Proto fu p_0 = some y) : Good E Try.prog 115 [(.int .i64 p_0)] (enc_bo y) :=
  fun_good E_ok (pc_good (pc := pc_spec_l5Proto fu) (hpc_spec_l5Proto fu) (hpx_spec_l5Proto fu)) (fn := Try.f115) (c := body_spec_l5Proto) (out := out_bo) (y := y) (by kernel_rfl) (by kernel_rfl) (by kernel_rfl) (lpok_spec_l5Proto fu) (fun d hd => out_bo_enc d _ hd) ((ev_spec_l5Proto fu p_0).trans hy)
theorem good_spec_l5Proto (fu : Nat) : ∀ xs o, S_spec_l5Proto fu xs = some o → ∀ y, o.x = some y → Good E Try.prog 115 xs (o.g y) := by
  intro xs o h y hy
  unfold S_spec_l5Proto at h
  split at h
  · rename_i a0_0
    cases h
    exact goodv_spec_l5Proto fu a0_0 y hy
  · cases h

/-! spec.CmdFault -/
def F_spec_CmdFault (fu : Nat) (x_0 : S_impl_Cmd) : Option (Int) :=
  ((F_spec_l1In fu x_0.Kind 1 9).bind fun y43 => (bif (!y43) then (some 1) else ((F_spec_l5Needs fu x_0.Kind).bind fun y44 => (((bif (x_0.Expect != (-1)) then ((F_spec_l5Version fu x_0.Expect).bind fun y45 =>
    (bif (!y45) then (some true) else (bif y44.1 then ((F_spec_l3Name fu x_0.Name).bind fun y46 => (bif (!y46) then (some true) else (bif y44.2.1 then ((F_spec_l2Address fu x_0.Addr).bind fun y47 =>
    (bif (!y47) then (some true) else (bif y44.2.2.1 then ((F_spec_l5Number fu x_0).bind fun y48 => (bif (!y48) then (some true) else (bif y44.2.2.2 then ((F_spec_l5Proto fu x_0.Proto).bind fun y49 =>
    (some (!y49))) else (some false)))) else (bif y44.2.2.2 then ((F_spec_l5Proto fu x_0.Proto).bind fun y50 => (some (!y50))) else (some false))))) else (bif y44.2.2.1 then
    ((F_spec_l5Number fu x_0).bind fun y51 => (bif (!y51) then (some true) else (bif y44.2.2.2 then ((F_spec_l5Proto fu x_0.Proto).bind fun y52 => (some (!y52))) else (some false)))) else
    (bif y44.2.2.2 then ((F_spec_l5Proto fu x_0.Proto).bind fun y53 => (some (!y53))) else (some false)))))) else (bif y44.2.1 then ((F_spec_l2Address fu x_0.Addr).bind fun y54 =>
    (bif (!y54) then (some true) else (bif y44.2.2.1 then ((F_spec_l5Number fu x_0).bind fun y55 => (bif (!y55) then (some true) else (bif y44.2.2.2 then ((F_spec_l5Proto fu x_0.Proto).bind fun y56 =>
    (some (!y56))) else (some false)))) else (bif y44.2.2.2 then ((F_spec_l5Proto fu x_0.Proto).bind fun y57 => (some (!y57))) else (some false))))) else (bif y44.2.2.1 then
    ((F_spec_l5Number fu x_0).bind fun y58 => (bif (!y58) then (some true) else (bif y44.2.2.2 then ((F_spec_l5Proto fu x_0.Proto).bind fun y59 => (some (!y59))) else (some false)))) else
    (bif y44.2.2.2 then ((F_spec_l5Proto fu x_0.Proto).bind fun y60 => (some (!y60))) else (some false))))))) else (bif y44.1 then ((F_spec_l3Name fu x_0.Name).bind fun y61 => (bif (!y61) then
    (some true) else (bif y44.2.1 then ((F_spec_l2Address fu x_0.Addr).bind fun y62 => (bif (!y62) then (some true) else (bif y44.2.2.1 then ((F_spec_l5Number fu x_0).bind fun y63 =>
    (bif (!y63) then (some true) else (bif y44.2.2.2 then ((F_spec_l5Proto fu x_0.Proto).bind fun y64 => (some (!y64))) else (some false)))) else (bif y44.2.2.2 then
    ((F_spec_l5Proto fu x_0.Proto).bind fun y65 => (some (!y65))) else (some false))))) else (bif y44.2.2.1 then ((F_spec_l5Number fu x_0).bind fun y66 => (bif (!y66) then (some true) else
    (bif y44.2.2.2 then ((F_spec_l5Proto fu x_0.Proto).bind fun y67 => (some (!y67))) else (some false)))) else (bif y44.2.2.2 then ((F_spec_l5Proto fu x_0.Proto).bind fun y68 =>
    (some (!y68))) else (some false)))))) else (bif y44.2.1 then ((F_spec_l2Address fu x_0.Addr).bind fun y69 => (bif (!y69) then (some true) else (bif y44.2.2.1 then
    ((F_spec_l5Number fu x_0).bind fun y70 => (bif (!y70) then (some true) else (bif y44.2.2.2 then ((F_spec_l5Proto fu x_0.Proto).bind fun y71 => (some (!y71))) else (some false)))) else
    (bif y44.2.2.2 then ((F_spec_l5Proto fu x_0.Proto).bind fun y72 => (some (!y72))) else (some false))))) else (bif y44.2.2.1 then ((F_spec_l5Number fu x_0).bind fun y73 => (bif (!y73) then
    (some true) else (bif y44.2.2.2 then ((F_spec_l5Proto fu x_0.Proto).bind fun y74 => (some (!y74))) else (some false)))) else (bif y44.2.2.2 then ((F_spec_l5Proto fu x_0.Proto).bind fun y75 =>
    (some (!y75))) else (some false)))))) : Option Bool).bind fun m76 => (bif m76 then (some 3) else (((bif (!y44.1) then (bif (x_0.Name != 0) then (some true) else (bif (!y44.2.1) then
    (bif (x_0.Addr != 0) then (some true) else (bif (!y44.2.2.1) then (bif (x_0.Number != 0) then (some true) else (bif (!y44.2.2.2) then (some (x_0.Proto != 0)) else (some false))) else
    (bif (!y44.2.2.2) then (some (x_0.Proto != 0)) else (some false)))) else (bif (!y44.2.2.1) then (bif (x_0.Number != 0) then (some true) else (bif (!y44.2.2.2) then (some (x_0.Proto != 0)) else
    (some false))) else (bif (!y44.2.2.2) then (some (x_0.Proto != 0)) else (some false))))) else (bif (!y44.2.1) then (bif (x_0.Addr != 0) then (some true) else (bif (!y44.2.2.1) then
    (bif (x_0.Number != 0) then (some true) else (bif (!y44.2.2.2) then (some (x_0.Proto != 0)) else (some false))) else (bif (!y44.2.2.2) then (some (x_0.Proto != 0)) else (some false)))) else
    (bif (!y44.2.2.1) then (bif (x_0.Number != 0) then (some true) else (bif (!y44.2.2.2) then (some (x_0.Proto != 0)) else (some false))) else (bif (!y44.2.2.2) then (some (x_0.Proto != 0)) else
    (some false))))) : Option Bool).bind fun m77 => (bif m77 then (some 1) else (some 0))))))))
def pcf_spec_CmdFault (fu : Nat) (f : Nat) (xs : List (D RT den)) : Option (Out RT den) := match f with | 72 => S_spec_l1In fu xs | 110 => S_spec_l5Needs fu xs | 111 => S_spec_l5Version fu xs | 112 => S_spec_l3Name fu xs | 113 => S_spec_l2Address fu xs | 114 => S_spec_l5Number fu xs | 115 => S_spec_l5Proto fu xs | _ => none
def pcx_spec_CmdFault (fu : Nat) (f : Nat) (xs : List (D RT den)) (ins : List (Ob RT den)) : Option (OutX RT den) := none
def pc_spec_CmdFault (fu : Nat) : Pc RT den := ⟨pcf_spec_CmdFault fu, fun _ => false, fun _ => false, pcx_spec_CmdFault fu⟩
def msk_spec_CmdFault (b : Nat) : List Nat := match b with | 200004 => [62] | 200006 => [96] | _ => []
def lp_spec_CmdFault (fu : Nat) : Lp RT den (Int) := fun b s k => none
theorem ev_spec_CmdFault (fu : Nat) (x_0 : S_impl_Cmd) : evFun E (pc_spec_CmdFault fu) msk_spec_CmdFault (lp_spec_CmdFault fu) out_i64 100 [(.agg [(.int .i64 x_0.Kind), (.int .i64 x_0.Expect), (.int .i64 x_0.Name), (.int .i64 x_0.Addr), (.int .i64 x_0.Number), (.int .i64 x_0.Proto)])] = F_spec_CmdFault fu x_0 := by kernel_rfl
noncomputable def body_spec_CmdFault : Code := Try.f100.body.getD .skip
theorem lpok_spec_CmdFault (fu : Nat) : LpOk E (pc_spec_CmdFault fu) msk_spec_CmdFault (lp_spec_CmdFault fu) (loops 0 body_spec_CmdFault) := by
  have h : loops 0 body_spec_CmdFault = [] := by kernel_rfl
  rw [h]; intro p hp; cases hp
def S_spec_CmdFault (fu : Nat) (xs : List (D RT den)) : Option (Out RT den) := match xs with | [.agg [.int .i64 a0_1, .int .i64 a0_2, .int .i64 a0_3, .int .i64 a0_4, .int .i64 a0_5, .int .i64 a0_6]] => some ⟨Int, F_spec_CmdFault fu (⟨a0_1, a0_2, a0_3, a0_4, a0_5, a0_6⟩ : S_impl_Cmd), enc_i64, fun _ => true⟩ | _ => none
theorem hpc_spec_CmdFault (fu : Nat) : ∀ f xs o, pcf_spec_CmdFault fu f xs = some o → ∀ y, o.x = some y → Good E Try.prog f xs (o.g y) := by
  intro f xs o h
  unfold pcf_spec_CmdFault at h
  split at h
  · exact good_spec_l1In fu xs o h
  · exact good_spec_l5Needs fu xs o h
  · exact good_spec_l5Version fu xs o h
  · exact good_spec_l3Name fu xs o h
  · exact good_spec_l2Address fu xs o h
  · exact good_spec_l5Number fu xs o h
  · exact good_spec_l5Proto fu xs o h
  · cases h
theorem hpx_spec_CmdFault (fu : Nat) : ∀ f xs ins o, pcx_spec_CmdFault fu f xs ins = some o → ∀ y, o.x = some y → GoodX E Try.prog f xs ins (o.g y).1 (o.g y).2 := by
  intro f xs ins o h
  cases h
theorem goodv_spec_CmdFault (fu : Nat) (x_0 : S_impl_Cmd) (y : Int) (hy : F_spec_CmdFault fu x_0 = some y) : Good E Try.prog 100 [(.agg [(.int .i64 x_0.Kind), (.int .i64 x_0.Expect), (.int .i64 x_0.Name), (.int .i64 x_0.Addr), (.int .i64 x_0.Number), (.int .i64 x_0.Proto)])] (enc_i64 y) :=
  fun_good E_ok (pc_good (pc := pc_spec_CmdFault fu) (hpc_spec_CmdFault fu) (hpx_spec_CmdFault fu)) (fn := Try.f100) (c := body_spec_CmdFault) (out := out_i64) (y := y) (by kernel_rfl) (by kernel_rfl) (by kernel_rfl) (lpok_spec_CmdFault fu) (fun d hd => out_i64_enc d _ hd) ((ev_spec_CmdFault fu x_0).trans hy)
theorem good_spec_CmdFault (fu : Nat) : ∀ xs o, S_spec_CmdFault fu xs = some o → ∀ y, o.x = some y → Good E Try.prog 100 xs (o.g y) := by
  intro xs o h y hy
  unfold S_spec_CmdFault at h
  split at h
  · rename_i a0_1 a0_2 a0_3 a0_4 a0_5 a0_6
    cases h
    exact goodv_spec_CmdFault fu (⟨a0_1, a0_2, a0_3, a0_4, a0_5, a0_6⟩ : S_impl_Cmd) y hy
  · cases h

/-! spec.EntryFault -/
def F_spec_EntryFault (fu : Nat) (x_0 : S_impl_Entry) : Option (Int) :=
  ((((F_spec_l1In fu x_0.Term 1 100000).bind fun y38 => (bif (!y38) then (some true) else ((F_spec_l1In fu x_0.Client 0 999).bind fun y39 => (bif (!y39) then (some true) else
    ((F_spec_l1In fu x_0.Seq 0 1000000).bind fun y40 => (some (!y40))))))) : Option Bool).bind fun m41 => (bif m41 then (some 3) else (bif (!((x_0.Client == 0) == (x_0.Seq == 0))) then
    (some 1) else (bif (x_0.Client != 0) then ((F_spec_CmdFault fu x_0.Cmd).bind fun y42 => (some y42)) else (bif (!((x_0.Cmd.Kind == 0) && ((x_0.Cmd.Expect == 0) && ((x_0.Cmd.Name == 0) &&
    ((x_0.Cmd.Addr == 0) && ((x_0.Cmd.Number == 0) && ((x_0.Cmd.Proto == 0) && true))))))) then (some 1) else (some 0))))))
def pcf_spec_EntryFault (fu : Nat) (f : Nat) (xs : List (D RT den)) : Option (Out RT den) := match f with | 72 => S_spec_l1In fu xs | 100 => S_spec_CmdFault fu xs | _ => none
def pcx_spec_EntryFault (fu : Nat) (f : Nat) (xs : List (D RT den)) (ins : List (Ob RT den)) : Option (OutX RT den) := none
def pc_spec_EntryFault (fu : Nat) : Pc RT den := ⟨pcf_spec_EntryFault fu, fun _ => false, fun _ => false, pcx_spec_EntryFault fu⟩
def msk_spec_EntryFault (b : Nat) : List Nat := match b with | 200001 => [19] | _ => []
def lp_spec_EntryFault (fu : Nat) : Lp RT den (Int) := fun b s k => none
theorem ev_spec_EntryFault (fu : Nat) (x_0 : S_impl_Entry) : evFun E (pc_spec_EntryFault fu) msk_spec_EntryFault (lp_spec_EntryFault fu) out_i64 57 [(.agg [(.int .i64 x_0.Term), (.int .i64 x_0.Client), (.int .i64 x_0.Seq), (.int .i64 x_0.Cmd.Kind), (.int .i64 x_0.Cmd.Expect), (.int .i64 x_0.Cmd.Name), (.int .i64 x_0.Cmd.Addr), (.int .i64 x_0.Cmd.Number), (.int .i64 x_0.Cmd.Proto)])] = F_spec_EntryFault fu x_0 := by kernel_rfl
noncomputable def body_spec_EntryFault : Code := Try.f57.body.getD .skip
theorem lpok_spec_EntryFault (fu : Nat) : LpOk E (pc_spec_EntryFault fu) msk_spec_EntryFault (lp_spec_EntryFault fu) (loops 0 body_spec_EntryFault) := by
  have h : loops 0 body_spec_EntryFault = [] := by kernel_rfl
  rw [h]; intro p hp; cases hp
def S_spec_EntryFault (fu : Nat) (xs : List (D RT den)) : Option (Out RT den) := match xs with | [.agg [.int .i64 a0_1, .int .i64 a0_2, .int .i64 a0_3, .int .i64 a0_5, .int .i64 a0_6, .int .i64 a0_7, .int .i64 a0_8, .int .i64 a0_9, .int .i64 a0_10]] => some ⟨Int, F_spec_EntryFault fu (⟨a0_1, a0_2, a0_3, (⟨a0_5, a0_6, a0_7, a0_8, a0_9, a0_10⟩ : S_impl_Cmd)⟩ : S_impl_Entry), enc_i64, fun _ => true⟩ | _ => none
theorem hpc_spec_EntryFault (fu : Nat) : ∀ f xs o, pcf_spec_EntryFault fu f xs = some o → ∀ y, o.x = some y → Good E Try.prog f xs (o.g y) := by
  intro f xs o h
  unfold pcf_spec_EntryFault at h
  split at h
  · exact good_spec_l1In fu xs o h
  · exact good_spec_CmdFault fu xs o h
  · cases h
theorem hpx_spec_EntryFault (fu : Nat) : ∀ f xs ins o, pcx_spec_EntryFault fu f xs ins = some o → ∀ y, o.x = some y → GoodX E Try.prog f xs ins (o.g y).1 (o.g y).2 := by
  intro f xs ins o h
  cases h
theorem goodv_spec_EntryFault (fu : Nat) (x_0 : S_impl_Entry) (y : Int) (hy : F_spec_EntryFault fu x_0 = some y) : Good E Try.prog 57 [(.agg [(.int .i64 x_0.Term), (.int .i64 x_0.Client), (.int .i64 x_0.Seq), (.int .i64 x_0.Cmd.Kind), (.int .i64 x_0.Cmd.Expect), (.int .i64 x_0.Cmd.Name), (.int .i64 x_0.Cmd.Addr), (.int .i64 x_0.Cmd.Number), (.int .i64 x_0.Cmd.Proto)])] (enc_i64 y) :=
  fun_good E_ok (pc_good (pc := pc_spec_EntryFault fu) (hpc_spec_EntryFault fu) (hpx_spec_EntryFault fu)) (fn := Try.f57) (c := body_spec_EntryFault) (out := out_i64) (y := y) (by kernel_rfl) (by kernel_rfl) (by kernel_rfl) (lpok_spec_EntryFault fu) (fun d hd => out_i64_enc d _ hd) ((ev_spec_EntryFault fu x_0).trans hy)
theorem good_spec_EntryFault (fu : Nat) : ∀ xs o, S_spec_EntryFault fu xs = some o → ∀ y, o.x = some y → Good E Try.prog 57 xs (o.g y) := by
  intro xs o h y hy
  unfold S_spec_EntryFault at h
  split at h
  · rename_i a0_1 a0_2 a0_3 a0_5 a0_6 a0_7 a0_8 a0_9 a0_10
    cases h
    exact goodv_spec_EntryFault fu (⟨a0_1, a0_2, a0_3, (⟨a0_5, a0_6, a0_7, a0_8, a0_9, a0_10⟩ : S_impl_Cmd)⟩ : S_impl_Entry) y hy
  · cases h

/-! spec.LogFault -/
def F_spec_LogFault_B0 {ρ : Type} (fu : Nat) (log0_0 : (Sl S_impl_Entry)) (k0 : Int → Option ρ) (k1 : Option ρ) (k2 : Option ρ) (i3_1 : Int) (go : Int → Option ρ) : Option ρ :=
  (bif (decide (i3_1 < ((log0_0.n : Nat) : Int))) then ((bif (decide (0 ≤ i3_1) && decide ((Int.toNat i3_1) < log0_0.n)) then some () else none : Option Unit).bind fun _ =>
    ((F_spec_EntryFault fu (log0_0.f (Int.toNat i3_1))).bind fun y35 => (bif (y35 != 0) then (k0 y35) else (((bif (decide (i3_1 > 0)) then ((bif (decide (0 ≤ i3_1) && decide ((Int.toNat i3_1) < log0_0.n)) then
    some () else none : Option Unit).bind fun _ => ((bif (decide (0 ≤ (IntKind.wrap .i64 (i3_1 - 1))) && decide ((Int.toNat (IntKind.wrap .i64 (i3_1 - 1))) < log0_0.n)) then some () else
    none : Option Unit).bind fun _ => (some (decide ((log0_0.f (Int.toNat i3_1)).Term < (log0_0.f (Int.toNat (IntKind.wrap .i64 (i3_1 - 1)))).Term))))) else (some false)) : Option Bool).bind fun m36 =>
    (bif m36 then k1 else (go (IntKind.wrap .i64 (i3_1 + 1)))))))) else k2)
def F_spec_LogFault (fu : Nat) (log_0 : (Sl S_impl_Entry)) : Option (Int) :=
  (bif (decide (((log_0.n : Nat) : Int) > 40)) then (some 2) else (L (fun w0 go0 => F_spec_LogFault_B0 fu log_0 (fun z37 => (some z37)) (some 1) (some 0) w0 go0) fu (0 : Int)))
def pcf_spec_LogFault (fu : Nat) (f : Nat) (xs : List (D RT den)) : Option (Out RT den) := match f with | 57 => S_spec_EntryFault fu xs | _ => none
def pcx_spec_LogFault (fu : Nat) (f : Nat) (xs : List (D RT den)) (ins : List (Ob RT den)) : Option (OutX RT den) := none
def pc_spec_LogFault (fu : Nat) : Pc RT den := ⟨pcf_spec_LogFault fu, fun _ => false, fun _ => false, pcx_spec_LogFault fu⟩
def msk_spec_LogFault (b : Nat) : List Nat := match b with | 0 => [1, 2, 4, 5, 6, 7, 8, 9, 10, 11, 12, 13, 14, 15, 16, 17, 18, 19, 20, 21, 22, 23, 24, 25, 26, 27, 28, 29, 30, 31, 32, 33, 34, 35, 36, 37] | 100000 => [0, 1, 3, 4, 5, 6, 7, 8, 9, 10, 11, 12, 13, 14, 15, 16, 17, 18, 19, 20, 21, 22, 23, 24, 25, 26, 27, 28, 29, 30, 31, 32, 33, 34, 35, 36, 37] | 200009 => [37] | _ => []
def ps_spec_LogFault_0 : List (Pat RT) := [.flat (.rs .impl_Entry), .flat .dead, .flat .dead, .flat (.int .i64), .flat .dead, .flat .dead, .flat .dead, .flat .dead, .flat .dead, .flat .dead, .flat .dead, .flat .dead, .flat .dead, .flat .dead, .flat .dead, .flat .dead, .flat .dead, .flat .dead, .flat .dead, .flat .dead, .flat .dead, .flat .dead, .flat .dead, .flat .dead, .flat .dead, .flat .dead, .flat .dead, .flat .dead, .flat .dead, .flat .dead, .flat .dead, .flat .dead, .flat .dead, .flat .dead, .flat .dead, .flat .dead, .flat .dead, .flat .dead]
def os_spec_LogFault_0 : List (OP RT) := []
def conv_spec_LogFault_0 (r : Raw den ps_spec_LogFault_0 os_spec_LogFault_0) : ((Sl S_impl_Entry)) × (Int) := (r.1.1, r.1.2.2.2.1)
def back_spec_LogFault_0 (c : (Sl S_impl_Entry)) (w : Int) : St RT den := ⟨[(.rs c.z .impl_Entry c.n c.f), .dead, .dead, (.int .i64 w), .dead, .dead, .dead, .dead, .dead, .dead, .dead, .dead, .dead, .dead, .dead, .dead, .dead, .dead, .dead, .dead, .dead, .dead, .dead, .dead, .dead, .dead, .dead, .dead, .dead, .dead, .dead, .dead, .dead, .dead, .dead, .dead, .dead, .dead], []⟩
def Bk_spec_LogFault_0 {ρ : Type} (fu : Nat) (c : (Sl S_impl_Entry)) (k : Ex → St RT den → Option ρ) (w : Int) (go : (Int) → Option ρ) : Option ρ := F_spec_LogFault_B0 fu c (fun a0 => k .ret ⟨[.dead, .dead, (.int .i64 a0), .dead, .dead, .dead, .dead, .dead, .dead, .dead, .dead, .dead, .dead, .dead, .dead, .dead, .dead, .dead, .dead, .dead, .dead, .dead, .dead, .dead, .dead, .dead, .dead, .dead, .dead, .dead, .dead, .dead, .dead, .dead, .dead, .dead, .dead, .dead], []⟩) (k .ret ⟨[.dead, .dead, (.int .i64 1), .dead, .dead, .dead, .dead, .dead, .dead, .dead, .dead, .dead, .dead, .dead, .dead, .dead, .dead, .dead, .dead, .dead, .dead, .dead, .dead, .dead, .dead, .dead, .dead, .dead, .dead, .dead, .dead, .dead, .dead, .dead, .dead, .dead, .dead, .dead], []⟩) (k (.exit 0) ⟨[.dead, .dead, .dead, .dead, .dead, .dead, .dead, .dead, .dead, .dead, .dead, .dead, .dead, .dead, .dead, .dead, .dead, .dead, .dead, .dead, .dead, .dead, .dead, .dead, .dead, .dead, .dead, .dead, .dead, .dead, .dead, .dead, .dead, .dead, .dead, .dead, .dead, .dead], []⟩) w go
def lp_spec_LogFault (fu : Nat) : Lp RT den (Int) := fun b s k => match b with | 0 => handle ps_spec_LogFault_0 os_spec_LogFault_0 conv_spec_LogFault_0 (Bk_spec_LogFault_0 fu) fu s k | _ => none
theorem ev_spec_LogFault (fu : Nat) (log_0 : (Sl S_impl_Entry)) : evFun E (pc_spec_LogFault fu) msk_spec_LogFault (lp_spec_LogFault fu) out_i64 78 [(.rs log_0.z .impl_Entry log_0.n log_0.f)] = F_spec_LogFault fu log_0 := by kernel_rfl
noncomputable def body_spec_LogFault : Code := Try.f78.body.getD .skip
noncomputable def lc_spec_LogFault_0 : Code := ((loops 0 body_spec_LogFault).getD 0 (0, .skip)).2
theorem round_spec_LogFault_0 (fu : Nat) (it : St RT den → Option (Int)) (k : Ex → St RT den → Option (Int)) c w : evCode E (pc_spec_LogFault fu) msk_spec_LogFault (lp_spec_LogFault fu) 0 lc_spec_LogFault_0 (back_spec_LogFault_0 c w) (after (msk_spec_LogFault 0) (msk_spec_LogFault 100000) 0 it k) = Bk_spec_LogFault_0 fu c k w (fun w => it (back_spec_LogFault_0 c w)) := by kernel_rfl
theorem lpok_spec_LogFault_0 (fu : Nat) : ∀ s k r, lp_spec_LogFault fu 0 s k = some r → ∃ fuel, iter (msk_spec_LogFault 0) (msk_spec_LogFault 100000) s.objs.length (evCode E (pc_spec_LogFault fu) msk_spec_LogFault (lp_spec_LogFault fu) 0 lc_spec_LogFault_0) fuel s k = some r :=
  handle_ok (ps := ps_spec_LogFault_0) (os := os_spec_LogFault_0) (conv := conv_spec_LogFault_0) (B := Bk_spec_LogFault_0 fu) (fu := fu) back_spec_LogFault_0 (fun raw => by kernel_rfl) 0 (fun c w => by kernel_rfl) (round_spec_LogFault_0 fu)
theorem lpok_spec_LogFault (fu : Nat) : LpOk E (pc_spec_LogFault fu) msk_spec_LogFault (lp_spec_LogFault fu) (loops 0 body_spec_LogFault) := loop_all 1 (by kernel_rfl) fun i hi => match i, hi with
  | 0, _ => by
    have h : (loops 0 body_spec_LogFault).getD 0 (0, .skip) = (0, lc_spec_LogFault_0) := by kernel_rfl
    rw [h]; exact lpok_spec_LogFault_0 fu
  | i + 1, hi => absurd hi (by omega)
def S_spec_LogFault (fu : Nat) (xs : List (D RT den)) : Option (Out RT den) := match xs with | [.rs za0_0 .impl_Entry na0_0 fa0_0] => some ⟨Int, F_spec_LogFault fu (⟨za0_0, na0_0, fa0_0⟩ : (Sl S_impl_Entry)), enc_i64, fun _ => true⟩ | _ => none
theorem hpc_spec_LogFault (fu : Nat) : ∀ f xs o, pcf_spec_LogFault fu f xs = some o → ∀ y, o.x = some y → Good E Try.prog f xs (o.g y) := by
  intro f xs o h
  unfold pcf_spec_LogFault at h
  split at h
  · exact good_spec_EntryFault fu xs o h
  · cases h
theorem hpx_spec_LogFault (fu : Nat) : ∀ f xs ins o, pcx_spec_LogFault fu f xs ins = some o → ∀ y, o.x = some y → GoodX E Try.prog f xs ins (o.g y).1 (o.g y).2 := by
  intro f xs ins o h
  cases h
theorem goodv_spec_LogFault (fu : Nat) (log_0 : (Sl S_impl_Entry)) (y : Int) (hy : F_spec_LogFault fu log_0 = some y) : Good E Try.prog 78 [(.rs log_0.z .impl_Entry log_0.n log_0.f)] (enc_i64 y) :=
  fun_good E_ok (pc_good (pc := pc_spec_LogFault fu) (hpc_spec_LogFault fu) (hpx_spec_LogFault fu)) (fn := Try.f78) (c := body_spec_LogFault) (out := out_i64) (y := y) (by kernel_rfl) (by kernel_rfl) (by kernel_rfl) (lpok_spec_LogFault fu) (fun d hd => out_i64_enc d _ hd) ((ev_spec_LogFault fu log_0).trans hy)
theorem good_spec_LogFault (fu : Nat) : ∀ xs o, S_spec_LogFault fu xs = some o → ∀ y, o.x = some y → Good E Try.prog 78 xs (o.g y) := by
  intro xs o h y hy
  unfold S_spec_LogFault at h
  split at h
  · rename_i za0_0 na0_0 fa0_0
    cases h
    exact goodv_spec_LogFault fu (⟨za0_0, na0_0, fa0_0⟩ : (Sl S_impl_Entry)) y hy
  · cases h

/-! spec.LastOf -/
def F_spec_LastOf (fu : Nat) (log_0 : (Sl S_impl_Entry)) : Option (S_impl_Entry) :=
  (bif (((log_0.n : Nat) : Int) == 0) then (some (⟨0, 0, 0, (⟨0, 0, 0, 0, 0, 0⟩ : S_impl_Cmd)⟩ : S_impl_Entry)) else ((bif (decide (0 ≤ (IntKind.wrap .i64 (((log_0.n : Nat) : Int) - 1))) &&
    decide ((Int.toNat (IntKind.wrap .i64 (((log_0.n : Nat) : Int) - 1))) < log_0.n)) then some () else none : Option Unit).bind fun _ => (some (log_0.f (Int.toNat (IntKind.wrap .i64 (((log_0.n : Nat) : Int) - 1)))))))
def pcf_spec_LastOf (fu : Nat) (f : Nat) (xs : List (D RT den)) : Option (Out RT den) := none
def pcx_spec_LastOf (fu : Nat) (f : Nat) (xs : List (D RT den)) (ins : List (Ob RT den)) : Option (OutX RT den) := none
def pc_spec_LastOf (fu : Nat) : Pc RT den := ⟨pcf_spec_LastOf fu, fun _ => false, fun _ => false, pcx_spec_LastOf fu⟩
def msk_spec_LastOf (b : Nat) : List Nat := []
def lp_spec_LastOf (fu : Nat) : Lp RT den (S_impl_Entry) := fun b s k => none
theorem ev_spec_LastOf (fu : Nat) (log_0 : (Sl S_impl_Entry)) : evFun E (pc_spec_LastOf fu) msk_spec_LastOf (lp_spec_LastOf fu) out_impl_Entry 62 [(.rs log_0.z .impl_Entry log_0.n log_0.f)] = F_spec_LastOf fu log_0 := by kernel_rfl
noncomputable def body_spec_LastOf : Code := Try.f62.body.getD .skip
theorem lpok_spec_LastOf (fu : Nat) : LpOk E (pc_spec_LastOf fu) msk_spec_LastOf (lp_spec_LastOf fu) (loops 0 body_spec_LastOf) := by
  have h : loops 0 body_spec_LastOf = [] := by kernel_rfl
  rw [h]; intro p hp; cases hp
def S_spec_LastOf (fu : Nat) (xs : List (D RT den)) : Option (Out RT den) := match xs with | [.rs za0_0 .impl_Entry na0_0 fa0_0] => some ⟨S_impl_Entry, F_spec_LastOf fu (⟨za0_0, na0_0, fa0_0⟩ : (Sl S_impl_Entry)), enc_impl_Entry, fun _ => true⟩ | _ => none
theorem hpc_spec_LastOf (fu : Nat) : ∀ f xs o, pcf_spec_LastOf fu f xs = some o → ∀ y, o.x = some y → Good E Try.prog f xs (o.g y) := by
  intro f xs o h
  cases h
theorem hpx_spec_LastOf (fu : Nat) : ∀ f xs ins o, pcx_spec_LastOf fu f xs ins = some o → ∀ y, o.x = some y → GoodX E Try.prog f xs ins (o.g y).1 (o.g y).2 := by
  intro f xs ins o h
  cases h
theorem goodv_spec_LastOf (fu : Nat) (log_0 : (Sl S_impl_Entry)) (y : S_impl_Entry) (hy : F_spec_LastOf fu log_0 = some y) : Good E Try.prog 62 [(.rs log_0.z .impl_Entry log_0.n log_0.f)] (enc_impl_Entry y) :=
  fun_good E_ok (pc_good (pc := pc_spec_LastOf fu) (hpc_spec_LastOf fu) (hpx_spec_LastOf fu)) (fn := Try.f62) (c := body_spec_LastOf) (out := out_impl_Entry) (y := y) (by kernel_rfl) (by kernel_rfl) (by kernel_rfl) (lpok_spec_LastOf fu) (fun d hd => out_impl_Entry_enc d _ hd) ((ev_spec_LastOf fu log_0).trans hy)
theorem good_spec_LastOf (fu : Nat) : ∀ xs o, S_spec_LastOf fu xs = some o → ∀ y, o.x = some y → Good E Try.prog 62 xs (o.g y) := by
  intro xs o h y hy
  unfold S_spec_LastOf at h
  split at h
  · rename_i za0_0 na0_0 fa0_0
    cases h
    exact goodv_spec_LastOf fu (⟨za0_0, na0_0, fa0_0⟩ : (Sl S_impl_Entry)) y hy
  · cases h

/-! spec.l8Rises -/
def F_spec_l8Rises_B0 {ρ : Type} (fu : Nat) (list0_0 : (Sl Int)) (k0 : Option ρ) (k1 : Option ρ) (i3_1 : Int) (go : Int → Option ρ) : Option ρ :=
  (bif (decide (i3_1 < ((list0_0.n : Nat) : Int))) then ((bif (decide (0 ≤ i3_1) && decide ((Int.toNat i3_1) < list0_0.n)) then some () else none : Option Unit).bind fun _ => ((bif (decide (0 ≤ (IntKind.wrap .i64 (i3_1 - 1))) &&
    decide ((Int.toNat (IntKind.wrap .i64 (i3_1 - 1))) < list0_0.n)) then some () else none : Option Unit).bind fun _ => (bif (decide ((list0_0.f (Int.toNat i3_1)) ≤ (list0_0.f (Int.toNat (IntKind.wrap .i64 (i3_1 - 1)))))) then
    k0 else (go (IntKind.wrap .i64 (i3_1 + 1)))))) else k1)
def F_spec_l8Rises (fu : Nat) (list_0 : (Sl Int)) : Option (Bool) :=
  (L (fun w0 go0 => F_spec_l8Rises_B0 fu list_0 (some false) (some true) w0 go0) fu (1 : Int))
def pcf_spec_l8Rises (fu : Nat) (f : Nat) (xs : List (D RT den)) : Option (Out RT den) := none
def pcx_spec_l8Rises (fu : Nat) (f : Nat) (xs : List (D RT den)) (ins : List (Ob RT den)) : Option (OutX RT den) := none
def pc_spec_l8Rises (fu : Nat) : Pc RT den := ⟨pcf_spec_l8Rises fu, fun _ => false, fun _ => false, pcx_spec_l8Rises fu⟩
def msk_spec_l8Rises (b : Nat) : List Nat := match b with | 0 => [1, 2, 4, 5, 6, 7, 8, 9, 10, 11, 12, 13, 14, 15, 16, 17, 18, 19] | 100000 => [0, 1, 3, 4, 5, 6, 7, 8, 9, 10, 11, 12, 13, 14, 15, 16, 17, 18, 19] | _ => []
def ps_spec_l8Rises_0 : List (Pat RT) := [.flat (.rs .i64), .flat .dead, .flat .dead, .flat (.int .i64), .flat .dead, .flat .dead, .flat .dead, .flat .dead, .flat .dead, .flat .dead, .flat .dead, .flat .dead, .flat .dead, .flat .dead, .flat .dead, .flat .dead, .flat .dead, .flat .dead, .flat .dead, .flat .dead]
def os_spec_l8Rises_0 : List (OP RT) := []
def conv_spec_l8Rises_0 (r : Raw den ps_spec_l8Rises_0 os_spec_l8Rises_0) : ((Sl Int)) × (Int) := (r.1.1, r.1.2.2.2.1)
def back_spec_l8Rises_0 (c : (Sl Int)) (w : Int) : St RT den := ⟨[(.rs c.z .i64 c.n c.f), .dead, .dead, (.int .i64 w), .dead, .dead, .dead, .dead, .dead, .dead, .dead, .dead, .dead, .dead, .dead, .dead, .dead, .dead, .dead, .dead], []⟩
def Bk_spec_l8Rises_0 {ρ : Type} (fu : Nat) (c : (Sl Int)) (k : Ex → St RT den → Option ρ) (w : Int) (go : (Int) → Option ρ) : Option ρ := F_spec_l8Rises_B0 fu c (k .ret ⟨[.dead, .dead, (.bool false), .dead, .dead, .dead, .dead, .dead, .dead, .dead, .dead, .dead, .dead, .dead, .dead, .dead, .dead, .dead, .dead, .dead], []⟩) (k (.exit 0) ⟨[.dead, .dead, .dead, .dead, .dead, .dead, .dead, .dead, .dead, .dead, .dead, .dead, .dead, .dead, .dead, .dead, .dead, .dead, .dead, .dead], []⟩) w go
def lp_spec_l8Rises (fu : Nat) : Lp RT den (Bool) := fun b s k => match b with | 0 => handle ps_spec_l8Rises_0 os_spec_l8Rises_0 conv_spec_l8Rises_0 (Bk_spec_l8Rises_0 fu) fu s k | _ => none
theorem ev_spec_l8Rises (fu : Nat) (list_0 : (Sl Int)) : evFun E (pc_spec_l8Rises fu) msk_spec_l8Rises (lp_spec_l8Rises fu) out_bo 108 [(.rs list_0.z .i64 list_0.n list_0.f)] = F_spec_l8Rises fu list_0 := by kernel_rfl
noncomputable def body_spec_l8Rises : Code := Try.f108.body.getD .skip
noncomputable def lc_spec_l8Rises_0 : Code := ((loops 0 body_spec_l8Rises).getD 0 (0, .skip)).2
theorem round_spec_l8Rises_0 (fu : Nat) (it : St RT den → Option (Bool)) (k : Ex → St RT den → Option (Bool)) c w : evCode E (pc_spec_l8Rises fu) msk_spec_l8Rises (lp_spec_l8Rises fu) 0 lc_spec_l8Rises_0 (back_spec_l8Rises_0 c w) (after (msk_spec_l8Rises 0) (msk_spec_l8Rises 100000) 0 it k) = Bk_spec_l8Rises_0 fu c k w (fun w => it (back_spec_l8Rises_0 c w)) := by kernel_rfl
theorem lpok_spec_l8Rises_0 (fu : Nat) : ∀ s k r, lp_spec_l8Rises fu 0 s k = some r → ∃ fuel, iter (msk_spec_l8Rises 0) (msk_spec_l8Rises 100000) s.objs.length (evCode E (pc_spec_l8Rises fu) msk_spec_l8Rises (lp_spec_l8Rises fu) 0 lc_spec_l8Rises_0) fuel s k = some r :=
  handle_ok (ps := ps_spec_l8Rises_0) (os := os_spec_l8Rises_0) (conv := conv_spec_l8Rises_0) (B := Bk_spec_l8Rises_0 fu) (fu := fu) back_spec_l8Rises_0 (fun raw => by kernel_rfl) 0 (fun c w => by kernel_rfl) (round_spec_l8Rises_0 fu)
theorem lpok_spec_l8Rises (fu : Nat) : LpOk E (pc_spec_l8Rises fu) msk_spec_l8Rises (lp_spec_l8Rises fu) (loops 0 body_spec_l8Rises) := loop_all 1 (by kernel_rfl) fun i hi => match i, hi with
  | 0, _ => by
    have h : (loops 0 body_spec_l8Rises).getD 0 (0, .skip) = (0, lc_spec_l8Rises_0) := by kernel_rfl
    rw [h]; exact lpok_spec_l8Rises_0 fu
  | i + 1, hi => absurd hi (by omega)
def S_spec_l8Rises (fu : Nat) (xs : List (D RT den)) : Option (Out RT den) := match xs with | [.rs za0_0 .i64 na0_0 fa0_0] => some ⟨Bool, F_spec_l8Rises fu (⟨za0_0, na0_0, fa0_0⟩ : (Sl Int)), enc_bo, fun _ => true⟩ | _ => none
theorem hpc_spec_l8Rises (fu : Nat) : ∀ f xs o, pcf_spec_l8Rises fu f xs = some o → ∀ y, o.x = some y → Good E Try.prog f xs (o.g y) := by
  intro f xs o h
  cases h
theorem hpx_spec_l8Rises (fu : Nat) : ∀ f xs ins o, pcx_spec_l8Rises fu f xs ins = some o → ∀ y, o.x = some y → GoodX E Try.prog f xs ins (o.g y).1 (o.g y).2 := by
  intro f xs ins o h
  cases h
theorem goodv_spec_l8Rises (fu : Nat) (list_0 : (Sl Int)) (y : Bool) (hy : F_spec_l8Rises fu list_0 = some y) : Good E Try.prog 108 [(.rs list_0.z .i64 list_0.n list_0.f)] (enc_bo y) :=
  fun_good E_ok (pc_good (pc := pc_spec_l8Rises fu) (hpc_spec_l8Rises fu) (hpx_spec_l8Rises fu)) (fn := Try.f108) (c := body_spec_l8Rises) (out := out_bo) (y := y) (by kernel_rfl) (by kernel_rfl) (by kernel_rfl) (lpok_spec_l8Rises fu) (fun d hd => out_bo_enc d _ hd) ((ev_spec_l8Rises fu list_0).trans hy)
theorem good_spec_l8Rises (fu : Nat) : ∀ xs o, S_spec_l8Rises fu xs = some o → ∀ y, o.x = some y → Good E Try.prog 108 xs (o.g y) := by
  intro xs o h y hy
  unfold S_spec_l8Rises at h
  split at h
  · rename_i za0_0 na0_0 fa0_0
    cases h
    exact goodv_spec_l8Rises fu (⟨za0_0, na0_0, fa0_0⟩ : (Sl Int)) y hy
  · cases h
end Go.Proofs.Ytohlgllpplbehaa.Pc
