/- The functions' evaluated forms, each a proved summary. Conditions: none. -/
import Derived.Test.YtmnbmponjhglcaaPcT
namespace Go.Proofs.Ytmnbmponjhglcaa.Pc
open Go Go.RowKit Go.Proofs Vm
set_option linter.unusedVariables false
set_option linter.unusedSimpArgs false
set_option maxRecDepth 100000
/-! laws.toCmd -/
def F_laws_toCmd (fu : Nat) (a_0 : S_impl_Cmd) : Option (S_impl_Cmd) :=
  (some a_0)
def pc_a0 (fu : Nat) : Pc RT den := ⟨pcf0, fun _ => false, fun _ => false, pcd0, pcx0⟩
def msk_a0 (b : Nat) : List Nat := []
def lp_a0 (fu : Nat) : Lp RT den (S_impl_Cmd) := fun b s k => none
theorem ev_a0 (fu : Nat) (a_0 : S_impl_Cmd) : evFun E (pc_a0 fu) msk_a0 (lp_a0 fu) out_impl_Cmd 196 [(.agg [(.int .i64 a_0.Kind), (.int .i64 a_0.Expect), (.int .i64 a_0.Name), (.int .i64 a_0.Addr), (.int .i64 a_0.Number), (.int .i64 a_0.Proto)])] = F_laws_toCmd fu a_0 := by kernel_rfl
noncomputable def body_a0 : Code := Try.f196.body.getD .skip
theorem lpok_a0 (fu : Nat) : LpOk E (pc_a0 fu) msk_a0 (lp_a0 fu) (loops 0 body_a0) := by
  have h : loops 0 body_a0 = [] := by kernel_rfl
  rw [h]; intro p hp; cases hp
def S_a0 (fu : Nat) (xs : List (D RT den)) : Option (Out RT den) := match xs with | [.agg [.int .i64 a0_1, .int .i64 a0_2, .int .i64 a0_3, .int .i64 a0_4, .int .i64 a0_5, .int .i64 a0_6]] => some ⟨S_impl_Cmd, F_laws_toCmd fu (⟨a0_1, a0_2, a0_3, a0_4, a0_5, a0_6⟩ : S_impl_Cmd), enc_impl_Cmd, fun _ => true⟩ | _ => none
theorem goodv_a0 (fu : Nat) (a_0 : S_impl_Cmd) (y : S_impl_Cmd) (hy : F_laws_toCmd fu a_0 = some y) : Good E Try.prog 196 [(.agg [(.int .i64 a_0.Kind), (.int .i64 a_0.Expect), (.int .i64 a_0.Name), (.int .i64 a_0.Addr), (.int .i64 a_0.Number), (.int .i64 a_0.Proto)])] (enc_impl_Cmd y) :=
  fun_good E_ok (pc_good (pc := pc_a0 fu) hpc0 hpx0) (fn := Try.f196) (c := body_a0) (out := out_impl_Cmd) (y := y) (by kernel_rfl) (by kernel_rfl) (by kernel_rfl) (lpok_a0 fu) (fun d hd => out_impl_Cmd_enc d _ hd) ((ev_a0 fu a_0).trans hy)
theorem good_a0 (fu : Nat) : ∀ xs o, S_a0 fu xs = some o → ∀ y, o.x = some y → Good E Try.prog 196 xs (o.g y) := by
  intro xs o h y hy
  unfold S_a0 at h
  split at h
  · rename_i a0_1 a0_2 a0_3 a0_4 a0_5 a0_6
    cases h
    exact goodv_a0 fu (⟨a0_1, a0_2, a0_3, a0_4, a0_5, a0_6⟩ : S_impl_Cmd) y hy
  · cases h

/-! laws.toEntry -/
def F_laws_toEntry (fu : Nat) (a_0 : S_laws_Entry) : Option (S_impl_Entry) :=
  ((F_laws_toCmd fu a_0.Cmd).bind fun y6 => (some (⟨a_0.Term, a_0.Client, a_0.Seq, y6⟩ : S_impl_Entry)))
def pcf_a1 (fu : Nat) (f : Nat) (xs : List (D RT den)) : Option (Out RT den) := match f with | 196 => S_a0 fu xs | _ => none
def pc_a1 (fu : Nat) : Pc RT den := ⟨pcf_a1 fu, fun _ => false, fun _ => false, pcd0, pcx0⟩
def msk_a1 (b : Nat) : List Nat := []
def lp_a1 (fu : Nat) : Lp RT den (S_impl_Entry) := fun b s k => none
theorem ev_a1 (fu : Nat) (a_0 : S_laws_Entry) : evFun E (pc_a1 fu) msk_a1 (lp_a1 fu) out_impl_Entry 166 [(.agg [(.int .i64 a_0.Term), (.int .i64 a_0.Client), (.int .i64 a_0.Seq), (.int .i64 a_0.Cmd.Kind), (.int .i64 a_0.Cmd.Expect), (.int .i64 a_0.Cmd.Name), (.int .i64 a_0.Cmd.Addr), (.int .i64 a_0.Cmd.Number), (.int .i64 a_0.Cmd.Proto)])] = F_laws_toEntry fu a_0 := by kernel_rfl
noncomputable def body_a1 : Code := Try.f166.body.getD .skip
theorem lpok_a1 (fu : Nat) : LpOk E (pc_a1 fu) msk_a1 (lp_a1 fu) (loops 0 body_a1) := by
  have h : loops 0 body_a1 = [] := by kernel_rfl
  rw [h]; intro p hp; cases hp
def S_a1 (fu : Nat) (xs : List (D RT den)) : Option (Out RT den) := match xs with | [.agg [.int .i64 a0_1, .int .i64 a0_2, .int .i64 a0_3, .int .i64 a0_5, .int .i64 a0_6, .int .i64 a0_7, .int .i64 a0_8, .int .i64 a0_9, .int .i64 a0_10]] => some ⟨S_impl_Entry, F_laws_toEntry fu (⟨a0_1, a0_2, a0_3, (⟨a0_5, a0_6, a0_7, a0_8, a0_9, a0_10⟩ : S_impl_Cmd)⟩ : S_laws_Entry), enc_impl_Entry, fun _ => true⟩ | _ => none
theorem hpc_a1 (fu : Nat) : ∀ f xs o, pcf_a1 fu f xs = some o → ∀ y, o.x = some y → Good E Try.prog f xs (o.g y) := by
  intro f xs o h
  unfold pcf_a1 at h
  split at h
  · exact good_a0 fu xs o h
  · cases h
theorem goodv_a1 (fu : Nat) (a_0 : S_laws_Entry) (y : S_impl_Entry) (hy : F_laws_toEntry fu a_0 = some y) : Good E Try.prog 166 [(.agg [(.int .i64 a_0.Term), (.int .i64 a_0.Client), (.int .i64 a_0.Seq), (.int .i64 a_0.Cmd.Kind), (.int .i64 a_0.Cmd.Expect), (.int .i64 a_0.Cmd.Name), (.int .i64 a_0.Cmd.Addr), (.int .i64 a_0.Cmd.Number), (.int .i64 a_0.Cmd.Proto)])] (enc_impl_Entry y) :=
  fun_good E_ok (pc_good (pc := pc_a1 fu) (hpc_a1 fu) hpx0) (fn := Try.f166) (c := body_a1) (out := out_impl_Entry) (y := y) (by kernel_rfl) (by kernel_rfl) (by kernel_rfl) (lpok_a1 fu) (fun d hd => out_impl_Entry_enc d _ hd) ((ev_a1 fu a_0).trans hy)
theorem good_a1 (fu : Nat) : ∀ xs o, S_a1 fu xs = some o → ∀ y, o.x = some y → Good E Try.prog 166 xs (o.g y) := by
  intro xs o h y hy
  unfold S_a1 at h
  split at h
  · rename_i a0_1 a0_2 a0_3 a0_5 a0_6 a0_7 a0_8 a0_9 a0_10
    cases h
    exact goodv_a1 fu (⟨a0_1, a0_2, a0_3, (⟨a0_5, a0_6, a0_7, a0_8, a0_9, a0_10⟩ : S_impl_Cmd)⟩ : S_laws_Entry) y hy
  · cases h

/-! laws.toEntryS -/
def F_laws_toEntryS_H_B0 {ρ : Type} (fu : Nat) (a0_0 : (Sl S_laws_Entry)) (out3_1 : Nat) (on0_3 : Nat) (k0 : (Nat → S_impl_Entry) → Option ρ) (i4_2 : Int) (of0_4 : (Nat → S_impl_Entry)) (go : Int → (Nat → S_impl_Entry) → Option ρ) : Option ρ :=
  (bif (decide (i4_2 < ((a0_0.n : Nat) : Int))) then ((bif (decide (0 ≤ i4_2) && decide ((Int.toNat i4_2) < a0_0.n)) then some () else none : Option Unit).bind fun _ =>
    ((F_laws_toEntry fu (a0_0.f (Int.toNat i4_2))).bind fun y4 => ((bif (decide (0 ≤ i4_2) && decide ((Int.toNat i4_2) < out3_1)) then some () else none : Option Unit).bind fun _ =>
    (go (IntKind.wrap .i64 (i4_2 + 1)) (fun j => if j = (Int.toNat i4_2) then y4 else of0_4 j))))) else (k0 of0_4))
def F_laws_toEntryS_H (fu : Nat) (a_0 : (Sl S_laws_Entry)) : Option ((Sl S_impl_Entry)) :=
  (bif (decide (0 ≤ ((a_0.n : Nat) : Int)) && (decide (((a_0.n : Nat) : Int) = ((a_0.n : Nat) : Int)) && (decide ((72 : Int) * ((a_0.n : Nat) : Int) ≤ 281474976710656) && decide (((a_0.n : Nat) : Int) ≤ 9223372036854775807)))) then
    (L (fun w0 go0 => F_laws_toEntryS_H_B0 fu a_0 (Int.toNat ((a_0.n : Nat) : Int)) (Int.toNat ((a_0.n : Nat) : Int)) (fun z5 => (some (⟨none, (Int.toNat ((a_0.n : Nat) : Int)), z5⟩ : (Sl S_impl_Entry)))) w0.1 w0.2 (fun q0 q1 =>
    go0 (q0, q1))) fu ((0, (fun _ => (⟨0, 0, 0, (⟨0, 0, 0, 0, 0, 0⟩ : S_impl_Cmd)⟩ : S_impl_Entry))) : Int × (Nat → S_impl_Entry))) else none)
def pcf_a2 (fu : Nat) (f : Nat) (xs : List (D RT den)) : Option (Out RT den) := match f with | 166 => S_a1 fu xs | _ => none
def pc_a2 (fu : Nat) : Pc RT den := ⟨pcf_a2 fu, fun _ => false, fun _ => false, pcd0, pcx0⟩
def msk_a2 (b : Nat) : List Nat := match b with | 0 => [1, 2, 5, 6, 7, 8, 9, 10, 11, 12, 13, 14, 15, 16, 17, 18, 19, 20, 21, 22] | 100000 => [0, 1, 4, 5, 6, 7, 8, 9, 10, 11, 12, 13, 14, 15, 16, 17, 18, 19, 20, 21, 22] | _ => []
def ps_a2_0 : List (Pat RT) := [.flat (.rs .laws_Entry), .flat .q, .flat .q, .flat (.os 0), .flat (.int .i64), .flat .q, .flat .q, .flat .q, .flat .q, .flat .q, .flat .q, .flat .q, .flat .q, .flat .q, .flat .q, .flat .q, .flat .q, .flat .q, .flat .q, .flat .q, .flat .q, .flat .q, .flat .q]
def os_a2_0 : List (OP RT) := [.row false .impl_Entry]
def conv_a2_0 (r : Raw den ps_a2_0 os_a2_0) : ((Sl S_laws_Entry) × Nat × Nat) × (Int × (Nat → S_impl_Entry)) := ((r.1.1, r.1.2.2.2.1, r.2.1.1), (r.1.2.2.2.2.1, r.2.1.2))
def back_a2_0 (c : (Sl S_laws_Entry) × Nat × Nat) (w : Int × (Nat → S_impl_Entry)) : St RT den := ⟨[(.rs c.1.z .laws_Entry c.1.n c.1.f), .q, .q, (.os 0 c.2.1), (.int .i64 w.1), .q, .q, .q, .q, .q, .q, .q, .q, .q, .q, .q, .q, .q, .q, .q, .q, .q, .q], [(.row false .impl_Entry c.2.2 w.2)]⟩
def Bk_a2_0 {ρ : Type} (fu : Nat) (c : (Sl S_laws_Entry) × Nat × Nat) (k : Ex → St RT den → Option ρ) (w : Int × (Nat → S_impl_Entry)) (go : (Int × (Nat → S_impl_Entry)) → Option ρ) : Option ρ := F_laws_toEntryS_H_B0 fu c.1 c.2.1 c.2.2 (fun a0 => k (.exit 0) ⟨[.q, .q, .q, (.os 0 c.2.1), .q, .q, .q, .q, .q, .q, .q, .q, .q, .q, .q, .q, .q, .q, .q, .q, .q, .q, .q], [(.row false .impl_Entry c.2.2 a0)]⟩) w.1 w.2 (fun q0 q1 => go (q0, q1))
def lp_a2 (fu : Nat) : Lp RT den ((Sl S_impl_Entry)) := fun b s k => match b with | 0 => handle ps_a2_0 os_a2_0 conv_a2_0 (Bk_a2_0 fu) fu s k | _ => none
theorem ev_a2 (fu : Nat) (a_0 : (Sl S_laws_Entry)) : evFunX E false (pc_a2 fu) msk_a2 (lp_a2 fu) out_sl_impl_Entry_H 164 [(.rs a_0.z .laws_Entry a_0.n a_0.f)] [] = F_laws_toEntryS_H fu a_0 := by kernel_rfl
noncomputable def body_a2 : Code := Try.f164.body.getD .skip
noncomputable def lc_a2_0 : Code := ((loops 0 body_a2).getD 0 (0, .skip)).2
theorem round_a2_0 (fu : Nat) (it : St RT den → Option ((Sl S_impl_Entry))) (k : Ex → St RT den → Option ((Sl S_impl_Entry))) c w : evCode E (pc_a2 fu) msk_a2 (lp_a2 fu) 0 lc_a2_0 (back_a2_0 c w) (after (msk_a2 0) (msk_a2 100000) 1 it k) = Bk_a2_0 fu c k w (fun w => it (back_a2_0 c w)) := by kernel_rfl
theorem lpok_a2_0 (fu : Nat) : ∀ s k r, lp_a2 fu 0 s k = some r → ∃ fuel, iter (msk_a2 0) (msk_a2 100000) s.objs.length (evCode E (pc_a2 fu) msk_a2 (lp_a2 fu) 0 lc_a2_0) fuel s k = some r :=
  handle_ok (ps := ps_a2_0) (os := os_a2_0) (conv := conv_a2_0) (B := Bk_a2_0 fu) (fu := fu) back_a2_0 (fun raw => by kernel_rfl) 1 (fun c w => by kernel_rfl) (round_a2_0 fu)
theorem lpok_a2 (fu : Nat) : LpOk E (pc_a2 fu) msk_a2 (lp_a2 fu) (loops 0 body_a2) := loop_all 1 (by kernel_rfl) fun i hi => match i, hi with
  | 0, _ => by
    have h : (loops 0 body_a2).getD 0 (0, .skip) = (0, lc_a2_0) := by kernel_rfl
    rw [h]; exact lpok_a2_0 fu
  | i + 1, hi => absurd hi (by omega)
def S_a2 (fu : Nat) (xs : List (D RT den)) (ins : List (Ob RT den)) : Option (OutX RT den) := match xs, ins with | [.rs za0_0 .laws_Entry na0_0 fa0_0], [] => some ⟨(Sl S_impl_Entry), F_laws_toEntryS_H fu (⟨za0_0, na0_0, fa0_0⟩ : (Sl S_laws_Entry)), enc_sl_impl_Entry_H⟩ | _, _ => none
theorem hpc_a2 (fu : Nat) : ∀ f xs o, pcf_a2 fu f xs = some o → ∀ y, o.x = some y → Good E Try.prog f xs (o.g y) := by
  intro f xs o h
  unfold pcf_a2 at h
  split at h
  · exact good_a1 fu xs o h
  · cases h
theorem goodv_a2 (fu : Nat) (a_0 : (Sl S_laws_Entry)) (y : (Sl S_impl_Entry)) (hy : F_laws_toEntryS_H fu a_0 = some y) : GoodX E Try.prog 164 [(.rs a_0.z .laws_Entry a_0.n a_0.f)] [] (enc_sl_impl_Entry_H y).1 (enc_sl_impl_Entry_H y).2 :=
  funX_good (ke := false) E_ok (pc_good (pc := pc_a2 fu) (hpc_a2 fu) hpx0) (fn := Try.f164) (c := body_a2) (out := out_sl_impl_Entry_H) (y := y) (by kernel_rfl) (by kernel_rfl) (by kernel_rfl) (lpok_a2 fu) (by kernel_rfl) (Nat.zero_le _) (fun d os hd => out_sl_impl_Entry_H_enc d os _ hd) ((ev_a2 fu a_0).trans hy)
theorem good_a2 (fu : Nat) : ∀ xs ins o, S_a2 fu xs ins = some o → ∀ y, o.x = some y → GoodX E Try.prog 164 xs ins (o.g y).1 (o.g y).2 := by
  intro xs ins o h y hy
  unfold S_a2 at h
  split at h
  · rename_i za0_0 na0_0 fa0_0
    cases h
    exact goodv_a2 fu (⟨za0_0, na0_0, fa0_0⟩ : (Sl S_laws_Entry)) y hy
  · cases h

/-! laws.toInt64S -/
def F_laws_toInt64S_H_B0 {ρ : Type} (fu : Nat) (a0_0 : (Sl Int)) (out3_1 : Nat) (on0_3 : Nat) (k0 : (Nat → Int) → Option ρ) (i4_2 : Int) (of0_4 : (Nat → Int)) (go : Int → (Nat → Int) → Option ρ) : Option ρ :=
  (bif (decide (i4_2 < ((a0_0.n : Nat) : Int))) then ((bif (decide (0 ≤ i4_2) && decide ((Int.toNat i4_2) < a0_0.n)) then some () else none : Option Unit).bind fun _ => ((bif (decide (0 ≤ i4_2) &&
    decide ((Int.toNat i4_2) < out3_1)) then some () else none : Option Unit).bind fun _ => (go (IntKind.wrap .i64 (i4_2 + 1)) (fun j => if j = (Int.toNat i4_2) then (a0_0.f (Int.toNat i4_2)) else
    of0_4 j)))) else (k0 of0_4))
def F_laws_toInt64S_H (fu : Nat) (a_0 : (Sl Int)) : Option ((Sl Int)) :=
  (bif (decide (0 ≤ ((a_0.n : Nat) : Int)) && (decide (((a_0.n : Nat) : Int) = ((a_0.n : Nat) : Int)) && (decide ((8 : Int) * ((a_0.n : Nat) : Int) ≤ 281474976710656) && decide (((a_0.n : Nat) : Int) ≤ 9223372036854775807)))) then
    (L (fun w0 go0 => F_laws_toInt64S_H_B0 fu a_0 (Int.toNat ((a_0.n : Nat) : Int)) (Int.toNat ((a_0.n : Nat) : Int)) (fun z9 => (some (⟨none, (Int.toNat ((a_0.n : Nat) : Int)), z9⟩ : (Sl Int)))) w0.1 w0.2 (fun q0 q1 =>
    go0 (q0, q1))) fu ((0, (fun _ => 0)) : Int × (Nat → Int))) else none)
def pc_a3 (fu : Nat) : Pc RT den := ⟨pcf0, fun _ => false, fun _ => false, pcd0, pcx0⟩
def msk_a3 (b : Nat) : List Nat := match b with | 0 => [1, 2, 5, 6, 7, 8, 9, 10, 11, 12, 13, 14, 15, 16, 17, 18, 19, 20, 21] | 100000 => [0, 1, 4, 5, 6, 7, 8, 9, 10, 11, 12, 13, 14, 15, 16, 17, 18, 19, 20, 21] | _ => []
def ps_a3_0 : List (Pat RT) := [.flat (.rs .i64), .flat .q, .flat .q, .flat (.os 0), .flat (.int .i64), .flat .q, .flat .q, .flat .q, .flat .q, .flat .q, .flat .q, .flat .q, .flat .q, .flat .q, .flat .q, .flat .q, .flat .q, .flat .q, .flat .q, .flat .q, .flat .q, .flat .q]
def os_a3_0 : List (OP RT) := [.row false .i64]
def conv_a3_0 (r : Raw den ps_a3_0 os_a3_0) : ((Sl Int) × Nat × Nat) × (Int × (Nat → Int)) := ((r.1.1, r.1.2.2.2.1, r.2.1.1), (r.1.2.2.2.2.1, r.2.1.2))
def back_a3_0 (c : (Sl Int) × Nat × Nat) (w : Int × (Nat → Int)) : St RT den := ⟨[(.rs c.1.z .i64 c.1.n c.1.f), .q, .q, (.os 0 c.2.1), (.int .i64 w.1), .q, .q, .q, .q, .q, .q, .q, .q, .q, .q, .q, .q, .q, .q, .q, .q, .q], [(.row false .i64 c.2.2 w.2)]⟩
def Bk_a3_0 {ρ : Type} (fu : Nat) (c : (Sl Int) × Nat × Nat) (k : Ex → St RT den → Option ρ) (w : Int × (Nat → Int)) (go : (Int × (Nat → Int)) → Option ρ) : Option ρ := F_laws_toInt64S_H_B0 fu c.1 c.2.1 c.2.2 (fun a0 => k (.exit 0) ⟨[.q, .q, .q, (.os 0 c.2.1), .q, .q, .q, .q, .q, .q, .q, .q, .q, .q, .q, .q, .q, .q, .q, .q, .q, .q], [(.row false .i64 c.2.2 a0)]⟩) w.1 w.2 (fun q0 q1 => go (q0, q1))
def lp_a3 (fu : Nat) : Lp RT den ((Sl Int)) := fun b s k => match b with | 0 => handle ps_a3_0 os_a3_0 conv_a3_0 (Bk_a3_0 fu) fu s k | _ => none
theorem ev_a3 (fu : Nat) (a_0 : (Sl Int)) : evFunX E false (pc_a3 fu) msk_a3 (lp_a3 fu) out_sl_i64_H 165 [(.rs a_0.z .i64 a_0.n a_0.f)] [] = F_laws_toInt64S_H fu a_0 := by kernel_rfl
noncomputable def body_a3 : Code := Try.f165.body.getD .skip
noncomputable def lc_a3_0 : Code := ((loops 0 body_a3).getD 0 (0, .skip)).2
theorem round_a3_0 (fu : Nat) (it : St RT den → Option ((Sl Int))) (k : Ex → St RT den → Option ((Sl Int))) c w : evCode E (pc_a3 fu) msk_a3 (lp_a3 fu) 0 lc_a3_0 (back_a3_0 c w) (after (msk_a3 0) (msk_a3 100000) 1 it k) = Bk_a3_0 fu c k w (fun w => it (back_a3_0 c w)) := by kernel_rfl
theorem lpok_a3_0 (fu : Nat) : ∀ s k r, lp_a3 fu 0 s k = some r → ∃ fuel, iter (msk_a3 0) (msk_a3 100000) s.objs.length (evCode E (pc_a3 fu) msk_a3 (lp_a3 fu) 0 lc_a3_0) fuel s k = some r :=
  handle_ok (ps := ps_a3_0) (os := os_a3_0) (conv := conv_a3_0) (B := Bk_a3_0 fu) (fu := fu) back_a3_0 (fun raw => by kernel_rfl) 1 (fun c w => by kernel_rfl) (round_a3_0 fu)
theorem lpok_a3 (fu : Nat) : LpOk E (pc_a3 fu) msk_a3 (lp_a3 fu) (loops 0 body_a3) := loop_all 1 (by kernel_rfl) fun i hi => match i, hi with
  | 0, _ => by
    have h : (loops 0 body_a3).getD 0 (0, .skip) = (0, lc_a3_0) := by kernel_rfl
    rw [h]; exact lpok_a3_0 fu
  | i + 1, hi => absurd hi (by omega)
def S_a3 (fu : Nat) (xs : List (D RT den)) (ins : List (Ob RT den)) : Option (OutX RT den) := match xs, ins with | [.rs za0_0 .i64 na0_0 fa0_0], [] => some ⟨(Sl Int), F_laws_toInt64S_H fu (⟨za0_0, na0_0, fa0_0⟩ : (Sl Int)), enc_sl_i64_H⟩ | _, _ => none
theorem goodv_a3 (fu : Nat) (a_0 : (Sl Int)) (y : (Sl Int)) (hy : F_laws_toInt64S_H fu a_0 = some y) : GoodX E Try.prog 165 [(.rs a_0.z .i64 a_0.n a_0.f)] [] (enc_sl_i64_H y).1 (enc_sl_i64_H y).2 :=
  funX_good (ke := false) E_ok (pc_good (pc := pc_a3 fu) hpc0 hpx0) (fn := Try.f165) (c := body_a3) (out := out_sl_i64_H) (y := y) (by kernel_rfl) (by kernel_rfl) (by kernel_rfl) (lpok_a3 fu) (by kernel_rfl) (Nat.zero_le _) (fun d os hd => out_sl_i64_H_enc d os _ hd) ((ev_a3 fu a_0).trans hy)
theorem good_a3 (fu : Nat) : ∀ xs ins o, S_a3 fu xs ins = some o → ∀ y, o.x = some y → GoodX E Try.prog 165 xs ins (o.g y).1 (o.g y).2 := by
  intro xs ins o h y hy
  unfold S_a3 at h
  split at h
  · rename_i za0_0 na0_0 fa0_0
    cases h
    exact goodv_a3 fu (⟨za0_0, na0_0, fa0_0⟩ : (Sl Int)) y hy
  · cases h

/-! laws.toNode -/
def F_laws_toNode_H (fu : Nat) (a_0 : S_laws_Node) : Option (S_impl_Node) :=
  ((F_laws_toEntryS_H fu a_0.Log).bind fun y13 => ((F_laws_toInt64S_H fu a_0.Votes).bind fun y14 => ((F_laws_toInt64S_H fu a_0.Next).bind fun y15 => ((F_laws_toInt64S_H fu a_0.Match).bind fun y16 =>
    (some (⟨a_0.Id, a_0.Peers, a_0.Term, a_0.Voted, (⟨none, y13.n, y13.f⟩ : (Sl S_impl_Entry)), a_0.Role, a_0.Commit, (⟨none, y14.n, y14.f⟩ : (Sl Int)), (⟨none, y15.n, y15.f⟩ : (Sl Int)),
    (⟨none, y16.n, y16.f⟩ : (Sl Int))⟩ : S_impl_Node))))))
def pcx_a4 (fu : Nat) (f : Nat) (xs : List (D RT den)) (ins : List (Ob RT den)) : Option (OutX RT den) := match f with | 164 => S_a2 fu xs ins | 165 => S_a3 fu xs ins | _ => none
def pcd_a4 : Nat → Bool := fun _ => false
def pc_a4 (fu : Nat) : Pc RT den := ⟨pcf0, fun f => match f with | 164 => true | 165 => true | _ => false, fun _ => false, pcd_a4, pcx_a4 fu⟩
def msk_a4 (b : Nat) : List Nat := []
def lp_a4 (fu : Nat) : Lp RT den (S_impl_Node) := fun b s k => none
theorem ev_a4 (fu : Nat) (a_0 : S_laws_Node) : evFunX E false (pc_a4 fu) msk_a4 (lp_a4 fu) out_impl_Node_H 108 [(.agg [(.int .i64 a_0.Id), (.int .i64 a_0.Peers), (.int .i64 a_0.Term), (.int .i64 a_0.Voted), (.rs a_0.Log.z .laws_Entry a_0.Log.n a_0.Log.f), (.int .i64 a_0.Role), (.int .i64 a_0.Commit), (.rs a_0.Votes.z .i64 a_0.Votes.n a_0.Votes.f), (.rs a_0.Next.z .i64 a_0.Next.n a_0.Next.f), (.rs a_0.Match.z .i64 a_0.Match.n a_0.Match.f)])] [] = F_laws_toNode_H fu a_0 := by kernel_rfl
noncomputable def body_a4 : Code := Try.f108.body.getD .skip
theorem lpok_a4 (fu : Nat) : LpOk E (pc_a4 fu) msk_a4 (lp_a4 fu) (loops 0 body_a4) := by
  have h : loops 0 body_a4 = [] := by kernel_rfl
  rw [h]; intro p hp; cases hp
def S_a4 (fu : Nat) (xs : List (D RT den)) (ins : List (Ob RT den)) : Option (OutX RT den) := match xs, ins with | [.agg [.int .i64 a0_1, .int .i64 a0_2, .int .i64 a0_3, .int .i64 a0_4, .rs za0_5 .laws_Entry na0_5 fa0_5, .int .i64 a0_6, .int .i64 a0_7, .rs za0_8 .i64 na0_8 fa0_8, .rs za0_9 .i64 na0_9 fa0_9, .rs za0_10 .i64 na0_10 fa0_10]], [] => some ⟨S_impl_Node, F_laws_toNode_H fu (⟨a0_1, a0_2, a0_3, a0_4, (⟨za0_5, na0_5, fa0_5⟩ : (Sl S_laws_Entry)), a0_6, a0_7, (⟨za0_8, na0_8, fa0_8⟩ : (Sl Int)), (⟨za0_9, na0_9, fa0_9⟩ : (Sl Int)), (⟨za0_10, na0_10, fa0_10⟩ : (Sl Int))⟩ : S_laws_Node), enc_impl_Node_H⟩ | _, _ => none
theorem hpx_a4 (fu : Nat) : ∀ f xs ins o, pcx_a4 fu f xs ins = some o → ∀ y, o.x = some y → GoodXD E Try.prog (pcd_a4 f) f xs ins (o.g y).1 (o.g y).2 := by
  intro f xs ins o h
  unfold pcx_a4 at h
  split at h
  · exact good_a2 fu xs ins o h
  · exact good_a3 fu xs ins o h
  · cases h
theorem goodv_a4 (fu : Nat) (a_0 : S_laws_Node) (y : S_impl_Node) (hy : F_laws_toNode_H fu a_0 = some y) : GoodX E Try.prog 108 [(.agg [(.int .i64 a_0.Id), (.int .i64 a_0.Peers), (.int .i64 a_0.Term), (.int .i64 a_0.Voted), (.rs a_0.Log.z .laws_Entry a_0.Log.n a_0.Log.f), (.int .i64 a_0.Role), (.int .i64 a_0.Commit), (.rs a_0.Votes.z .i64 a_0.Votes.n a_0.Votes.f), (.rs a_0.Next.z .i64 a_0.Next.n a_0.Next.f), (.rs a_0.Match.z .i64 a_0.Match.n a_0.Match.f)])] [] (enc_impl_Node_H y).1 (enc_impl_Node_H y).2 :=
  funX_good (ke := false) E_ok (pc_good (pc := pc_a4 fu) hpc0 (hpx_a4 fu)) (fn := Try.f108) (c := body_a4) (out := out_impl_Node_H) (y := y) (by kernel_rfl) (by kernel_rfl) (by kernel_rfl) (lpok_a4 fu) (by kernel_rfl) (Nat.zero_le _) (fun d os hd => out_impl_Node_H_enc d os _ hd) ((ev_a4 fu a_0).trans hy)
theorem good_a4 (fu : Nat) : ∀ xs ins o, S_a4 fu xs ins = some o → ∀ y, o.x = some y → GoodX E Try.prog 108 xs ins (o.g y).1 (o.g y).2 := by
  intro xs ins o h y hy
  unfold S_a4 at h
  split at h
  · rename_i a0_1 a0_2 a0_3 a0_4 za0_5 na0_5 fa0_5 a0_6 a0_7 za0_8 na0_8 fa0_8 za0_9 na0_9 fa0_9 za0_10 na0_10 fa0_10
    cases h
    exact goodv_a4 fu (⟨a0_1, a0_2, a0_3, a0_4, (⟨za0_5, na0_5, fa0_5⟩ : (Sl S_laws_Entry)), a0_6, a0_7, (⟨za0_8, na0_8, fa0_8⟩ : (Sl Int)), (⟨za0_9, na0_9, fa0_9⟩ : (Sl Int)), (⟨za0_10, na0_10, fa0_10⟩ : (Sl Int))⟩ : S_laws_Node) y hy
  · cases h

/-! laws.toNodeS -/
def F_laws_toNodeS_U_B0 {ρ : Type} (fu : Nat) (a0_0 : (Sl S_laws_Node)) (out3_1 : Nat) (on0_3 : Nat) (k0 : Nat → (Nat → S_impl_Node) → Option ρ) (i4_2 : Int) (op0_4 : Nat) (of0_5 : (Nat → S_impl_Node)) (go : Int → Nat → (Nat → S_impl_Node) → Option ρ) : Option ρ :=
  (bif (decide (i4_2 < ((a0_0.n : Nat) : Int))) then ((bif (decide (0 ≤ i4_2) && decide ((Int.toNat i4_2) < a0_0.n)) then some () else none : Option Unit).bind fun _ =>
    ((F_laws_toNode_H fu (a0_0.f (Int.toNat i4_2))).bind fun y18 => ((bif (decide (0 ≤ i4_2) && decide ((Int.toNat i4_2) < out3_1)) then some () else none : Option Unit).bind fun _ =>
    (bif (decide ((Int.toNat i4_2) = op0_4)) then (go (IntKind.wrap .i64 (i4_2 + 1)) (op0_4 + 1) (fun j => if j = (Int.toNat i4_2) then (⟨y18.Id, y18.Peers, y18.Term, y18.Voted,
    (⟨none, y18.Log.n, y18.Log.f⟩ : (Sl S_impl_Entry)), y18.Role, y18.Commit, (⟨none, y18.Votes.n, y18.Votes.f⟩ : (Sl Int)), (⟨none, y18.Next.n, y18.Next.f⟩ : (Sl Int)), (⟨none,
    y18.Match.n, y18.Match.f⟩ : (Sl Int))⟩ : S_impl_Node) else of0_5 j)) else none)))) else (k0 op0_4 of0_5))
def F_laws_toNodeS_U (fu : Nat) (a_0 : (Sl S_laws_Node)) : Option (Nat × Nat × (Nat → S_impl_Node)) :=
  (bif (decide (0 ≤ ((a_0.n : Nat) : Int)) && (decide (((a_0.n : Nat) : Int) = ((a_0.n : Nat) : Int)) && (decide ((144 : Int) * ((a_0.n : Nat) : Int) ≤ 281474976710656) && decide (((a_0.n : Nat) : Int) ≤ 9223372036854775807)))) then
    (L (fun w0 go0 => F_laws_toNodeS_U_B0 fu a_0 (Int.toNat ((a_0.n : Nat) : Int)) (Int.toNat ((a_0.n : Nat) : Int)) (fun z19 z20 => (bif (decide ((Int.toNat ((a_0.n : Nat) : Int)) ≤ z19) &&
    true) then (bif (decide ((Int.toNat ((a_0.n : Nat) : Int)) = (Int.toNat ((a_0.n : Nat) : Int))) && true) then (some ((Int.toNat ((a_0.n : Nat) : Int)), (Int.toNat ((a_0.n : Nat) : Int)),
    z20)) else none) else none)) w0.1 w0.2.1 w0.2.2 (fun q0 q1 q2 => go0 (q0, q1, q2))) fu ((0, 0, (fun _ => (⟨0, 0, 0, 0, (⟨(some true), 0, (fun _ => dflt .impl_Entry)⟩ : (Sl S_impl_Entry)),
    0, 0, (⟨(some true), 0, (fun _ => dflt .i64)⟩ : (Sl Int)), (⟨(some true), 0, (fun _ => dflt .i64)⟩ : (Sl Int)), (⟨(some true), 0, (fun _ => dflt .i64)⟩ : (Sl Int))⟩ : S_impl_Node))) : Int × Nat × (Nat → S_impl_Node))) else
    none)
def pcx_a5 (fu : Nat) (f : Nat) (xs : List (D RT den)) (ins : List (Ob RT den)) : Option (OutX RT den) := match f with | 108 => S_a4 fu xs ins | _ => none
def pcd_a5 : Nat → Bool := fun _ => false
def pc_a5 (fu : Nat) : Pc RT den := ⟨pcf0, fun f => match f with | 108 => true | _ => false, fun _ => false, pcd_a5, pcx_a5 fu⟩
def msk_a5 (b : Nat) : List Nat := match b with | 0 => [1, 2, 5, 6, 7, 8, 9, 10, 11, 12, 13, 14, 15, 16, 17, 18, 19, 20, 21, 22] | 100000 => [0, 1, 4, 5, 6, 7, 8, 9, 10, 11, 12, 13, 14, 15, 16, 17, 18, 19, 20, 21, 22] | 300000 => [5000000] | _ => []
def ps_a5_0 : List (Pat RT) := [.flat (.rs .laws_Node), .flat .q, .flat .q, .flat (.os 0), .flat (.int .i64), .flat .q, .flat .q, .flat .q, .flat .q, .flat .q, .flat .q, .flat .q, .flat .q, .flat .q, .flat .q, .flat .q, .flat .q, .flat .q, .flat .q, .flat .q, .flat .q, .flat .q, .flat .q]
def os_a5_0 : List (OP RT) := [.deep false .impl_Node]
def conv_a5_0 (r : Raw den ps_a5_0 os_a5_0) : ((Sl S_laws_Node) × Nat × Nat) × (Int × Nat × (Nat → S_impl_Node)) := ((r.1.1, r.1.2.2.2.1, r.2.1.1), (r.1.2.2.2.2.1, r.2.1.2.1, r.2.1.2.2))
def back_a5_0 (c : (Sl S_laws_Node) × Nat × Nat) (w : Int × Nat × (Nat → S_impl_Node)) : St RT den := ⟨[(.rs c.1.z .laws_Node c.1.n c.1.f), .q, .q, (.os 0 c.2.1), (.int .i64 w.1), .q, .q, .q, .q, .q, .q, .q, .q, .q, .q, .q, .q, .q, .q, .q, .q, .q, .q], [(.deep false .impl_Node c.2.2 w.2.1 w.2.2)]⟩
def Bk_a5_0 {ρ : Type} (fu : Nat) (c : (Sl S_laws_Node) × Nat × Nat) (k : Ex → St RT den → Option ρ) (w : Int × Nat × (Nat → S_impl_Node)) (go : (Int × Nat × (Nat → S_impl_Node)) → Option ρ) : Option ρ := F_laws_toNodeS_U_B0 fu c.1 c.2.1 c.2.2 (fun a0 a1 => k (.exit 0) ⟨[.q, .q, .q, (.os 0 c.2.1), .q, .q, .q, .q, .q, .q, .q, .q, .q, .q, .q, .q, .q, .q, .q, .q, .q, .q, .q], [(.deep false .impl_Node c.2.2 a0 a1)]⟩) w.1 w.2.1 w.2.2 (fun q0 q1 q2 => go (q0, q1, q2))
def lp_a5 (fu : Nat) : Lp RT den (Nat × Nat × (Nat → S_impl_Node)) := fun b s k => match b with | 0 => handle ps_a5_0 os_a5_0 conv_a5_0 (Bk_a5_0 fu) fu s k | _ => none
def pso_a5 : List (Pat RT) := [.flat (.os 0)]
def oso_a5 : List (OP RT) := [.deep false .impl_Node]
def conv_a5 (r : Raw den pso_a5 oso_a5) : Nat × Nat × (Nat → S_impl_Node) := (r.1.1, r.2.1.1, r.2.1.2.2)
def enc_a5 (y : Nat × Nat × (Nat → S_impl_Node)) : D RT den × List (Ob RT den) := ((.os 0 y.1), [(.deep false .impl_Node y.2.1 y.2.1 y.2.2)])
def chk_a5 (r : Raw den pso_a5 oso_a5) : Bool := (decide (r.2.1.2.1 = r.2.1.1) && true)
def raw_a5 (r : Raw den pso_a5 oso_a5) : St RT den := ⟨[(.os 0 r.1.1)], [(.deep false .impl_Node r.2.1.1 r.2.1.2.1 r.2.1.2.2)]⟩
theorem chkd_a5 (r : Raw den pso_a5 oso_a5) (h : chk_a5 r = true) : raw_a5 r = ⟨[(enc_a5 (conv_a5 r)).1], (enc_a5 (conv_a5 r)).2⟩ := by
  simp only [chk_a5, Bool.and_eq_true, decide_eq_true_eq, and_true] at h
  simp only [raw_a5, enc_a5, conv_a5, h]
def out_a5 (d : D RT den) (os : List (Ob RT den)) : Option (Nat × Nat × (Nat → S_impl_Node)) := (unSt pso_a5 oso_a5 ⟨[d], os⟩).bind fun v => bif chk_a5 v.1 then some (conv_a5 v.1) else none
theorem out_a5_enc (d : D RT den) (os : List (Ob RT den)) (y : Nat × Nat × (Nat → S_impl_Node)) (h : out_a5 d os = some y) : d = (enc_a5 y).1 ∧ os = (enc_a5 y).2 :=
  outU (conv := conv_a5) (enc := enc_a5) (chk := chk_a5) (fun raw h => Eq.trans (by kernel_rfl) (chkd_a5 raw h)) h
theorem ev_a5 (fu : Nat) (a_0 : (Sl S_laws_Node)) : evFunU E (pc_a5 fu) msk_a5 (lp_a5 fu) out_a5 44 [(.rs a_0.z .laws_Node a_0.n a_0.f)] [] = F_laws_toNodeS_U fu a_0 := by kernel_rfl
noncomputable def body_a5 : Code := Try.f44.body.getD .skip
noncomputable def lc_a5_0 : Code := ((loops 0 body_a5).getD 0 (0, .skip)).2
theorem round_a5_0 (fu : Nat) (it : St RT den → Option (Nat × Nat × (Nat → S_impl_Node))) (k : Ex → St RT den → Option (Nat × Nat × (Nat → S_impl_Node))) c w : evCode E (pc_a5 fu) msk_a5 (lp_a5 fu) 0 lc_a5_0 (back_a5_0 c w) (after (msk_a5 0) (msk_a5 100000) 1 it k) = Bk_a5_0 fu c k w (fun w => it (back_a5_0 c w)) := by kernel_rfl
theorem lpok_a5_0 (fu : Nat) : ∀ s k r, lp_a5 fu 0 s k = some r → ∃ fuel, iter (msk_a5 0) (msk_a5 100000) s.objs.length (evCode E (pc_a5 fu) msk_a5 (lp_a5 fu) 0 lc_a5_0) fuel s k = some r :=
  handle_ok (ps := ps_a5_0) (os := os_a5_0) (conv := conv_a5_0) (B := Bk_a5_0 fu) (fu := fu) back_a5_0 (fun raw => by kernel_rfl) 1 (fun c w => by kernel_rfl) (round_a5_0 fu)
theorem lpok_a5 (fu : Nat) : LpOk E (pc_a5 fu) msk_a5 (lp_a5 fu) (loops 0 body_a5) := loop_all 1 (by kernel_rfl) fun i hi => match i, hi with
  | 0, _ => by
    have h : (loops 0 body_a5).getD 0 (0, .skip) = (0, lc_a5_0) := by kernel_rfl
    rw [h]; exact lpok_a5_0 fu
  | i + 1, hi => absurd hi (by omega)
def S_a5 (fu : Nat) (xs : List (D RT den)) (ins : List (Ob RT den)) : Option (OutX RT den) := match xs, ins with | [.rs za0_0 .laws_Node na0_0 fa0_0], [] => some ⟨Nat × Nat × (Nat → S_impl_Node), F_laws_toNodeS_U fu (⟨za0_0, na0_0, fa0_0⟩ : (Sl S_laws_Node)), enc_a5⟩ | _, _ => none
theorem hpx_a5 (fu : Nat) : ∀ f xs ins o, pcx_a5 fu f xs ins = some o → ∀ y, o.x = some y → GoodXD E Try.prog (pcd_a5 f) f xs ins (o.g y).1 (o.g y).2 := by
  intro f xs ins o h
  unfold pcx_a5 at h
  split at h
  · exact good_a4 fu xs ins o h
  · cases h
theorem goodv_a5 (fu : Nat) (a_0 : (Sl S_laws_Node)) (y : Nat × Nat × (Nat → S_impl_Node)) (hy : F_laws_toNodeS_U fu a_0 = some y) : GoodD E Try.prog 44 [(.rs a_0.z .laws_Node a_0.n a_0.f)] [] (enc_a5 y).1 (enc_a5 y).2 :=
  funU_good E_ok (pc_good (pc := pc_a5 fu) hpc0 (hpx_a5 fu)) (fn := Try.f44) (c := body_a5) (out := out_a5) (y := y) (by kernel_rfl) (by kernel_rfl) (by kernel_rfl) (lpok_a5 fu) (by kernel_rfl) (Nat.le_of_ble_eq_true (by kernel_rfl)) (Fulls.get 0 (And.intro (Nat.le_refl _) trivial)) (fun d os hd => out_a5_enc d os _ hd) ((ev_a5 fu a_0).trans hy)
theorem good_a5 (fu : Nat) : ∀ xs ins o, S_a5 fu xs ins = some o → ∀ y, o.x = some y → GoodD E Try.prog 44 xs ins (o.g y).1 (o.g y).2 := by
  intro xs ins o h y hy
  unfold S_a5 at h
  split at h
  · rename_i za0_0 na0_0 fa0_0
    cases h
    exact goodv_a5 fu (⟨za0_0, na0_0, fa0_0⟩ : (Sl S_laws_Node)) y hy
  · cases h

/-! laws.toMail -/
def F_laws_toMail_H (fu : Nat) (a_0 : S_laws_Mail) : Option (S_impl_Mail) :=
  ((F_laws_toEntryS_H fu a_0.Entries).bind fun y23 => (some (⟨a_0.Kind, a_0.From, a_0.To, a_0.Term, a_0.Index, a_0.Last, a_0.Commit, a_0.Ok, (⟨none, y23.n, y23.f⟩ : (Sl S_impl_Entry))⟩ : S_impl_Mail)))
def pcx_a6 (fu : Nat) (f : Nat) (xs : List (D RT den)) (ins : List (Ob RT den)) : Option (OutX RT den) := match f with | 164 => S_a2 fu xs ins | _ => none
def pcd_a6 : Nat → Bool := fun _ => false
def pc_a6 (fu : Nat) : Pc RT den := ⟨pcf0, fun f => match f with | 164 => true | _ => false, fun _ => false, pcd_a6, pcx_a6 fu⟩
def msk_a6 (b : Nat) : List Nat := []
def lp_a6 (fu : Nat) : Lp RT den (S_impl_Mail) := fun b s k => none
theorem ev_a6 (fu : Nat) (a_0 : S_laws_Mail) : evFunX E false (pc_a6 fu) msk_a6 (lp_a6 fu) out_impl_Mail_H 109 [(.agg [(.int .i64 a_0.Kind), (.int .i64 a_0.From), (.int .i64 a_0.To), (.int .i64 a_0.Term), (.int .i64 a_0.Index), (.int .i64 a_0.Last), (.int .i64 a_0.Commit), (.bool a_0.Ok), (.rs a_0.Entries.z .laws_Entry a_0.Entries.n a_0.Entries.f)])] [] = F_laws_toMail_H fu a_0 := by kernel_rfl
noncomputable def body_a6 : Code := Try.f109.body.getD .skip
theorem lpok_a6 (fu : Nat) : LpOk E (pc_a6 fu) msk_a6 (lp_a6 fu) (loops 0 body_a6) := by
  have h : loops 0 body_a6 = [] := by kernel_rfl
  rw [h]; intro p hp; cases hp
def S_a6 (fu : Nat) (xs : List (D RT den)) (ins : List (Ob RT den)) : Option (OutX RT den) := match xs, ins with | [.agg [.int .i64 a0_1, .int .i64 a0_2, .int .i64 a0_3, .int .i64 a0_4, .int .i64 a0_5, .int .i64 a0_6, .int .i64 a0_7, .bool a0_8, .rs za0_9 .laws_Entry na0_9 fa0_9]], [] => some ⟨S_impl_Mail, F_laws_toMail_H fu (⟨a0_1, a0_2, a0_3, a0_4, a0_5, a0_6, a0_7, a0_8, (⟨za0_9, na0_9, fa0_9⟩ : (Sl S_laws_Entry))⟩ : S_laws_Mail), enc_impl_Mail_H⟩ | _, _ => none
theorem hpx_a6 (fu : Nat) : ∀ f xs ins o, pcx_a6 fu f xs ins = some o → ∀ y, o.x = some y → GoodXD E Try.prog (pcd_a6 f) f xs ins (o.g y).1 (o.g y).2 := by
  intro f xs ins o h
  unfold pcx_a6 at h
  split at h
  · exact good_a2 fu xs ins o h
  · cases h
theorem goodv_a6 (fu : Nat) (a_0 : S_laws_Mail) (y : S_impl_Mail) (hy : F_laws_toMail_H fu a_0 = some y) : GoodX E Try.prog 109 [(.agg [(.int .i64 a_0.Kind), (.int .i64 a_0.From), (.int .i64 a_0.To), (.int .i64 a_0.Term), (.int .i64 a_0.Index), (.int .i64 a_0.Last), (.int .i64 a_0.Commit), (.bool a_0.Ok), (.rs a_0.Entries.z .laws_Entry a_0.Entries.n a_0.Entries.f)])] [] (enc_impl_Mail_H y).1 (enc_impl_Mail_H y).2 :=
  funX_good (ke := false) E_ok (pc_good (pc := pc_a6 fu) hpc0 (hpx_a6 fu)) (fn := Try.f109) (c := body_a6) (out := out_impl_Mail_H) (y := y) (by kernel_rfl) (by kernel_rfl) (by kernel_rfl) (lpok_a6 fu) (by kernel_rfl) (Nat.zero_le _) (fun d os hd => out_impl_Mail_H_enc d os _ hd) ((ev_a6 fu a_0).trans hy)
theorem good_a6 (fu : Nat) : ∀ xs ins o, S_a6 fu xs ins = some o → ∀ y, o.x = some y → GoodX E Try.prog 109 xs ins (o.g y).1 (o.g y).2 := by
  intro xs ins o h y hy
  unfold S_a6 at h
  split at h
  · rename_i a0_1 a0_2 a0_3 a0_4 a0_5 a0_6 a0_7 a0_8 za0_9 na0_9 fa0_9
    cases h
    exact goodv_a6 fu (⟨a0_1, a0_2, a0_3, a0_4, a0_5, a0_6, a0_7, a0_8, (⟨za0_9, na0_9, fa0_9⟩ : (Sl S_laws_Entry))⟩ : S_laws_Mail) y hy
  · cases h

/-! laws.toMailS -/
def F_laws_toMailS_U_B0 {ρ : Type} (fu : Nat) (a0_0 : (Sl S_laws_Mail)) (out3_1 : Nat) (on0_3 : Nat) (k0 : Nat → (Nat → S_impl_Mail) → Option ρ) (i4_2 : Int) (op0_4 : Nat) (of0_5 : (Nat → S_impl_Mail)) (go : Int → Nat → (Nat → S_impl_Mail) → Option ρ) : Option ρ :=
  (bif (decide (i4_2 < ((a0_0.n : Nat) : Int))) then ((bif (decide (0 ≤ i4_2) && decide ((Int.toNat i4_2) < a0_0.n)) then some () else none : Option Unit).bind fun _ =>
    ((F_laws_toMail_H fu (a0_0.f (Int.toNat i4_2))).bind fun y25 => ((bif (decide (0 ≤ i4_2) && decide ((Int.toNat i4_2) < out3_1)) then some () else none : Option Unit).bind fun _ =>
    (bif (decide ((Int.toNat i4_2) = op0_4)) then (go (IntKind.wrap .i64 (i4_2 + 1)) (op0_4 + 1) (fun j => if j = (Int.toNat i4_2) then (⟨y25.Kind, y25.From, y25.To, y25.Term,
    y25.Index, y25.Last, y25.Commit, y25.Ok, (⟨none, y25.Entries.n, y25.Entries.f⟩ : (Sl S_impl_Entry))⟩ : S_impl_Mail) else of0_5 j)) else none)))) else (k0 op0_4 of0_5))
def F_laws_toMailS_U (fu : Nat) (a_0 : (Sl S_laws_Mail)) : Option (Nat × Nat × (Nat → S_impl_Mail)) :=
  (bif (decide (0 ≤ ((a_0.n : Nat) : Int)) && (decide (((a_0.n : Nat) : Int) = ((a_0.n : Nat) : Int)) && (decide ((88 : Int) * ((a_0.n : Nat) : Int) ≤ 281474976710656) && decide (((a_0.n : Nat) : Int) ≤ 9223372036854775807)))) then
    (L (fun w0 go0 => F_laws_toMailS_U_B0 fu a_0 (Int.toNat ((a_0.n : Nat) : Int)) (Int.toNat ((a_0.n : Nat) : Int)) (fun z26 z27 => (bif (decide ((Int.toNat ((a_0.n : Nat) : Int)) ≤ z26) &&
    true) then (bif (decide ((Int.toNat ((a_0.n : Nat) : Int)) = (Int.toNat ((a_0.n : Nat) : Int))) && true) then (some ((Int.toNat ((a_0.n : Nat) : Int)), (Int.toNat ((a_0.n : Nat) : Int)),
    z27)) else none) else none)) w0.1 w0.2.1 w0.2.2 (fun q0 q1 q2 => go0 (q0, q1, q2))) fu ((0, 0, (fun _ => (⟨0, 0, 0, 0, 0, 0, 0, false, (⟨(some true), 0, (fun _ => dflt .impl_Entry)⟩ : (Sl S_impl_Entry))⟩ : S_impl_Mail))) : Int × Nat × (Nat → S_impl_Mail))) else
    none)
def pcx_a7 (fu : Nat) (f : Nat) (xs : List (D RT den)) (ins : List (Ob RT den)) : Option (OutX RT den) := match f with | 109 => S_a6 fu xs ins | _ => none
def pcd_a7 : Nat → Bool := fun _ => false
def pc_a7 (fu : Nat) : Pc RT den := ⟨pcf0, fun f => match f with | 109 => true | _ => false, fun _ => false, pcd_a7, pcx_a7 fu⟩
def msk_a7 (b : Nat) : List Nat := match b with | 0 => [1, 2, 5, 6, 7, 8, 9, 10, 11, 12, 13, 14, 15, 16, 17, 18, 19, 20, 21, 22] | 100000 => [0, 1, 4, 5, 6, 7, 8, 9, 10, 11, 12, 13, 14, 15, 16, 17, 18, 19, 20, 21, 22] | 300000 => [5000000] | _ => []
def ps_a7_0 : List (Pat RT) := [.flat (.rs .laws_Mail), .flat .q, .flat .q, .flat (.os 0), .flat (.int .i64), .flat .q, .flat .q, .flat .q, .flat .q, .flat .q, .flat .q, .flat .q, .flat .q, .flat .q, .flat .q, .flat .q, .flat .q, .flat .q, .flat .q, .flat .q, .flat .q, .flat .q, .flat .q]
def os_a7_0 : List (OP RT) := [.deep false .impl_Mail]
def conv_a7_0 (r : Raw den ps_a7_0 os_a7_0) : ((Sl S_laws_Mail) × Nat × Nat) × (Int × Nat × (Nat → S_impl_Mail)) := ((r.1.1, r.1.2.2.2.1, r.2.1.1), (r.1.2.2.2.2.1, r.2.1.2.1, r.2.1.2.2))
def back_a7_0 (c : (Sl S_laws_Mail) × Nat × Nat) (w : Int × Nat × (Nat → S_impl_Mail)) : St RT den := ⟨[(.rs c.1.z .laws_Mail c.1.n c.1.f), .q, .q, (.os 0 c.2.1), (.int .i64 w.1), .q, .q, .q, .q, .q, .q, .q, .q, .q, .q, .q, .q, .q, .q, .q, .q, .q, .q], [(.deep false .impl_Mail c.2.2 w.2.1 w.2.2)]⟩
def Bk_a7_0 {ρ : Type} (fu : Nat) (c : (Sl S_laws_Mail) × Nat × Nat) (k : Ex → St RT den → Option ρ) (w : Int × Nat × (Nat → S_impl_Mail)) (go : (Int × Nat × (Nat → S_impl_Mail)) → Option ρ) : Option ρ := F_laws_toMailS_U_B0 fu c.1 c.2.1 c.2.2 (fun a0 a1 => k (.exit 0) ⟨[.q, .q, .q, (.os 0 c.2.1), .q, .q, .q, .q, .q, .q, .q, .q, .q, .q, .q, .q, .q, .q, .q, .q, .q, .q, .q], [(.deep false .impl_Mail c.2.2 a0 a1)]⟩) w.1 w.2.1 w.2.2 (fun q0 q1 q2 => go (q0, q1, q2))
def lp_a7 (fu : Nat) : Lp RT den (Nat × Nat × (Nat → S_impl_Mail)) := fun b s k => match b with | 0 => handle ps_a7_0 os_a7_0 conv_a7_0 (Bk_a7_0 fu) fu s k | _ => none
def pso_a7 : List (Pat RT) := [.flat (.os 0)]
def oso_a7 : List (OP RT) := [.deep false .impl_Mail]
def conv_a7 (r : Raw den pso_a7 oso_a7) : Nat × Nat × (Nat → S_impl_Mail) := (r.1.1, r.2.1.1, r.2.1.2.2)
def enc_a7 (y : Nat × Nat × (Nat → S_impl_Mail)) : D RT den × List (Ob RT den) := ((.os 0 y.1), [(.deep false .impl_Mail y.2.1 y.2.1 y.2.2)])
def chk_a7 (r : Raw den pso_a7 oso_a7) : Bool := (decide (r.2.1.2.1 = r.2.1.1) && true)
def raw_a7 (r : Raw den pso_a7 oso_a7) : St RT den := ⟨[(.os 0 r.1.1)], [(.deep false .impl_Mail r.2.1.1 r.2.1.2.1 r.2.1.2.2)]⟩
theorem chkd_a7 (r : Raw den pso_a7 oso_a7) (h : chk_a7 r = true) : raw_a7 r = ⟨[(enc_a7 (conv_a7 r)).1], (enc_a7 (conv_a7 r)).2⟩ := by
  simp only [chk_a7, Bool.and_eq_true, decide_eq_true_eq, and_true] at h
  simp only [raw_a7, enc_a7, conv_a7, h]
def out_a7 (d : D RT den) (os : List (Ob RT den)) : Option (Nat × Nat × (Nat → S_impl_Mail)) := (unSt pso_a7 oso_a7 ⟨[d], os⟩).bind fun v => bif chk_a7 v.1 then some (conv_a7 v.1) else none
theorem out_a7_enc (d : D RT den) (os : List (Ob RT den)) (y : Nat × Nat × (Nat → S_impl_Mail)) (h : out_a7 d os = some y) : d = (enc_a7 y).1 ∧ os = (enc_a7 y).2 :=
  outU (conv := conv_a7) (enc := enc_a7) (chk := chk_a7) (fun raw h => Eq.trans (by kernel_rfl) (chkd_a7 raw h)) h
theorem ev_a7 (fu : Nat) (a_0 : (Sl S_laws_Mail)) : evFunU E (pc_a7 fu) msk_a7 (lp_a7 fu) out_a7 45 [(.rs a_0.z .laws_Mail a_0.n a_0.f)] [] = F_laws_toMailS_U fu a_0 := by kernel_rfl
noncomputable def body_a7 : Code := Try.f45.body.getD .skip
noncomputable def lc_a7_0 : Code := ((loops 0 body_a7).getD 0 (0, .skip)).2
theorem round_a7_0 (fu : Nat) (it : St RT den → Option (Nat × Nat × (Nat → S_impl_Mail))) (k : Ex → St RT den → Option (Nat × Nat × (Nat → S_impl_Mail))) c w : evCode E (pc_a7 fu) msk_a7 (lp_a7 fu) 0 lc_a7_0 (back_a7_0 c w) (after (msk_a7 0) (msk_a7 100000) 1 it k) = Bk_a7_0 fu c k w (fun w => it (back_a7_0 c w)) := by kernel_rfl
theorem lpok_a7_0 (fu : Nat) : ∀ s k r, lp_a7 fu 0 s k = some r → ∃ fuel, iter (msk_a7 0) (msk_a7 100000) s.objs.length (evCode E (pc_a7 fu) msk_a7 (lp_a7 fu) 0 lc_a7_0) fuel s k = some r :=
  handle_ok (ps := ps_a7_0) (os := os_a7_0) (conv := conv_a7_0) (B := Bk_a7_0 fu) (fu := fu) back_a7_0 (fun raw => by kernel_rfl) 1 (fun c w => by kernel_rfl) (round_a7_0 fu)
theorem lpok_a7 (fu : Nat) : LpOk E (pc_a7 fu) msk_a7 (lp_a7 fu) (loops 0 body_a7) := loop_all 1 (by kernel_rfl) fun i hi => match i, hi with
  | 0, _ => by
    have h : (loops 0 body_a7).getD 0 (0, .skip) = (0, lc_a7_0) := by kernel_rfl
    rw [h]; exact lpok_a7_0 fu
  | i + 1, hi => absurd hi (by omega)
def S_a7 (fu : Nat) (xs : List (D RT den)) (ins : List (Ob RT den)) : Option (OutX RT den) := match xs, ins with | [.rs za0_0 .laws_Mail na0_0 fa0_0], [] => some ⟨Nat × Nat × (Nat → S_impl_Mail), F_laws_toMailS_U fu (⟨za0_0, na0_0, fa0_0⟩ : (Sl S_laws_Mail)), enc_a7⟩ | _, _ => none
theorem hpx_a7 (fu : Nat) : ∀ f xs ins o, pcx_a7 fu f xs ins = some o → ∀ y, o.x = some y → GoodXD E Try.prog (pcd_a7 f) f xs ins (o.g y).1 (o.g y).2 := by
  intro f xs ins o h
  unfold pcx_a7 at h
  split at h
  · exact good_a6 fu xs ins o h
  · cases h
theorem goodv_a7 (fu : Nat) (a_0 : (Sl S_laws_Mail)) (y : Nat × Nat × (Nat → S_impl_Mail)) (hy : F_laws_toMailS_U fu a_0 = some y) : GoodD E Try.prog 45 [(.rs a_0.z .laws_Mail a_0.n a_0.f)] [] (enc_a7 y).1 (enc_a7 y).2 :=
  funU_good E_ok (pc_good (pc := pc_a7 fu) hpc0 (hpx_a7 fu)) (fn := Try.f45) (c := body_a7) (out := out_a7) (y := y) (by kernel_rfl) (by kernel_rfl) (by kernel_rfl) (lpok_a7 fu) (by kernel_rfl) (Nat.le_of_ble_eq_true (by kernel_rfl)) (Fulls.get 0 (And.intro (Nat.le_refl _) trivial)) (fun d os hd => out_a7_enc d os _ hd) ((ev_a7 fu a_0).trans hy)
theorem good_a7 (fu : Nat) : ∀ xs ins o, S_a7 fu xs ins = some o → ∀ y, o.x = some y → GoodD E Try.prog 45 xs ins (o.g y).1 (o.g y).2 := by
  intro xs ins o h y hy
  unfold S_a7 at h
  split at h
  · rename_i za0_0 na0_0 fa0_0
    cases h
    exact goodv_a7 fu (⟨za0_0, na0_0, fa0_0⟩ : (Sl S_laws_Mail)) y hy
  · cases h

/-! laws.toWon -/
def F_laws_toWon (fu : Nat) (a_0 : S_impl_Won) : Option (S_impl_Won) :=
  (some a_0)
def pc_a8 (fu : Nat) : Pc RT den := ⟨pcf0, fun _ => false, fun _ => false, pcd0, pcx0⟩
def msk_a8 (b : Nat) : List Nat := []
def lp_a8 (fu : Nat) : Lp RT den (S_impl_Won) := fun b s k => none
theorem ev_a8 (fu : Nat) (a_0 : S_impl_Won) : evFun E (pc_a8 fu) msk_a8 (lp_a8 fu) out_impl_Won 110 [(.agg [(.int .i64 a_0.Term), (.int .i64 a_0.Node)])] = F_laws_toWon fu a_0 := by kernel_rfl
noncomputable def body_a8 : Code := Try.f110.body.getD .skip
theorem lpok_a8 (fu : Nat) : LpOk E (pc_a8 fu) msk_a8 (lp_a8 fu) (loops 0 body_a8) := by
  have h : loops 0 body_a8 = [] := by kernel_rfl
  rw [h]; intro p hp; cases hp
def S_a8 (fu : Nat) (xs : List (D RT den)) : Option (Out RT den) := match xs with | [.agg [.int .i64 a0_1, .int .i64 a0_2]] => some ⟨S_impl_Won, F_laws_toWon fu (⟨a0_1, a0_2⟩ : S_impl_Won), enc_impl_Won, fun _ => true⟩ | _ => none
theorem goodv_a8 (fu : Nat) (a_0 : S_impl_Won) (y : S_impl_Won) (hy : F_laws_toWon fu a_0 = some y) : Good E Try.prog 110 [(.agg [(.int .i64 a_0.Term), (.int .i64 a_0.Node)])] (enc_impl_Won y) :=
  fun_good E_ok (pc_good (pc := pc_a8 fu) hpc0 hpx0) (fn := Try.f110) (c := body_a8) (out := out_impl_Won) (y := y) (by kernel_rfl) (by kernel_rfl) (by kernel_rfl) (lpok_a8 fu) (fun d hd => out_impl_Won_enc d _ hd) ((ev_a8 fu a_0).trans hy)
theorem good_a8 (fu : Nat) : ∀ xs o, S_a8 fu xs = some o → ∀ y, o.x = some y → Good E Try.prog 110 xs (o.g y) := by
  intro xs o h y hy
  unfold S_a8 at h
  split at h
  · rename_i a0_1 a0_2
    cases h
    exact goodv_a8 fu (⟨a0_1, a0_2⟩ : S_impl_Won) y hy
  · cases h

/-! laws.toWonS -/
def F_laws_toWonS_H_B0 {ρ : Type} (fu : Nat) (a0_0 : (Sl S_impl_Won)) (out3_1 : Nat) (on0_3 : Nat) (k0 : (Nat → S_impl_Won) → Option ρ) (i4_2 : Int) (of0_4 : (Nat → S_impl_Won)) (go : Int → (Nat → S_impl_Won) → Option ρ) : Option ρ :=
  (bif (decide (i4_2 < ((a0_0.n : Nat) : Int))) then ((bif (decide (0 ≤ i4_2) && decide ((Int.toNat i4_2) < a0_0.n)) then some () else none : Option Unit).bind fun _ =>
    ((F_laws_toWon fu (a0_0.f (Int.toNat i4_2))).bind fun y31 => ((bif (decide (0 ≤ i4_2) && decide ((Int.toNat i4_2) < out3_1)) then some () else none : Option Unit).bind fun _ =>
    (go (IntKind.wrap .i64 (i4_2 + 1)) (fun j => if j = (Int.toNat i4_2) then y31 else of0_4 j))))) else (k0 of0_4))
def F_laws_toWonS_H (fu : Nat) (a_0 : (Sl S_impl_Won)) : Option ((Sl S_impl_Won)) :=
  (bif (decide (0 ≤ ((a_0.n : Nat) : Int)) && (decide (((a_0.n : Nat) : Int) = ((a_0.n : Nat) : Int)) && (decide ((16 : Int) * ((a_0.n : Nat) : Int) ≤ 281474976710656) && decide (((a_0.n : Nat) : Int) ≤ 9223372036854775807)))) then
    (L (fun w0 go0 => F_laws_toWonS_H_B0 fu a_0 (Int.toNat ((a_0.n : Nat) : Int)) (Int.toNat ((a_0.n : Nat) : Int)) (fun z32 => (some (⟨none, (Int.toNat ((a_0.n : Nat) : Int)), z32⟩ : (Sl S_impl_Won)))) w0.1 w0.2 (fun q0 q1 =>
    go0 (q0, q1))) fu ((0, (fun _ => (⟨0, 0⟩ : S_impl_Won))) : Int × (Nat → S_impl_Won))) else none)
def pcf_a9 (fu : Nat) (f : Nat) (xs : List (D RT den)) : Option (Out RT den) := match f with | 110 => S_a8 fu xs | _ => none
def pc_a9 (fu : Nat) : Pc RT den := ⟨pcf_a9 fu, fun _ => false, fun _ => false, pcd0, pcx0⟩
def msk_a9 (b : Nat) : List Nat := match b with | 0 => [1, 2, 5, 6, 7, 8, 9, 10, 11, 12, 13, 14, 15, 16, 17, 18, 19, 20, 21, 22] | 100000 => [0, 1, 4, 5, 6, 7, 8, 9, 10, 11, 12, 13, 14, 15, 16, 17, 18, 19, 20, 21, 22] | _ => []
def ps_a9_0 : List (Pat RT) := [.flat (.rs .impl_Won), .flat .q, .flat .q, .flat (.os 0), .flat (.int .i64), .flat .q, .flat .q, .flat .q, .flat .q, .flat .q, .flat .q, .flat .q, .flat .q, .flat .q, .flat .q, .flat .q, .flat .q, .flat .q, .flat .q, .flat .q, .flat .q, .flat .q, .flat .q]
def os_a9_0 : List (OP RT) := [.row false .impl_Won]
def conv_a9_0 (r : Raw den ps_a9_0 os_a9_0) : ((Sl S_impl_Won) × Nat × Nat) × (Int × (Nat → S_impl_Won)) := ((r.1.1, r.1.2.2.2.1, r.2.1.1), (r.1.2.2.2.2.1, r.2.1.2))
def back_a9_0 (c : (Sl S_impl_Won) × Nat × Nat) (w : Int × (Nat → S_impl_Won)) : St RT den := ⟨[(.rs c.1.z .impl_Won c.1.n c.1.f), .q, .q, (.os 0 c.2.1), (.int .i64 w.1), .q, .q, .q, .q, .q, .q, .q, .q, .q, .q, .q, .q, .q, .q, .q, .q, .q, .q], [(.row false .impl_Won c.2.2 w.2)]⟩
def Bk_a9_0 {ρ : Type} (fu : Nat) (c : (Sl S_impl_Won) × Nat × Nat) (k : Ex → St RT den → Option ρ) (w : Int × (Nat → S_impl_Won)) (go : (Int × (Nat → S_impl_Won)) → Option ρ) : Option ρ := F_laws_toWonS_H_B0 fu c.1 c.2.1 c.2.2 (fun a0 => k (.exit 0) ⟨[.q, .q, .q, (.os 0 c.2.1), .q, .q, .q, .q, .q, .q, .q, .q, .q, .q, .q, .q, .q, .q, .q, .q, .q, .q, .q], [(.row false .impl_Won c.2.2 a0)]⟩) w.1 w.2 (fun q0 q1 => go (q0, q1))
def lp_a9 (fu : Nat) : Lp RT den ((Sl S_impl_Won)) := fun b s k => match b with | 0 => handle ps_a9_0 os_a9_0 conv_a9_0 (Bk_a9_0 fu) fu s k | _ => none
theorem ev_a9 (fu : Nat) (a_0 : (Sl S_impl_Won)) : evFunX E false (pc_a9 fu) msk_a9 (lp_a9 fu) out_sl_impl_Won_H 46 [(.rs a_0.z .impl_Won a_0.n a_0.f)] [] = F_laws_toWonS_H fu a_0 := by kernel_rfl
noncomputable def body_a9 : Code := Try.f46.body.getD .skip
noncomputable def lc_a9_0 : Code := ((loops 0 body_a9).getD 0 (0, .skip)).2
theorem round_a9_0 (fu : Nat) (it : St RT den → Option ((Sl S_impl_Won))) (k : Ex → St RT den → Option ((Sl S_impl_Won))) c w : evCode E (pc_a9 fu) msk_a9 (lp_a9 fu) 0 lc_a9_0 (back_a9_0 c w) (after (msk_a9 0) (msk_a9 100000) 1 it k) = Bk_a9_0 fu c k w (fun w => it (back_a9_0 c w)) := by kernel_rfl
theorem lpok_a9_0 (fu : Nat) : ∀ s k r, lp_a9 fu 0 s k = some r → ∃ fuel, iter (msk_a9 0) (msk_a9 100000) s.objs.length (evCode E (pc_a9 fu) msk_a9 (lp_a9 fu) 0 lc_a9_0) fuel s k = some r :=
  handle_ok (ps := ps_a9_0) (os := os_a9_0) (conv := conv_a9_0) (B := Bk_a9_0 fu) (fu := fu) back_a9_0 (fun raw => by kernel_rfl) 1 (fun c w => by kernel_rfl) (round_a9_0 fu)
theorem lpok_a9 (fu : Nat) : LpOk E (pc_a9 fu) msk_a9 (lp_a9 fu) (loops 0 body_a9) := loop_all 1 (by kernel_rfl) fun i hi => match i, hi with
  | 0, _ => by
    have h : (loops 0 body_a9).getD 0 (0, .skip) = (0, lc_a9_0) := by kernel_rfl
    rw [h]; exact lpok_a9_0 fu
  | i + 1, hi => absurd hi (by omega)
def S_a9 (fu : Nat) (xs : List (D RT den)) (ins : List (Ob RT den)) : Option (OutX RT den) := match xs, ins with | [.rs za0_0 .impl_Won na0_0 fa0_0], [] => some ⟨(Sl S_impl_Won), F_laws_toWonS_H fu (⟨za0_0, na0_0, fa0_0⟩ : (Sl S_impl_Won)), enc_sl_impl_Won_H⟩ | _, _ => none
theorem hpc_a9 (fu : Nat) : ∀ f xs o, pcf_a9 fu f xs = some o → ∀ y, o.x = some y → Good E Try.prog f xs (o.g y) := by
  intro f xs o h
  unfold pcf_a9 at h
  split at h
  · exact good_a8 fu xs o h
  · cases h
theorem goodv_a9 (fu : Nat) (a_0 : (Sl S_impl_Won)) (y : (Sl S_impl_Won)) (hy : F_laws_toWonS_H fu a_0 = some y) : GoodX E Try.prog 46 [(.rs a_0.z .impl_Won a_0.n a_0.f)] [] (enc_sl_impl_Won_H y).1 (enc_sl_impl_Won_H y).2 :=
  funX_good (ke := false) E_ok (pc_good (pc := pc_a9 fu) (hpc_a9 fu) hpx0) (fn := Try.f46) (c := body_a9) (out := out_sl_impl_Won_H) (y := y) (by kernel_rfl) (by kernel_rfl) (by kernel_rfl) (lpok_a9 fu) (by kernel_rfl) (Nat.zero_le _) (fun d os hd => out_sl_impl_Won_H_enc d os _ hd) ((ev_a9 fu a_0).trans hy)
theorem good_a9 (fu : Nat) : ∀ xs ins o, S_a9 fu xs ins = some o → ∀ y, o.x = some y → GoodX E Try.prog 46 xs ins (o.g y).1 (o.g y).2 := by
  intro xs ins o h y hy
  unfold S_a9 at h
  split at h
  · rename_i za0_0 na0_0 fa0_0
    cases h
    exact goodv_a9 fu (⟨za0_0, na0_0, fa0_0⟩ : (Sl S_impl_Won)) y hy
  · cases h

/-! laws.toSeal -/
def F_laws_toSeal (fu : Nat) (a_0 : S_laws_Seal) : Option (S_impl_Seal) :=
  ((F_laws_toEntry fu a_0.Entry).bind fun y38 => (some (⟨a_0.Term, y38⟩ : S_impl_Seal)))
def pcf_a10 (fu : Nat) (f : Nat) (xs : List (D RT den)) : Option (Out RT den) := match f with | 166 => S_a1 fu xs | _ => none
def pc_a10 (fu : Nat) : Pc RT den := ⟨pcf_a10 fu, fun _ => false, fun _ => false, pcd0, pcx0⟩
def msk_a10 (b : Nat) : List Nat := []
def lp_a10 (fu : Nat) : Lp RT den (S_impl_Seal) := fun b s k => none
theorem ev_a10 (fu : Nat) (a_0 : S_laws_Seal) : evFun E (pc_a10 fu) msk_a10 (lp_a10 fu) out_impl_Seal 111 [(.agg [(.int .i64 a_0.Term), (.int .i64 a_0.Entry.Term), (.int .i64 a_0.Entry.Client), (.int .i64 a_0.Entry.Seq), (.int .i64 a_0.Entry.Cmd.Kind), (.int .i64 a_0.Entry.Cmd.Expect), (.int .i64 a_0.Entry.Cmd.Name), (.int .i64 a_0.Entry.Cmd.Addr), (.int .i64 a_0.Entry.Cmd.Number), (.int .i64 a_0.Entry.Cmd.Proto)])] = F_laws_toSeal fu a_0 := by kernel_rfl
noncomputable def body_a10 : Code := Try.f111.body.getD .skip
theorem lpok_a10 (fu : Nat) : LpOk E (pc_a10 fu) msk_a10 (lp_a10 fu) (loops 0 body_a10) := by
  have h : loops 0 body_a10 = [] := by kernel_rfl
  rw [h]; intro p hp; cases hp
def S_a10 (fu : Nat) (xs : List (D RT den)) : Option (Out RT den) := match xs with | [.agg [.int .i64 a0_1, .int .i64 a0_3, .int .i64 a0_4, .int .i64 a0_5, .int .i64 a0_7, .int .i64 a0_8, .int .i64 a0_9, .int .i64 a0_10, .int .i64 a0_11, .int .i64 a0_12]] => some ⟨S_impl_Seal, F_laws_toSeal fu (⟨a0_1, (⟨a0_3, a0_4, a0_5, (⟨a0_7, a0_8, a0_9, a0_10, a0_11, a0_12⟩ : S_impl_Cmd)⟩ : S_laws_Entry)⟩ : S_laws_Seal), enc_impl_Seal, fun _ => true⟩ | _ => none
theorem hpc_a10 (fu : Nat) : ∀ f xs o, pcf_a10 fu f xs = some o → ∀ y, o.x = some y → Good E Try.prog f xs (o.g y) := by
  intro f xs o h
  unfold pcf_a10 at h
  split at h
  · exact good_a1 fu xs o h
  · cases h
theorem goodv_a10 (fu : Nat) (a_0 : S_laws_Seal) (y : S_impl_Seal) (hy : F_laws_toSeal fu a_0 = some y) : Good E Try.prog 111 [(.agg [(.int .i64 a_0.Term), (.int .i64 a_0.Entry.Term), (.int .i64 a_0.Entry.Client), (.int .i64 a_0.Entry.Seq), (.int .i64 a_0.Entry.Cmd.Kind), (.int .i64 a_0.Entry.Cmd.Expect), (.int .i64 a_0.Entry.Cmd.Name), (.int .i64 a_0.Entry.Cmd.Addr), (.int .i64 a_0.Entry.Cmd.Number), (.int .i64 a_0.Entry.Cmd.Proto)])] (enc_impl_Seal y) :=
  fun_good E_ok (pc_good (pc := pc_a10 fu) (hpc_a10 fu) hpx0) (fn := Try.f111) (c := body_a10) (out := out_impl_Seal) (y := y) (by kernel_rfl) (by kernel_rfl) (by kernel_rfl) (lpok_a10 fu) (fun d hd => out_impl_Seal_enc d _ hd) ((ev_a10 fu a_0).trans hy)
theorem good_a10 (fu : Nat) : ∀ xs o, S_a10 fu xs = some o → ∀ y, o.x = some y → Good E Try.prog 111 xs (o.g y) := by
  intro xs o h y hy
  unfold S_a10 at h
  split at h
  · rename_i a0_1 a0_3 a0_4 a0_5 a0_7 a0_8 a0_9 a0_10 a0_11 a0_12
    cases h
    exact goodv_a10 fu (⟨a0_1, (⟨a0_3, a0_4, a0_5, (⟨a0_7, a0_8, a0_9, a0_10, a0_11, a0_12⟩ : S_impl_Cmd)⟩ : S_laws_Entry)⟩ : S_laws_Seal) y hy
  · cases h

/-! laws.toSealS -/
def F_laws_toSealS_H_B0 {ρ : Type} (fu : Nat) (a0_0 : (Sl S_laws_Seal)) (out3_1 : Nat) (on0_3 : Nat) (k0 : (Nat → S_impl_Seal) → Option ρ) (i4_2 : Int) (of0_4 : (Nat → S_impl_Seal)) (go : Int → (Nat → S_impl_Seal) → Option ρ) : Option ρ :=
  (bif (decide (i4_2 < ((a0_0.n : Nat) : Int))) then ((bif (decide (0 ≤ i4_2) && decide ((Int.toNat i4_2) < a0_0.n)) then some () else none : Option Unit).bind fun _ =>
    ((F_laws_toSeal fu (a0_0.f (Int.toNat i4_2))).bind fun y36 => ((bif (decide (0 ≤ i4_2) && decide ((Int.toNat i4_2) < out3_1)) then some () else none : Option Unit).bind fun _ =>
    (go (IntKind.wrap .i64 (i4_2 + 1)) (fun j => if j = (Int.toNat i4_2) then y36 else of0_4 j))))) else (k0 of0_4))
def F_laws_toSealS_H (fu : Nat) (a_0 : (Sl S_laws_Seal)) : Option ((Sl S_impl_Seal)) :=
  (bif (decide (0 ≤ ((a_0.n : Nat) : Int)) && (decide (((a_0.n : Nat) : Int) = ((a_0.n : Nat) : Int)) && (decide ((80 : Int) * ((a_0.n : Nat) : Int) ≤ 281474976710656) && decide (((a_0.n : Nat) : Int) ≤ 9223372036854775807)))) then
    (L (fun w0 go0 => F_laws_toSealS_H_B0 fu a_0 (Int.toNat ((a_0.n : Nat) : Int)) (Int.toNat ((a_0.n : Nat) : Int)) (fun z37 => (some (⟨none, (Int.toNat ((a_0.n : Nat) : Int)),
    z37⟩ : (Sl S_impl_Seal)))) w0.1 w0.2 (fun q0 q1 => go0 (q0, q1))) fu ((0, (fun _ => (⟨0, (⟨0, 0, 0, (⟨0, 0, 0, 0, 0, 0⟩ : S_impl_Cmd)⟩ : S_impl_Entry)⟩ : S_impl_Seal))) : Int × (Nat → S_impl_Seal))) else
    none)
def pcf_a11 (fu : Nat) (f : Nat) (xs : List (D RT den)) : Option (Out RT den) := match f with | 111 => S_a10 fu xs | _ => none
def pc_a11 (fu : Nat) : Pc RT den := ⟨pcf_a11 fu, fun _ => false, fun _ => false, pcd0, pcx0⟩
def msk_a11 (b : Nat) : List Nat := match b with | 0 => [1, 2, 5, 6, 7, 8, 9, 10, 11, 12, 13, 14, 15, 16, 17, 18, 19, 20, 21, 22] | 100000 => [0, 1, 4, 5, 6, 7, 8, 9, 10, 11, 12, 13, 14, 15, 16, 17, 18, 19, 20, 21, 22] | _ => []
def ps_a11_0 : List (Pat RT) := [.flat (.rs .laws_Seal), .flat .q, .flat .q, .flat (.os 0), .flat (.int .i64), .flat .q, .flat .q, .flat .q, .flat .q, .flat .q, .flat .q, .flat .q, .flat .q, .flat .q, .flat .q, .flat .q, .flat .q, .flat .q, .flat .q, .flat .q, .flat .q, .flat .q, .flat .q]
def os_a11_0 : List (OP RT) := [.row false .impl_Seal]
def conv_a11_0 (r : Raw den ps_a11_0 os_a11_0) : ((Sl S_laws_Seal) × Nat × Nat) × (Int × (Nat → S_impl_Seal)) := ((r.1.1, r.1.2.2.2.1, r.2.1.1), (r.1.2.2.2.2.1, r.2.1.2))
def back_a11_0 (c : (Sl S_laws_Seal) × Nat × Nat) (w : Int × (Nat → S_impl_Seal)) : St RT den := ⟨[(.rs c.1.z .laws_Seal c.1.n c.1.f), .q, .q, (.os 0 c.2.1), (.int .i64 w.1), .q, .q, .q, .q, .q, .q, .q, .q, .q, .q, .q, .q, .q, .q, .q, .q, .q, .q], [(.row false .impl_Seal c.2.2 w.2)]⟩
def Bk_a11_0 {ρ : Type} (fu : Nat) (c : (Sl S_laws_Seal) × Nat × Nat) (k : Ex → St RT den → Option ρ) (w : Int × (Nat → S_impl_Seal)) (go : (Int × (Nat → S_impl_Seal)) → Option ρ) : Option ρ := F_laws_toSealS_H_B0 fu c.1 c.2.1 c.2.2 (fun a0 => k (.exit 0) ⟨[.q, .q, .q, (.os 0 c.2.1), .q, .q, .q, .q, .q, .q, .q, .q, .q, .q, .q, .q, .q, .q, .q, .q, .q, .q, .q], [(.row false .impl_Seal c.2.2 a0)]⟩) w.1 w.2 (fun q0 q1 => go (q0, q1))
def lp_a11 (fu : Nat) : Lp RT den ((Sl S_impl_Seal)) := fun b s k => match b with | 0 => handle ps_a11_0 os_a11_0 conv_a11_0 (Bk_a11_0 fu) fu s k | _ => none
theorem ev_a11 (fu : Nat) (a_0 : (Sl S_laws_Seal)) : evFunX E false (pc_a11 fu) msk_a11 (lp_a11 fu) out_sl_impl_Seal_H 47 [(.rs a_0.z .laws_Seal a_0.n a_0.f)] [] = F_laws_toSealS_H fu a_0 := by kernel_rfl
noncomputable def body_a11 : Code := Try.f47.body.getD .skip
noncomputable def lc_a11_0 : Code := ((loops 0 body_a11).getD 0 (0, .skip)).2
theorem round_a11_0 (fu : Nat) (it : St RT den → Option ((Sl S_impl_Seal))) (k : Ex → St RT den → Option ((Sl S_impl_Seal))) c w : evCode E (pc_a11 fu) msk_a11 (lp_a11 fu) 0 lc_a11_0 (back_a11_0 c w) (after (msk_a11 0) (msk_a11 100000) 1 it k) = Bk_a11_0 fu c k w (fun w => it (back_a11_0 c w)) := by kernel_rfl
theorem lpok_a11_0 (fu : Nat) : ∀ s k r, lp_a11 fu 0 s k = some r → ∃ fuel, iter (msk_a11 0) (msk_a11 100000) s.objs.length (evCode E (pc_a11 fu) msk_a11 (lp_a11 fu) 0 lc_a11_0) fuel s k = some r :=
  handle_ok (ps := ps_a11_0) (os := os_a11_0) (conv := conv_a11_0) (B := Bk_a11_0 fu) (fu := fu) back_a11_0 (fun raw => by kernel_rfl) 1 (fun c w => by kernel_rfl) (round_a11_0 fu)
theorem lpok_a11 (fu : Nat) : LpOk E (pc_a11 fu) msk_a11 (lp_a11 fu) (loops 0 body_a11) := loop_all 1 (by kernel_rfl) fun i hi => match i, hi with
  | 0, _ => by
    have h : (loops 0 body_a11).getD 0 (0, .skip) = (0, lc_a11_0) := by kernel_rfl
    rw [h]; exact lpok_a11_0 fu
  | i + 1, hi => absurd hi (by omega)
def S_a11 (fu : Nat) (xs : List (D RT den)) (ins : List (Ob RT den)) : Option (OutX RT den) := match xs, ins with | [.rs za0_0 .laws_Seal na0_0 fa0_0], [] => some ⟨(Sl S_impl_Seal), F_laws_toSealS_H fu (⟨za0_0, na0_0, fa0_0⟩ : (Sl S_laws_Seal)), enc_sl_impl_Seal_H⟩ | _, _ => none
theorem hpc_a11 (fu : Nat) : ∀ f xs o, pcf_a11 fu f xs = some o → ∀ y, o.x = some y → Good E Try.prog f xs (o.g y) := by
  intro f xs o h
  unfold pcf_a11 at h
  split at h
  · exact good_a10 fu xs o h
  · cases h
theorem goodv_a11 (fu : Nat) (a_0 : (Sl S_laws_Seal)) (y : (Sl S_impl_Seal)) (hy : F_laws_toSealS_H fu a_0 = some y) : GoodX E Try.prog 47 [(.rs a_0.z .laws_Seal a_0.n a_0.f)] [] (enc_sl_impl_Seal_H y).1 (enc_sl_impl_Seal_H y).2 :=
  funX_good (ke := false) E_ok (pc_good (pc := pc_a11 fu) (hpc_a11 fu) hpx0) (fn := Try.f47) (c := body_a11) (out := out_sl_impl_Seal_H) (y := y) (by kernel_rfl) (by kernel_rfl) (by kernel_rfl) (lpok_a11 fu) (by kernel_rfl) (Nat.zero_le _) (fun d os hd => out_sl_impl_Seal_H_enc d os _ hd) ((ev_a11 fu a_0).trans hy)
theorem good_a11 (fu : Nat) : ∀ xs ins o, S_a11 fu xs ins = some o → ∀ y, o.x = some y → GoodX E Try.prog 47 xs ins (o.g y).1 (o.g y).2 := by
  intro xs ins o h y hy
  unfold S_a11 at h
  split at h
  · rename_i za0_0 na0_0 fa0_0
    cases h
    exact goodv_a11 fu (⟨za0_0, na0_0, fa0_0⟩ : (Sl S_laws_Seal)) y hy
  · cases h

/-! laws.toCluster -/
def F_laws_toCluster_U (fu : Nat) (a_0 : S_laws_Cluster) : Option (Nat × Nat × Nat × Nat × Nat × (Nat → S_impl_Node) × Nat × (Nat → S_impl_Mail) × Nat × (Nat → S_impl_Won) × Nat × (Nat → S_impl_Seal)) :=
  ((F_laws_toNodeS_U fu a_0.Nodes).bind fun y21 => ((F_laws_toMailS_U fu a_0.Mails).bind fun y28 => ((F_laws_toWonS_H fu a_0.Wins).bind fun y33 => ((F_laws_toSealS_H fu a_0.Seals).bind fun y39 =>
    (bif (decide (y21.1 ≤ y21.2.1) && (decide (y28.1 ≤ y28.2.1) && true)) then (bif (decide (y21.1 = y21.1) && (decide (y28.1 = y28.1) && true)) then (some (y21.1, y28.1, y33.n,
    y39.n, y21.1, y21.2.2, y28.1, y28.2.2, y33.n, y33.f, y39.n, y39.f)) else none) else none)))))
def pcx_a12 (fu : Nat) (f : Nat) (xs : List (D RT den)) (ins : List (Ob RT den)) : Option (OutX RT den) := match f with | 44 => S_a5 fu xs ins | 45 => S_a7 fu xs ins | 46 => S_a9 fu xs ins | 47 => S_a11 fu xs ins | _ => none
def pcd_a12 : Nat → Bool := fun f => match f with | 44 => true | 45 => true | _ => false
def pc_a12 (fu : Nat) : Pc RT den := ⟨pcf0, fun f => match f with | 44 => true | 45 => true | 46 => true | 47 => true | _ => false, fun _ => false, pcd_a12, pcx_a12 fu⟩
def msk_a12 (b : Nat) : List Nat := []
def lp_a12 (fu : Nat) : Lp RT den (Nat × Nat × Nat × Nat × Nat × (Nat → S_impl_Node) × Nat × (Nat → S_impl_Mail) × Nat × (Nat → S_impl_Won) × Nat × (Nat → S_impl_Seal)) := fun b s k => none
def pso_a12 : List (Pat RT) := [.agg [(.os 0), (.os 1), (.os 2), (.os 3)]]
def oso_a12 : List (OP RT) := [.deep false .impl_Node, .deep false .impl_Mail, .row false .impl_Won, .row false .impl_Seal]
def conv_a12 (r : Raw den pso_a12 oso_a12) : Nat × Nat × Nat × Nat × Nat × (Nat → S_impl_Node) × Nat × (Nat → S_impl_Mail) × Nat × (Nat → S_impl_Won) × Nat × (Nat → S_impl_Seal) := (r.1.1.1, r.1.1.2.1, r.1.1.2.2.1, r.1.1.2.2.2.1, r.2.1.1, r.2.1.2.2, r.2.2.1.1, r.2.2.1.2.2, r.2.2.2.1.1, r.2.2.2.1.2, r.2.2.2.2.1.1, r.2.2.2.2.1.2)
def enc_a12 (y : Nat × Nat × Nat × Nat × Nat × (Nat → S_impl_Node) × Nat × (Nat → S_impl_Mail) × Nat × (Nat → S_impl_Won) × Nat × (Nat → S_impl_Seal)) : D RT den × List (Ob RT den) := ((.agg [(.os 0 y.1), (.os 1 y.2.1), (.os 2 y.2.2.1), (.os 3 y.2.2.2.1)]), [(.deep false .impl_Node y.2.2.2.2.1 y.2.2.2.2.1 y.2.2.2.2.2.1), (.deep false .impl_Mail y.2.2.2.2.2.2.1 y.2.2.2.2.2.2.1 y.2.2.2.2.2.2.2.1), (.row false .impl_Won y.2.2.2.2.2.2.2.2.1 y.2.2.2.2.2.2.2.2.2.1), (.row false .impl_Seal y.2.2.2.2.2.2.2.2.2.2.1 y.2.2.2.2.2.2.2.2.2.2.2)])
def chk_a12 (r : Raw den pso_a12 oso_a12) : Bool := (decide (r.2.1.2.1 = r.2.1.1) && (decide (r.2.2.1.2.1 = r.2.2.1.1) && true))
def raw_a12 (r : Raw den pso_a12 oso_a12) : St RT den := ⟨[(.agg [(.os 0 r.1.1.1), (.os 1 r.1.1.2.1), (.os 2 r.1.1.2.2.1), (.os 3 r.1.1.2.2.2.1)])], [(.deep false .impl_Node r.2.1.1 r.2.1.2.1 r.2.1.2.2), (.deep false .impl_Mail r.2.2.1.1 r.2.2.1.2.1 r.2.2.1.2.2), (.row false .impl_Won r.2.2.2.1.1 r.2.2.2.1.2), (.row false .impl_Seal r.2.2.2.2.1.1 r.2.2.2.2.1.2)]⟩
theorem chkd_a12 (r : Raw den pso_a12 oso_a12) (h : chk_a12 r = true) : raw_a12 r = ⟨[(enc_a12 (conv_a12 r)).1], (enc_a12 (conv_a12 r)).2⟩ := by
  simp only [chk_a12, Bool.and_eq_true, decide_eq_true_eq, and_true] at h
  simp only [raw_a12, enc_a12, conv_a12, h]
def out_a12 (d : D RT den) (os : List (Ob RT den)) : Option (Nat × Nat × Nat × Nat × Nat × (Nat → S_impl_Node) × Nat × (Nat → S_impl_Mail) × Nat × (Nat → S_impl_Won) × Nat × (Nat → S_impl_Seal)) := (unSt pso_a12 oso_a12 ⟨[d], os⟩).bind fun v => bif chk_a12 v.1 then some (conv_a12 v.1) else none
theorem out_a12_enc (d : D RT den) (os : List (Ob RT den)) (y : Nat × Nat × Nat × Nat × Nat × (Nat → S_impl_Node) × Nat × (Nat → S_impl_Mail) × Nat × (Nat → S_impl_Won) × Nat × (Nat → S_impl_Seal)) (h : out_a12 d os = some y) : d = (enc_a12 y).1 ∧ os = (enc_a12 y).2 :=
  outU (conv := conv_a12) (enc := enc_a12) (chk := chk_a12) (fun raw h => Eq.trans (by kernel_rfl) (chkd_a12 raw h)) h
theorem ev_a12 (fu : Nat) (a_0 : S_laws_Cluster) : evFunU E (pc_a12 fu) msk_a12 (lp_a12 fu) out_a12 9 [(.agg [(.rs a_0.Nodes.z .laws_Node a_0.Nodes.n a_0.Nodes.f), (.rs a_0.Mails.z .laws_Mail a_0.Mails.n a_0.Mails.f), (.rs a_0.Wins.z .impl_Won a_0.Wins.n a_0.Wins.f), (.rs a_0.Seals.z .laws_Seal a_0.Seals.n a_0.Seals.f)])] [] = F_laws_toCluster_U fu a_0 := by kernel_rfl
noncomputable def body_a12 : Code := Try.f9.body.getD .skip
theorem lpok_a12 (fu : Nat) : LpOk E (pc_a12 fu) msk_a12 (lp_a12 fu) (loops 0 body_a12) := by
  have h : loops 0 body_a12 = [] := by kernel_rfl
  rw [h]; intro p hp; cases hp
def S_a12 (fu : Nat) (xs : List (D RT den)) (ins : List (Ob RT den)) : Option (OutX RT den) := match xs, ins with | [.agg [.rs za0_1 .laws_Node na0_1 fa0_1, .rs za0_2 .laws_Mail na0_2 fa0_2, .rs za0_3 .impl_Won na0_3 fa0_3, .rs za0_4 .laws_Seal na0_4 fa0_4]], [] => some ⟨Nat × Nat × Nat × Nat × Nat × (Nat → S_impl_Node) × Nat × (Nat → S_impl_Mail) × Nat × (Nat → S_impl_Won) × Nat × (Nat → S_impl_Seal), F_laws_toCluster_U fu (⟨(⟨za0_1, na0_1, fa0_1⟩ : (Sl S_laws_Node)), (⟨za0_2, na0_2, fa0_2⟩ : (Sl S_laws_Mail)), (⟨za0_3, na0_3, fa0_3⟩ : (Sl S_impl_Won)), (⟨za0_4, na0_4, fa0_4⟩ : (Sl S_laws_Seal))⟩ : S_laws_Cluster), enc_a12⟩ | _, _ => none
theorem hpx_a12 (fu : Nat) : ∀ f xs ins o, pcx_a12 fu f xs ins = some o → ∀ y, o.x = some y → GoodXD E Try.prog (pcd_a12 f) f xs ins (o.g y).1 (o.g y).2 := by
  intro f xs ins o h
  unfold pcx_a12 at h
  split at h
  · exact good_a5 fu xs ins o h
  · exact good_a7 fu xs ins o h
  · exact good_a9 fu xs ins o h
  · exact good_a11 fu xs ins o h
  · cases h
theorem goodv_a12 (fu : Nat) (a_0 : S_laws_Cluster) (y : Nat × Nat × Nat × Nat × Nat × (Nat → S_impl_Node) × Nat × (Nat → S_impl_Mail) × Nat × (Nat → S_impl_Won) × Nat × (Nat → S_impl_Seal)) (hy : F_laws_toCluster_U fu a_0 = some y) : GoodD E Try.prog 9 [(.agg [(.rs a_0.Nodes.z .laws_Node a_0.Nodes.n a_0.Nodes.f), (.rs a_0.Mails.z .laws_Mail a_0.Mails.n a_0.Mails.f), (.rs a_0.Wins.z .impl_Won a_0.Wins.n a_0.Wins.f), (.rs a_0.Seals.z .laws_Seal a_0.Seals.n a_0.Seals.f)])] [] (enc_a12 y).1 (enc_a12 y).2 :=
  funU_good E_ok (pc_good (pc := pc_a12 fu) hpc0 (hpx_a12 fu)) (fn := Try.f9) (c := body_a12) (out := out_a12) (y := y) (by kernel_rfl) (by kernel_rfl) (by kernel_rfl) (lpok_a12 fu) (by kernel_rfl) (Nat.le_of_ble_eq_true (by kernel_rfl)) (Fulls.get 0 (And.intro (Nat.le_refl _) (And.intro (Nat.le_refl _) trivial))) (fun d os hd => out_a12_enc d os _ hd) ((ev_a12 fu a_0).trans hy)
theorem good_a12 (fu : Nat) : ∀ xs ins o, S_a12 fu xs ins = some o → ∀ y, o.x = some y → GoodD E Try.prog 9 xs ins (o.g y).1 (o.g y).2 := by
  intro xs ins o h y hy
  unfold S_a12 at h
  split at h
  · rename_i za0_1 na0_1 fa0_1 za0_2 na0_2 fa0_2 za0_3 na0_3 fa0_3 za0_4 na0_4 fa0_4
    cases h
    exact goodv_a12 fu (⟨(⟨za0_1, na0_1, fa0_1⟩ : (Sl S_laws_Node)), (⟨za0_2, na0_2, fa0_2⟩ : (Sl S_laws_Mail)), (⟨za0_3, na0_3, fa0_3⟩ : (Sl S_impl_Won)), (⟨za0_4, na0_4, fa0_4⟩ : (Sl S_laws_Seal))⟩ : S_laws_Cluster) y hy
  · cases h

/-! spec.l1In -/
def F_spec_l1In (fu : Nat) (v_0 : Int) (low_1 : Int) (high_2 : Int) : Option (Bool) :=
  (((bif (decide (v_0 ≥ low_1)) then (some (decide (v_0 ≤ high_2))) else (some false)) : Option Bool).bind fun m69 => (some m69))
def pc_a13 (fu : Nat) : Pc RT den := ⟨pcf0, fun _ => false, fun _ => false, pcd0, pcx0⟩
def msk_a13 (b : Nat) : List Nat := match b with | 200001 => [6] | _ => []
def lp_a13 (fu : Nat) : Lp RT den (Bool) := fun b s k => none
theorem ev_a13 (fu : Nat) (v_0 : Int) (low_1 : Int) (high_2 : Int) : evFun E (pc_a13 fu) msk_a13 (lp_a13 fu) out_bo 65 [(.int .i64 v_0), (.int .i64 low_1), (.int .i64 high_2)] = F_spec_l1In fu v_0 low_1 high_2 := by kernel_rfl
noncomputable def body_a13 : Code := Try.f65.body.getD .skip
theorem lpok_a13 (fu : Nat) : LpOk E (pc_a13 fu) msk_a13 (lp_a13 fu) (loops 0 body_a13) := by
  have h : loops 0 body_a13 = [] := by kernel_rfl
  rw [h]; intro p hp; cases hp
def S_a13 (fu : Nat) (xs : List (D RT den)) : Option (Out RT den) := match xs with | [.int .i64 a0_0, .int .i64 a1_0, .int .i64 a2_0] => some ⟨Bool, F_spec_l1In fu a0_0 a1_0 a2_0, enc_bo, fun _ => true⟩ | _ => none
theorem goodv_a13 (fu : Nat) (v_0 : Int) (low_1 : Int) (high_2 : Int) (y : Bool) (hy : F_spec_l1In fu v_0 low_1 high_2 = some y) : Good E Try.prog 65 [(.int .i64 v_0), (.int .i64 low_1), (.int .i64 high_2)] (enc_bo y) :=
  fun_good E_ok (pc_good (pc := pc_a13 fu) hpc0 hpx0) (fn := Try.f65) (c := body_a13) (out := out_bo) (y := y) (by kernel_rfl) (by kernel_rfl) (by kernel_rfl) (lpok_a13 fu) (fun d hd => out_bo_enc d _ hd) ((ev_a13 fu v_0 low_1 high_2).trans hy)
theorem good_a13 (fu : Nat) : ∀ xs o, S_a13 fu xs = some o → ∀ y, o.x = some y → Good E Try.prog 65 xs (o.g y) := by
  intro xs o h y hy
  unfold S_a13 at h
  split at h
  · rename_i a0_0 a1_0 a2_0
    cases h
    exact goodv_a13 fu a0_0 a1_0 a2_0 y hy
  · cases h

/-! spec.l8Id -/
def F_spec_l8Id (fu : Nat) (n_0 : S_impl_Node) (id_1 : Int) : Option (Bool) :=
  ((F_spec_l1In fu id_1 0 (IntKind.wrap .i64 (n_0.Peers - 1))).bind fun y70 => (some y70))
def pcf_a14 (fu : Nat) (f : Nat) (xs : List (D RT den)) : Option (Out RT den) := match f with | 65 => S_a13 fu xs | _ => none
def pc_a14 (fu : Nat) : Pc RT den := ⟨pcf_a14 fu, fun _ => false, fun _ => false, pcd0, pcx0⟩
def msk_a14 (b : Nat) : List Nat := []
def lp_a14 (fu : Nat) : Lp RT den (Bool) := fun b s k => none
theorem ev_a14 (fu : Nat) (n_0 : S_impl_Node) (id_1 : Int) : evFun E (pc_a14 fu) msk_a14 (lp_a14 fu) out_bo 158 [(.rptr [(.int .i64 n_0.Id), (.int .i64 n_0.Peers), (.int .i64 n_0.Term), (.int .i64 n_0.Voted), (.rs n_0.Log.z .impl_Entry n_0.Log.n n_0.Log.f), (.int .i64 n_0.Role), (.int .i64 n_0.Commit), (.rs n_0.Votes.z .i64 n_0.Votes.n n_0.Votes.f), (.rs n_0.Next.z .i64 n_0.Next.n n_0.Next.f), (.rs n_0.Match.z .i64 n_0.Match.n n_0.Match.f)]), (.int .i64 id_1)] = F_spec_l8Id fu n_0 id_1 := by kernel_rfl
noncomputable def body_a14 : Code := Try.f158.body.getD .skip
theorem lpok_a14 (fu : Nat) : LpOk E (pc_a14 fu) msk_a14 (lp_a14 fu) (loops 0 body_a14) := by
  have h : loops 0 body_a14 = [] := by kernel_rfl
  rw [h]; intro p hp; cases hp
def S_a14 (fu : Nat) (xs : List (D RT den)) : Option (Out RT den) := match xs with | [.rptr (.int .i64 a0_1 :: .int .i64 a0_2 :: .int .i64 a0_3 :: .int .i64 a0_4 :: .rs za0_5 .impl_Entry na0_5 fa0_5 :: .int .i64 a0_6 :: .int .i64 a0_7 :: .rs za0_8 .i64 na0_8 fa0_8 :: .rs za0_9 .i64 na0_9 fa0_9 :: .rs za0_10 .i64 na0_10 fa0_10 :: ra0), .int .i64 a1_0] => some ⟨Bool, F_spec_l8Id fu (⟨a0_1, a0_2, a0_3, a0_4, (⟨za0_5, na0_5, fa0_5⟩ : (Sl S_impl_Entry)), a0_6, a0_7, (⟨za0_8, na0_8, fa0_8⟩ : (Sl Int)), (⟨za0_9, na0_9, fa0_9⟩ : (Sl Int)), (⟨za0_10, na0_10, fa0_10⟩ : (Sl Int))⟩ : S_impl_Node) a1_0, enc_bo, fun _ => true⟩ | _ => none
theorem hpc_a14 (fu : Nat) : ∀ f xs o, pcf_a14 fu f xs = some o → ∀ y, o.x = some y → Good E Try.prog f xs (o.g y) := by
  intro f xs o h
  unfold pcf_a14 at h
  split at h
  · exact good_a13 fu xs o h
  · cases h
theorem goodv_a14 (fu : Nat) (n_0 : S_impl_Node) (id_1 : Int) (y : Bool) (hy : F_spec_l8Id fu n_0 id_1 = some y) : Good E Try.prog 158 [(.rptr [(.int .i64 n_0.Id), (.int .i64 n_0.Peers), (.int .i64 n_0.Term), (.int .i64 n_0.Voted), (.rs n_0.Log.z .impl_Entry n_0.Log.n n_0.Log.f), (.int .i64 n_0.Role), (.int .i64 n_0.Commit), (.rs n_0.Votes.z .i64 n_0.Votes.n n_0.Votes.f), (.rs n_0.Next.z .i64 n_0.Next.n n_0.Next.f), (.rs n_0.Match.z .i64 n_0.Match.n n_0.Match.f)]), (.int .i64 id_1)] (enc_bo y) :=
  fun_good E_ok (pc_good (pc := pc_a14 fu) (hpc_a14 fu) hpx0) (fn := Try.f158) (c := body_a14) (out := out_bo) (y := y) (by kernel_rfl) (by kernel_rfl) (by kernel_rfl) (lpok_a14 fu) (fun d hd => out_bo_enc d _ hd) ((ev_a14 fu n_0 id_1).trans hy)
theorem good_a14 (fu : Nat) : ∀ xs o, S_a14 fu xs = some o → ∀ y, o.x = some y → Good E Try.prog 158 xs (o.g y) := by
  intro xs o h y hy
  unfold S_a14 at h
  split at h
  · rename_i a0_1 a0_2 a0_3 a0_4 za0_5 na0_5 fa0_5 a0_6 a0_7 za0_8 na0_8 fa0_8 za0_9 na0_9 fa0_9 za0_10 na0_10 fa0_10 ra0 a1_0
    cases h
    exact (goodv_a14 fu (⟨a0_1, a0_2, a0_3, a0_4, (⟨za0_5, na0_5, fa0_5⟩ : (Sl S_impl_Entry)), a0_6, a0_7, (⟨za0_8, na0_8, fa0_8⟩ : (Sl Int)), (⟨za0_9, na0_9, fa0_9⟩ : (Sl Int)), (⟨za0_10, na0_10, fa0_10⟩ : (Sl Int))⟩ : S_impl_Node) a1_0 y hy).sub ⟨Sub.of_eq ra0 rfl, .refl _, trivial⟩
  · cases h

/-! spec.l5Needs -/
def F_spec_l5Needs (fu : Nat) (kind_0 : Int) : Option (Bool × Bool × Bool × Bool) :=
  ((F_spec_l1In fu kind_0 5 8).bind fun y114 => (bif (kind_0 != 5) then (bif (kind_0 == 1) then (some ((kind_0 != 6), true, (kind_0 != 4), y114)) else (some ((kind_0 != 6), y114,
    (kind_0 != 4), y114))) else (bif (kind_0 == 1) then (some (false, true, (kind_0 != 4), y114)) else (some (false, y114, (kind_0 != 4), y114)))))
def pcf_a15 (fu : Nat) (f : Nat) (xs : List (D RT den)) : Option (Out RT den) := match f with | 65 => S_a13 fu xs | _ => none
def pc_a15 (fu : Nat) : Pc RT den := ⟨pcf_a15 fu, fun _ => false, fun _ => false, pcd0, pcx0⟩
def msk_a15 (b : Nat) : List Nat := []
def lp_a15 (fu : Nat) : Lp RT den (Bool × Bool × Bool × Bool) := fun b s k => none
theorem ev_a15 (fu : Nat) (kind_0 : Int) : evFun E (pc_a15 fu) msk_a15 (lp_a15 fu) out_bo_bo_bo_bo 194 [(.int .i64 kind_0)] = F_spec_l5Needs fu kind_0 := by kernel_rfl
noncomputable def body_a15 : Code := Try.f194.body.getD .skip
theorem lpok_a15 (fu : Nat) : LpOk E (pc_a15 fu) msk_a15 (lp_a15 fu) (loops 0 body_a15) := by
  have h : loops 0 body_a15 = [] := by kernel_rfl
  rw [h]; intro p hp; cases hp
def S_a15 (fu : Nat) (xs : List (D RT den)) : Option (Out RT den) := match xs with | [.int .i64 a0_0] => some ⟨Bool × Bool × Bool × Bool, F_spec_l5Needs fu a0_0, enc_bo_bo_bo_bo, fun _ => true⟩ | _ => none
theorem hpc_a15 (fu : Nat) : ∀ f xs o, pcf_a15 fu f xs = some o → ∀ y, o.x = some y → Good E Try.prog f xs (o.g y) := by
  intro f xs o h
  unfold pcf_a15 at h
  split at h
  · exact good_a13 fu xs o h
  · cases h
theorem goodv_a15 (fu : Nat) (kind_0 : Int) (y : Bool × Bool × Bool × Bool) (hy : F_spec_l5Needs fu kind_0 = some y) : Good E Try.prog 194 [(.int .i64 kind_0)] (enc_bo_bo_bo_bo y) :=
  fun_good E_ok (pc_good (pc := pc_a15 fu) (hpc_a15 fu) hpx0) (fn := Try.f194) (c := body_a15) (out := out_bo_bo_bo_bo) (y := y) (by kernel_rfl) (by kernel_rfl) (by kernel_rfl) (lpok_a15 fu) (fun d hd => out_bo_bo_bo_bo_enc d _ hd) ((ev_a15 fu kind_0).trans hy)
theorem good_a15 (fu : Nat) : ∀ xs o, S_a15 fu xs = some o → ∀ y, o.x = some y → Good E Try.prog 194 xs (o.g y) := by
  intro xs o h y hy
  unfold S_a15 at h
  split at h
  · rename_i a0_0
    cases h
    exact goodv_a15 fu a0_0 y hy
  · cases h

/-! spec.l5Version -/
def F_spec_l5Version (fu : Nat) (v_0 : Int) : Option (Bool) :=
  ((F_spec_l1In fu v_0 0 1000000).bind fun y115 => (some y115))
def pcf_a16 (fu : Nat) (f : Nat) (xs : List (D RT den)) : Option (Out RT den) := match f with | 65 => S_a13 fu xs | _ => none
def pc_a16 (fu : Nat) : Pc RT den := ⟨pcf_a16 fu, fun _ => false, fun _ => false, pcd0, pcx0⟩
def msk_a16 (b : Nat) : List Nat := []
def lp_a16 (fu : Nat) : Lp RT den (Bool) := fun b s k => none
theorem ev_a16 (fu : Nat) (v_0 : Int) : evFun E (pc_a16 fu) msk_a16 (lp_a16 fu) out_bo 124 [(.int .i64 v_0)] = F_spec_l5Version fu v_0 := by kernel_rfl
noncomputable def body_a16 : Code := Try.f124.body.getD .skip
theorem lpok_a16 (fu : Nat) : LpOk E (pc_a16 fu) msk_a16 (lp_a16 fu) (loops 0 body_a16) := by
  have h : loops 0 body_a16 = [] := by kernel_rfl
  rw [h]; intro p hp; cases hp
def S_a16 (fu : Nat) (xs : List (D RT den)) : Option (Out RT den) := match xs with | [.int .i64 a0_0] => some ⟨Bool, F_spec_l5Version fu a0_0, enc_bo, fun _ => true⟩ | _ => none
theorem hpc_a16 (fu : Nat) : ∀ f xs o, pcf_a16 fu f xs = some o → ∀ y, o.x = some y → Good E Try.prog f xs (o.g y) := by
  intro f xs o h
  unfold pcf_a16 at h
  split at h
  · exact good_a13 fu xs o h
  · cases h
theorem goodv_a16 (fu : Nat) (v_0 : Int) (y : Bool) (hy : F_spec_l5Version fu v_0 = some y) : Good E Try.prog 124 [(.int .i64 v_0)] (enc_bo y) :=
  fun_good E_ok (pc_good (pc := pc_a16 fu) (hpc_a16 fu) hpx0) (fn := Try.f124) (c := body_a16) (out := out_bo) (y := y) (by kernel_rfl) (by kernel_rfl) (by kernel_rfl) (lpok_a16 fu) (fun d hd => out_bo_enc d _ hd) ((ev_a16 fu v_0).trans hy)
theorem good_a16 (fu : Nat) : ∀ xs o, S_a16 fu xs = some o → ∀ y, o.x = some y → Good E Try.prog 124 xs (o.g y) := by
  intro xs o h y hy
  unfold S_a16 at h
  split at h
  · rename_i a0_0
    cases h
    exact goodv_a16 fu a0_0 y hy
  · cases h

/-! spec.l3Name -/
def F_spec_l3Name (fu : Nat) (name_0 : Int) : Option (Bool) :=
  ((F_spec_l1In fu name_0 1 999).bind fun y116 => (some y116))
def pcf_a17 (fu : Nat) (f : Nat) (xs : List (D RT den)) : Option (Out RT den) := match f with | 65 => S_a13 fu xs | _ => none
def pc_a17 (fu : Nat) : Pc RT den := ⟨pcf_a17 fu, fun _ => false, fun _ => false, pcd0, pcx0⟩
def msk_a17 (b : Nat) : List Nat := []
def lp_a17 (fu : Nat) : Lp RT den (Bool) := fun b s k => none
theorem ev_a17 (fu : Nat) (name_0 : Int) : evFun E (pc_a17 fu) msk_a17 (lp_a17 fu) out_bo 127 [(.int .i64 name_0)] = F_spec_l3Name fu name_0 := by kernel_rfl
noncomputable def body_a17 : Code := Try.f127.body.getD .skip
theorem lpok_a17 (fu : Nat) : LpOk E (pc_a17 fu) msk_a17 (lp_a17 fu) (loops 0 body_a17) := by
  have h : loops 0 body_a17 = [] := by kernel_rfl
  rw [h]; intro p hp; cases hp
def S_a17 (fu : Nat) (xs : List (D RT den)) : Option (Out RT den) := match xs with | [.int .i64 a0_0] => some ⟨Bool, F_spec_l3Name fu a0_0, enc_bo, fun _ => true⟩ | _ => none
theorem hpc_a17 (fu : Nat) : ∀ f xs o, pcf_a17 fu f xs = some o → ∀ y, o.x = some y → Good E Try.prog f xs (o.g y) := by
  intro f xs o h
  unfold pcf_a17 at h
  split at h
  · exact good_a13 fu xs o h
  · cases h
theorem goodv_a17 (fu : Nat) (name_0 : Int) (y : Bool) (hy : F_spec_l3Name fu name_0 = some y) : Good E Try.prog 127 [(.int .i64 name_0)] (enc_bo y) :=
  fun_good E_ok (pc_good (pc := pc_a17 fu) (hpc_a17 fu) hpx0) (fn := Try.f127) (c := body_a17) (out := out_bo) (y := y) (by kernel_rfl) (by kernel_rfl) (by kernel_rfl) (lpok_a17 fu) (fun d hd => out_bo_enc d _ hd) ((ev_a17 fu name_0).trans hy)
theorem good_a17 (fu : Nat) : ∀ xs o, S_a17 fu xs = some o → ∀ y, o.x = some y → Good E Try.prog 127 xs (o.g y) := by
  intro xs o h y hy
  unfold S_a17 at h
  split at h
  · rename_i a0_0
    cases h
    exact goodv_a17 fu a0_0 y hy
  · cases h

/-! spec.l2Address -/
def F_spec_l2Address (fu : Nat) (a_0 : Int) : Option (Bool) :=
  ((F_spec_l1In fu a_0 0 4294967295).bind fun y117 => (some y117))
def pcf_a18 (fu : Nat) (f : Nat) (xs : List (D RT den)) : Option (Out RT den) := match f with | 65 => S_a13 fu xs | _ => none
def pc_a18 (fu : Nat) : Pc RT den := ⟨pcf_a18 fu, fun _ => false, fun _ => false, pcd0, pcx0⟩
def msk_a18 (b : Nat) : List Nat := []
def lp_a18 (fu : Nat) : Lp RT den (Bool) := fun b s k => none
theorem ev_a18 (fu : Nat) (a_0 : Int) : evFun E (pc_a18 fu) msk_a18 (lp_a18 fu) out_bo 144 [(.int .i64 a_0)] = F_spec_l2Address fu a_0 := by kernel_rfl
noncomputable def body_a18 : Code := Try.f144.body.getD .skip
theorem lpok_a18 (fu : Nat) : LpOk E (pc_a18 fu) msk_a18 (lp_a18 fu) (loops 0 body_a18) := by
  have h : loops 0 body_a18 = [] := by kernel_rfl
  rw [h]; intro p hp; cases hp
def S_a18 (fu : Nat) (xs : List (D RT den)) : Option (Out RT den) := match xs with | [.int .i64 a0_0] => some ⟨Bool, F_spec_l2Address fu a0_0, enc_bo, fun _ => true⟩ | _ => none
theorem hpc_a18 (fu : Nat) : ∀ f xs o, pcf_a18 fu f xs = some o → ∀ y, o.x = some y → Good E Try.prog f xs (o.g y) := by
  intro f xs o h
  unfold pcf_a18 at h
  split at h
  · exact good_a13 fu xs o h
  · cases h
theorem goodv_a18 (fu : Nat) (a_0 : Int) (y : Bool) (hy : F_spec_l2Address fu a_0 = some y) : Good E Try.prog 144 [(.int .i64 a_0)] (enc_bo y) :=
  fun_good E_ok (pc_good (pc := pc_a18 fu) (hpc_a18 fu) hpx0) (fn := Try.f144) (c := body_a18) (out := out_bo) (y := y) (by kernel_rfl) (by kernel_rfl) (by kernel_rfl) (lpok_a18 fu) (fun d hd => out_bo_enc d _ hd) ((ev_a18 fu a_0).trans hy)
theorem good_a18 (fu : Nat) : ∀ xs o, S_a18 fu xs = some o → ∀ y, o.x = some y → Good E Try.prog 144 xs (o.g y) := by
  intro xs o h y hy
  unfold S_a18 at h
  split at h
  · rename_i a0_0
    cases h
    exact goodv_a18 fu a0_0 y hy
  · cases h

/-! spec.l2Port -/
def F_spec_l2Port (fu : Nat) (p_0 : Int) : Option (Bool) :=
  ((F_spec_l1In fu p_0 0 65535).bind fun y123 => (some y123))
def pcf_a19 (fu : Nat) (f : Nat) (xs : List (D RT den)) : Option (Out RT den) := match f with | 65 => S_a13 fu xs | _ => none
def pc_a19 (fu : Nat) : Pc RT den := ⟨pcf_a19 fu, fun _ => false, fun _ => false, pcd0, pcx0⟩
def msk_a19 (b : Nat) : List Nat := []
def lp_a19 (fu : Nat) : Lp RT den (Bool) := fun b s k => none
theorem ev_a19 (fu : Nat) (p_0 : Int) : evFun E (pc_a19 fu) msk_a19 (lp_a19 fu) out_bo 176 [(.int .i64 p_0)] = F_spec_l2Port fu p_0 := by kernel_rfl
noncomputable def body_a19 : Code := Try.f176.body.getD .skip
theorem lpok_a19 (fu : Nat) : LpOk E (pc_a19 fu) msk_a19 (lp_a19 fu) (loops 0 body_a19) := by
  have h : loops 0 body_a19 = [] := by kernel_rfl
  rw [h]; intro p hp; cases hp
def S_a19 (fu : Nat) (xs : List (D RT den)) : Option (Out RT den) := match xs with | [.int .i64 a0_0] => some ⟨Bool, F_spec_l2Port fu a0_0, enc_bo, fun _ => true⟩ | _ => none
theorem hpc_a19 (fu : Nat) : ∀ f xs o, pcf_a19 fu f xs = some o → ∀ y, o.x = some y → Good E Try.prog f xs (o.g y) := by
  intro f xs o h
  unfold pcf_a19 at h
  split at h
  · exact good_a13 fu xs o h
  · cases h
theorem goodv_a19 (fu : Nat) (p_0 : Int) (y : Bool) (hy : F_spec_l2Port fu p_0 = some y) : Good E Try.prog 176 [(.int .i64 p_0)] (enc_bo y) :=
  fun_good E_ok (pc_good (pc := pc_a19 fu) (hpc_a19 fu) hpx0) (fn := Try.f176) (c := body_a19) (out := out_bo) (y := y) (by kernel_rfl) (by kernel_rfl) (by kernel_rfl) (lpok_a19 fu) (fun d hd => out_bo_enc d _ hd) ((ev_a19 fu p_0).trans hy)
theorem good_a19 (fu : Nat) : ∀ xs o, S_a19 fu xs = some o → ∀ y, o.x = some y → Good E Try.prog 176 xs (o.g y) := by
  intro xs o h y hy
  unfold S_a19 at h
  split at h
  · rename_i a0_0
    cases h
    exact goodv_a19 fu a0_0 y hy
  · cases h

/-! spec.l5Number -/
def F_spec_l5Number (fu : Nat) (x_0 : S_impl_Cmd) : Option (Bool) :=
  (bif (x_0.Kind == 1) then ((F_spec_l1In fu x_0.Number 0 9).bind fun y118 => (some y118)) else (bif (x_0.Kind == 2) then ((F_spec_l1In fu x_0.Number 0 9).bind fun y119 => (some y119)) else
    (bif (x_0.Kind == 3) then ((F_spec_l1In fu x_0.Number 1 3).bind fun y120 => (some y120)) else (bif (x_0.Kind == 9) then ((F_spec_l1In fu x_0.Number 0 1).bind fun y121 => (some y121)) else
    ((F_spec_l2Port fu x_0.Number).bind fun y122 => (some y122))))))
def pcf_a20 (fu : Nat) (f : Nat) (xs : List (D RT den)) : Option (Out RT den) := match f with | 65 => S_a13 fu xs | 176 => S_a19 fu xs | _ => none
def pc_a20 (fu : Nat) : Pc RT den := ⟨pcf_a20 fu, fun _ => false, fun _ => false, pcd0, pcx0⟩
def msk_a20 (b : Nat) : List Nat := []
def lp_a20 (fu : Nat) : Lp RT den (Bool) := fun b s k => none
theorem ev_a20 (fu : Nat) (x_0 : S_impl_Cmd) : evFun E (pc_a20 fu) msk_a20 (lp_a20 fu) out_bo 195 [(.agg [(.int .i64 x_0.Kind), (.int .i64 x_0.Expect), (.int .i64 x_0.Name), (.int .i64 x_0.Addr), (.int .i64 x_0.Number), (.int .i64 x_0.Proto)])] = F_spec_l5Number fu x_0 := by kernel_rfl
noncomputable def body_a20 : Code := Try.f195.body.getD .skip
theorem lpok_a20 (fu : Nat) : LpOk E (pc_a20 fu) msk_a20 (lp_a20 fu) (loops 0 body_a20) := by
  have h : loops 0 body_a20 = [] := by kernel_rfl
  rw [h]; intro p hp; cases hp
def S_a20 (fu : Nat) (xs : List (D RT den)) : Option (Out RT den) := match xs with | [.agg [.int .i64 a0_1, .int .i64 a0_2, .int .i64 a0_3, .int .i64 a0_4, .int .i64 a0_5, .int .i64 a0_6]] => some ⟨Bool, F_spec_l5Number fu (⟨a0_1, a0_2, a0_3, a0_4, a0_5, a0_6⟩ : S_impl_Cmd), enc_bo, fun _ => true⟩ | _ => none
theorem hpc_a20 (fu : Nat) : ∀ f xs o, pcf_a20 fu f xs = some o → ∀ y, o.x = some y → Good E Try.prog f xs (o.g y) := by
  intro f xs o h
  unfold pcf_a20 at h
  split at h
  · exact good_a13 fu xs o h
  · exact good_a19 fu xs o h
  · cases h
theorem goodv_a20 (fu : Nat) (x_0 : S_impl_Cmd) (y : Bool) (hy : F_spec_l5Number fu x_0 = some y) : Good E Try.prog 195 [(.agg [(.int .i64 x_0.Kind), (.int .i64 x_0.Expect), (.int .i64 x_0.Name), (.int .i64 x_0.Addr), (.int .i64 x_0.Number), (.int .i64 x_0.Proto)])] (enc_bo y) :=
  fun_good E_ok (pc_good (pc := pc_a20 fu) (hpc_a20 fu) hpx0) (fn := Try.f195) (c := body_a20) (out := out_bo) (y := y) (by kernel_rfl) (by kernel_rfl) (by kernel_rfl) (lpok_a20 fu) (fun d hd => out_bo_enc d _ hd) ((ev_a20 fu x_0).trans hy)
theorem good_a20 (fu : Nat) : ∀ xs o, S_a20 fu xs = some o → ∀ y, o.x = some y → Good E Try.prog 195 xs (o.g y) := by
  intro xs o h y hy
  unfold S_a20 at h
  split at h
  · rename_i a0_1 a0_2 a0_3 a0_4 a0_5 a0_6
    cases h
    exact goodv_a20 fu (⟨a0_1, a0_2, a0_3, a0_4, a0_5, a0_6⟩ : S_impl_Cmd) y hy
  · cases h

/-! spec.l5Proto -/
def F_spec_l5Proto (fu : Nat) (p_0 : Int) : Option (Bool) :=
  (((bif (p_0 == 6) then (some true) else (some (p_0 == 17))) : Option Bool).bind fun m124 => (some m124))
def pc_a21 (fu : Nat) : Pc RT den := ⟨pcf0, fun _ => false, fun _ => false, pcd0, pcx0⟩
def msk_a21 (b : Nat) : List Nat := match b with | 200001 => [2] | _ => []
def lp_a21 (fu : Nat) : Lp RT den (Bool) := fun b s k => none
theorem ev_a21 (fu : Nat) (p_0 : Int) : evFun E (pc_a21 fu) msk_a21 (lp_a21 fu) out_bo 177 [(.int .i64 p_0)] = F_spec_l5Proto fu p_0 := by kernel_rfl
noncomputable def body_a21 : Code := Try.f177.body.getD .skip
theorem lpok_a21 (fu : Nat) : LpOk E (pc_a21 fu) msk_a21 (lp_a21 fu) (loops 0 body_a21) := by
  have h : loops 0 body_a21 = [] := by kernel_rfl
  rw [h]; intro p hp; cases hp
def S_a21 (fu : Nat) (xs : List (D RT den)) : Option (Out RT den) := match xs with | [.int .i64 a0_0] => some ⟨Bool, F_spec_l5Proto fu a0_0, enc_bo, fun _ => true⟩ | _ => none
theorem goodv_a21 (fu : Nat) (p_0 : Int) (y : Bool) (hy : F_spec_l5Proto fu p_0 = some y) : Good E Try.prog 177 [(.int .i64 p_0)] (enc_bo y) :=
  fun_good E_ok (pc_good (pc := pc_a21 fu) hpc0 hpx0) (fn := Try.f177) (c := body_a21) (out := out_bo) (y := y) (by kernel_rfl) (by kernel_rfl) (by kernel_rfl) (lpok_a21 fu) (fun d hd => out_bo_enc d _ hd) ((ev_a21 fu p_0).trans hy)
theorem good_a21 (fu : Nat) : ∀ xs o, S_a21 fu xs = some o → ∀ y, o.x = some y → Good E Try.prog 177 xs (o.g y) := by
  intro xs o h y hy
  unfold S_a21 at h
  split at h
  · rename_i a0_0
    cases h
    exact goodv_a21 fu a0_0 y hy
  · cases h
end Go.Proofs.Ytmnbmponjhglcaa.Pc
