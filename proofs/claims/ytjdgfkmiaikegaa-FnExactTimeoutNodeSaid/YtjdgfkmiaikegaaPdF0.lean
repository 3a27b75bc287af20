/- The functions' evaluated forms, each a proved summary. Conditions: none. -/
import Derived.Test.YtjdgfkmiaikegaaPdT
namespace Go.Proofs.Ytjdgfkmiaikegaa.Pd
open Go Go.RowKit Go.Proofs Vm
set_option linter.unusedVariables false
set_option linter.unusedSimpArgs false
set_option maxRecDepth 100000
abbrev Ya0 : Type := Int × Int × Int × Int × (Sl S_impl_Entry) × Int × Int × (Sl Int) × (Sl Int) × (Sl Int)
abbrev Ya1 : Type := Int × Int × Int × Int × (Sl S_impl_Entry) × Int × Int × (Sl Int) × (Sl Int) × (Sl Int) × Int
/-! laws.toCmd -/
def F_laws_toCmd (fu : Nat) (a_0 : S_impl_Cmd) : Option (S_impl_Cmd) :=
  (some a_0)
def pc_a0 (fu : Nat) : Pc RT den := ⟨pcf0, fun _ => false, fun _ => false, pcd0, pcd0, pcx0⟩
def msk_a0 (b : Nat) : List Nat := []
def lp_a0 (fu : Nat) : Lp RT den (S_impl_Cmd) := ⟨fun b s k => none, inl0⟩
theorem ev_a0 (fu : Nat) (a_0 : S_impl_Cmd) : evFun E (pc_a0 fu) msk_a0 (lp_a0 fu) out_impl_Cmd 91 [(.agg [(.int .i64 a_0.Kind), (.int .i64 a_0.Expect), (.int .i64 a_0.Name), (.int .i64 a_0.Addr), (.int .i64 a_0.Number), (.int .i64 a_0.Proto)])] = F_laws_toCmd fu a_0 := by kernel_rfl
noncomputable def body_a0 : Code := Try.f91.body.getD .skip
theorem lpok_a0 (fu : Nat) : LpOk E (pc_a0 fu) 0 msk_a0 (lp_a0 fu) (loops 0 body_a0) := lp_nil (loop_nil (by kernel_rfl)) (by kernel_rfl)
def S_a0 (fu : Nat) (xs : List (D RT den)) : Option (Out RT den) := match xs with | [.agg [.int .i64 a0_1, .int .i64 a0_2, .int .i64 a0_3, .int .i64 a0_4, .int .i64 a0_5, .int .i64 a0_6]] => some ⟨S_impl_Cmd, F_laws_toCmd fu (⟨a0_1, a0_2, a0_3, a0_4, a0_5, a0_6⟩ : S_impl_Cmd), enc_impl_Cmd, fun _ => true⟩ | _ => none
theorem goodv_a0 (fu : Nat) (a_0 : S_impl_Cmd) (y : S_impl_Cmd) (hy : F_laws_toCmd fu a_0 = some y) : Good E Try.prog 91 [(.agg [(.int .i64 a_0.Kind), (.int .i64 a_0.Expect), (.int .i64 a_0.Name), (.int .i64 a_0.Addr), (.int .i64 a_0.Number), (.int .i64 a_0.Proto)])] (enc_impl_Cmd y) :=
  fun_good E_ok (pc_good (pc := pc_a0 fu) hpc0 hpx0) (fn := Try.f91) (c := body_a0) (out := out_impl_Cmd) (y := y) (by kernel_rfl) (by kernel_rfl) (by kernel_rfl) (lpok_a0 fu) (fun d hd => out_impl_Cmd_enc d _ hd) ((ev_a0 fu a_0).trans hy)
theorem good_a0 (fu : Nat) : ∀ xs o, S_a0 fu xs = some o → ∀ y, o.x = some y → Good E Try.prog 91 xs (o.g y) := by
  intro xs o h y hy
  unfold S_a0 at h
  split at h
  · rename_i a0_1 a0_2 a0_3 a0_4 a0_5 a0_6
    cases h
    exact goodv_a0 fu (⟨a0_1, a0_2, a0_3, a0_4, a0_5, a0_6⟩ : S_impl_Cmd) y hy
  · cases h

/-! laws.toEntry -/
def F_laws_toEntry (fu : Nat) (a_0 : S_laws_Entry) : Option (S_impl_Entry) :=
  ((F_laws_toCmd fu a_0.Cmd).bind fun y6 => (some (⟨a_0.Term, a_0.Client, a_0.Seq, y6⟩ : S_impl_Entry)))
def pcf_a1 (fu : Nat) (f : Nat) (xs : List (D RT den)) : Option (Out RT den) := match f with | 91 => S_a0 fu xs | _ => none
def pc_a1 (fu : Nat) : Pc RT den := ⟨pcf_a1 fu, fun _ => false, fun _ => false, pcd0, pcd0, pcx0⟩
def msk_a1 (b : Nat) : List Nat := []
def lp_a1 (fu : Nat) : Lp RT den (S_impl_Entry) := ⟨fun b s k => none, inl0⟩
theorem ev_a1 (fu : Nat) (a_0 : S_laws_Entry) : evFun E (pc_a1 fu) msk_a1 (lp_a1 fu) out_impl_Entry 75 [(.agg [(.int .i64 a_0.Term), (.int .i64 a_0.Client), (.int .i64 a_0.Seq), (.int .i64 a_0.Cmd.Kind), (.int .i64 a_0.Cmd.Expect), (.int .i64 a_0.Cmd.Name), (.int .i64 a_0.Cmd.Addr), (.int .i64 a_0.Cmd.Number), (.int .i64 a_0.Cmd.Proto)])] = F_laws_toEntry fu a_0 := by kernel_rfl
noncomputable def body_a1 : Code := Try.f75.body.getD .skip
theorem lpok_a1 (fu : Nat) : LpOk E (pc_a1 fu) 0 msk_a1 (lp_a1 fu) (loops 0 body_a1) := lp_nil (loop_nil (by kernel_rfl)) (by kernel_rfl)
def S_a1 (fu : Nat) (xs : List (D RT den)) : Option (Out RT den) := match xs with | [.agg [.int .i64 a0_1, .int .i64 a0_2, .int .i64 a0_3, .int .i64 a0_5, .int .i64 a0_6, .int .i64 a0_7, .int .i64 a0_8, .int .i64 a0_9, .int .i64 a0_10]] => some ⟨S_impl_Entry, F_laws_toEntry fu (⟨a0_1, a0_2, a0_3, (⟨a0_5, a0_6, a0_7, a0_8, a0_9, a0_10⟩ : S_impl_Cmd)⟩ : S_laws_Entry), enc_impl_Entry, fun _ => true⟩ | _ => none
theorem hpc_a1 (fu : Nat) : ∀ f xs o, pcf_a1 fu f xs = some o → ∀ y, o.x = some y → Good E Try.prog f xs (o.g y) := by
  intro f xs o h
  unfold pcf_a1 at h
  split at h
  · exact good_a0 fu xs o h
  · cases h
theorem goodv_a1 (fu : Nat) (a_0 : S_laws_Entry) (y : S_impl_Entry) (hy : F_laws_toEntry fu a_0 = some y) : Good E Try.prog 75 [(.agg [(.int .i64 a_0.Term), (.int .i64 a_0.Client), (.int .i64 a_0.Seq), (.int .i64 a_0.Cmd.Kind), (.int .i64 a_0.Cmd.Expect), (.int .i64 a_0.Cmd.Name), (.int .i64 a_0.Cmd.Addr), (.int .i64 a_0.Cmd.Number), (.int .i64 a_0.Cmd.Proto)])] (enc_impl_Entry y) :=
  fun_good E_ok (pc_good (pc := pc_a1 fu) (hpc_a1 fu) hpx0) (fn := Try.f75) (c := body_a1) (out := out_impl_Entry) (y := y) (by kernel_rfl) (by kernel_rfl) (by kernel_rfl) (lpok_a1 fu) (fun d hd => out_impl_Entry_enc d _ hd) ((ev_a1 fu a_0).trans hy)
theorem good_a1 (fu : Nat) : ∀ xs o, S_a1 fu xs = some o → ∀ y, o.x = some y → Good E Try.prog 75 xs (o.g y) := by
  intro xs o h y hy
  unfold S_a1 at h
  split at h
  · rename_i a0_1 a0_2 a0_3 a0_5 a0_6 a0_7 a0_8 a0_9 a0_10
    cases h
    exact goodv_a1 fu (⟨a0_1, a0_2, a0_3, (⟨a0_5, a0_6, a0_7, a0_8, a0_9, a0_10⟩ : S_impl_Cmd)⟩ : S_laws_Entry) y hy
  · cases h

/-! laws.toEntryS -/
def F_laws_toEntryS_H_B0 {ρ : Type} (fu : Nat) (a0_0 : (Sl S_laws_Entry)) (out3_1 : Nat) (on0_3 : Nat) (k0 : (Nat → S_impl_Entry) → Option ρ) (i4_2 : Int) (of0_4 : (Nat → S_impl_Entry)) (go : Int → (Nat → S_impl_Entry) → Option ρ) : Option ρ :=
  (bif (decide (i4_2 < ((a0_0.n : Nat) : Int))) then ((bif (decide (0 ≤ i4_2) && decide ((Int.toNat i4_2) < a0_0.n)) then some () else none : Option Unit).bind fun _ =>
    ((F_laws_toEntry fu (a0_0.f (Int.toNat i4_2))).bind fun y4 => ((bif (decide (0 ≤ i4_2) && decide ((Int.toNat i4_2) < out3_1)) then some () else none : Option Unit).bind fun _ =>
    (go (IntKind.wrap .i64 (i4_2 + 1)) (fun j => if j = (Int.toNat i4_2) then y4 else of0_4 j))))) else (k0 of0_4))
def F_laws_toEntryS_H (fu : Nat) (a_0 : (Sl S_laws_Entry)) : Option ((Sl S_impl_Entry)) :=
  (bif (decide (0 ≤ ((a_0.n : Nat) : Int)) && (decide (((a_0.n : Nat) : Int) = ((a_0.n : Nat) : Int)) && (decide ((72 : Int) * ((a_0.n : Nat) : Int) ≤ 281474976710656) && decide (((a_0.n : Nat) : Int) ≤ 9223372036854775807)))) then
    (L (fun w0 go0 => F_laws_toEntryS_H_B0 fu a_0 (Int.toNat ((a_0.n : Nat) : Int)) (Int.toNat ((a_0.n : Nat) : Int)) (fun z5 => (some (⟨none, (Int.toNat ((a_0.n : Nat) : Int)), z5⟩ : (Sl S_impl_Entry)))) w0.1 w0.2 (fun q0 q1 =>
    go0 (q0, q1))) fu ((0, (fun _ => (⟨0, 0, 0, (⟨0, 0, 0, 0, 0, 0⟩ : S_impl_Cmd)⟩ : S_impl_Entry))) : Int × (Nat → S_impl_Entry))) else none)
def pcf_a2 (fu : Nat) (f : Nat) (xs : List (D RT den)) : Option (Out RT den) := match f with | 75 => S_a1 fu xs | _ => none
def pc_a2 (fu : Nat) : Pc RT den := ⟨pcf_a2 fu, fun _ => false, fun _ => false, pcd0, pcd0, pcx0⟩
def msk_a2 (b : Nat) : List Nat := match b with | 0 => (1 :: 2 :: (rg 5 18 [])) | 100000 => (0 :: 1 :: (rg 4 19 [])) | _ => []
def ps_a2_0 : List (Pat RT) := (.flat (.rs .laws_Entry) :: .flat .q :: .flat .q :: .flat (.os 0) :: .flat (.int .i64) :: (fq 18 []))
def os_a2_0 : List (OP RT) := [.row false .impl_Entry]
def conv_a2_0 (r : Raw den ps_a2_0 os_a2_0) : ((Sl S_laws_Entry) × Nat × Nat) × (Int × (Nat → S_impl_Entry)) := ((r.1.1, r.1.2.2.2.1, r.2.1.1), (r.1.2.2.2.2.1, r.2.1.2))
def back_a2_0 (c : (Sl S_laws_Entry) × Nat × Nat) (w : Int × (Nat → S_impl_Entry)) : St RT den := ⟨((.rs c.1.z .laws_Entry c.1.n c.1.f) :: .q :: .q :: (.os 0 c.2.1) :: (.int .i64 w.1) :: (qs 18 [])), [(.row false .impl_Entry c.2.2 w.2)]⟩
def Bk_a2_0 {ρ : Type} (fu : Nat) (c : (Sl S_laws_Entry) × Nat × Nat) (k : Ex → St RT den → Option ρ) (w : Int × (Nat → S_impl_Entry)) (go : (Int × (Nat → S_impl_Entry)) → Option ρ) : Option ρ := F_laws_toEntryS_H_B0 fu c.1 c.2.1 c.2.2 (fun a0 => k (.exit 0) ⟨(.q :: .q :: .q :: (.os 0 c.2.1) :: (qs 19 [])), [(.row false .impl_Entry c.2.2 a0)]⟩) w.1 w.2 (fun q0 q1 => go (q0, q1))
def lp_a2 (fu : Nat) : Lp RT den ((Sl S_impl_Entry)) := ⟨fun b s k => match b with | 0 => handle ps_a2_0 os_a2_0 conv_a2_0 (Bk_a2_0 fu) fu s k | _ => none, inl0⟩
theorem ev_a2 (fu : Nat) (a_0 : (Sl S_laws_Entry)) : evFunX E false (pc_a2 fu) msk_a2 (lp_a2 fu) out_sl_impl_Entry_H 29 [(.rs a_0.z .laws_Entry a_0.n a_0.f)] [] = F_laws_toEntryS_H fu a_0 := by kernel_rfl
noncomputable def body_a2 : Code := Try.f29.body.getD .skip
noncomputable def lc_a2_0 : Code := ((loops 0 body_a2).getD 0 (0, .skip)).2
theorem round_a2_0 (fu : Nat) (it : St RT den → Option ((Sl S_impl_Entry))) (k : Ex → St RT den → Option ((Sl S_impl_Entry))) c w : evCode E (pc_a2 fu) msk_a2 (lp_a2 fu) 0 lc_a2_0 (back_a2_0 c w) (after (msk_a2 0) (msk_a2 100000) 1 it k) = Bk_a2_0 fu c k w (fun w => it (back_a2_0 c w)) := by kernel_rfl
theorem lpok_a2_0 (fu : Nat) : ∀ s k r, (lp_a2 fu).lp 0 s k = some r → ∃ fuel, iter (msk_a2 0) (msk_a2 100000) s.objs.length (evCode E (pc_a2 fu) msk_a2 (lp_a2 fu) 0 lc_a2_0) fuel s k = some r :=
  handle_ok (ps := ps_a2_0) (os := os_a2_0) (conv := conv_a2_0) (B := Bk_a2_0 fu) (fu := fu) back_a2_0 (fun raw => by kernel_rfl) 1 (fun c w => by kernel_rfl) (round_a2_0 fu)
theorem lpok_a2 (fu : Nat) : LpOk E (pc_a2 fu) 0 msk_a2 (lp_a2 fu) (loops 0 body_a2) := lp_nil (loop_all 1 (by kernel_rfl) fun i hi => match i, hi with
  | 0, _ => by
    have h : (loops 0 body_a2).getD 0 (0, .skip) = (0, lc_a2_0) := by kernel_rfl
    rw [h]; exact lpok_a2_0 fu
  | i + 1, hi => absurd hi (by omega)) (by kernel_rfl)
def S_a2 (fu : Nat) (xs : List (D RT den)) (ins : List (Ob RT den)) : Option (OutX RT den) := match xs, ins with | [.rs za0_0 .laws_Entry na0_0 fa0_0], [] => some ⟨(Sl S_impl_Entry), F_laws_toEntryS_H fu (⟨za0_0, na0_0, fa0_0⟩ : (Sl S_laws_Entry)), enc_sl_impl_Entry_H⟩ | _, _ => none
theorem hpc_a2 (fu : Nat) : ∀ f xs o, pcf_a2 fu f xs = some o → ∀ y, o.x = some y → Good E Try.prog f xs (o.g y) := by
  intro f xs o h
  unfold pcf_a2 at h
  split at h
  · exact good_a1 fu xs o h
  · cases h
theorem goodv_a2 (fu : Nat) (a_0 : (Sl S_laws_Entry)) (y : (Sl S_impl_Entry)) (hy : F_laws_toEntryS_H fu a_0 = some y) : GoodX E Try.prog 29 [(.rs a_0.z .laws_Entry a_0.n a_0.f)] [] (enc_sl_impl_Entry_H y).1 (enc_sl_impl_Entry_H y).2 :=
  funX_good (ke := false) E_ok (pc_good (pc := pc_a2 fu) (hpc_a2 fu) hpx0) (fn := Try.f29) (c := body_a2) (out := out_sl_impl_Entry_H) (y := y) (by kernel_rfl) (by kernel_rfl) (by kernel_rfl) (lpok_a2 fu) (by kernel_rfl) (Nat.zero_le _) (fun d os hd => out_sl_impl_Entry_H_enc d os _ hd) ((ev_a2 fu a_0).trans hy)
theorem good_a2 (fu : Nat) : ∀ xs ins o, S_a2 fu xs ins = some o → ∀ y, o.x = some y → GoodX E Try.prog 29 xs ins (o.g y).1 (o.g y).2 := by
  intro xs ins o h y hy
  unfold S_a2 at h
  split at h
  · rename_i za0_0 na0_0 fa0_0
    cases h
    exact goodv_a2 fu (⟨za0_0, na0_0, fa0_0⟩ : (Sl S_laws_Entry)) y hy
  · cases h

/-! laws.toInt64S -/
def F_laws_toInt64S_H_B0 {ρ : Type} (fu : Nat) (a0_0 : (Sl Int)) (out3_1 : Nat) (on0_3 : Nat) (k0 : (Nat → Int) → Option ρ) (i4_2 : Int) (of0_4 : (Nat → Int)) (go : Int → (Nat → Int) → Option ρ) : Option ρ :=
  (bif (decide (i4_2 < ((a0_0.n : Nat) : Int))) then ((bif (decide (0 ≤ i4_2) && decide ((Int.toNat i4_2) < a0_0.n)) then some () else none : Option Unit).bind fun _ => ((bif (decide (0 ≤ i4_2) &&
    decide ((Int.toNat i4_2) < out3_1)) then some () else none : Option Unit).bind fun _ => (go (IntKind.wrap .i64 (i4_2 + 1)) (fun j => if j = (Int.toNat i4_2) then (a0_0.f (Int.toNat i4_2)) else
    of0_4 j)))) else (k0 of0_4))
def F_laws_toInt64S_H (fu : Nat) (a_0 : (Sl Int)) : Option ((Sl Int)) :=
  (bif (decide (0 ≤ ((a_0.n : Nat) : Int)) && (decide (((a_0.n : Nat) : Int) = ((a_0.n : Nat) : Int)) && (decide ((8 : Int) * ((a_0.n : Nat) : Int) ≤ 281474976710656) && decide (((a_0.n : Nat) : Int) ≤ 9223372036854775807)))) then
    (L (fun w0 go0 => F_laws_toInt64S_H_B0 fu a_0 (Int.toNat ((a_0.n : Nat) : Int)) (Int.toNat ((a_0.n : Nat) : Int)) (fun z9 => (some (⟨none, (Int.toNat ((a_0.n : Nat) : Int)), z9⟩ : (Sl Int)))) w0.1 w0.2 (fun q0 q1 =>
    go0 (q0, q1))) fu ((0, (fun _ => 0)) : Int × (Nat → Int))) else none)
def pc_a3 (fu : Nat) : Pc RT den := ⟨pcf0, fun _ => false, fun _ => false, pcd0, pcd0, pcx0⟩
def msk_a3 (b : Nat) : List Nat := match b with | 0 => (1 :: 2 :: (rg 5 17 [])) | 100000 => (0 :: 1 :: (rg 4 18 [])) | _ => []
def ps_a3_0 : List (Pat RT) := (.flat (.rs .i64) :: .flat .q :: .flat .q :: .flat (.os 0) :: .flat (.int .i64) :: (fq 17 []))
def os_a3_0 : List (OP RT) := [.row false .i64]
def conv_a3_0 (r : Raw den ps_a3_0 os_a3_0) : ((Sl Int) × Nat × Nat) × (Int × (Nat → Int)) := ((r.1.1, r.1.2.2.2.1, r.2.1.1), (r.1.2.2.2.2.1, r.2.1.2))
def back_a3_0 (c : (Sl Int) × Nat × Nat) (w : Int × (Nat → Int)) : St RT den := ⟨((.rs c.1.z .i64 c.1.n c.1.f) :: .q :: .q :: (.os 0 c.2.1) :: (.int .i64 w.1) :: (qs 17 [])), [(.row false .i64 c.2.2 w.2)]⟩
def Bk_a3_0 {ρ : Type} (fu : Nat) (c : (Sl Int) × Nat × Nat) (k : Ex → St RT den → Option ρ) (w : Int × (Nat → Int)) (go : (Int × (Nat → Int)) → Option ρ) : Option ρ := F_laws_toInt64S_H_B0 fu c.1 c.2.1 c.2.2 (fun a0 => k (.exit 0) ⟨(.q :: .q :: .q :: (.os 0 c.2.1) :: (qs 18 [])), [(.row false .i64 c.2.2 a0)]⟩) w.1 w.2 (fun q0 q1 => go (q0, q1))
def lp_a3 (fu : Nat) : Lp RT den ((Sl Int)) := ⟨fun b s k => match b with | 0 => handle ps_a3_0 os_a3_0 conv_a3_0 (Bk_a3_0 fu) fu s k | _ => none, inl0⟩
theorem ev_a3 (fu : Nat) (a_0 : (Sl Int)) : evFunX E false (pc_a3 fu) msk_a3 (lp_a3 fu) out_sl_i64_H 30 [(.rs a_0.z .i64 a_0.n a_0.f)] [] = F_laws_toInt64S_H fu a_0 := by kernel_rfl
noncomputable def body_a3 : Code := Try.f30.body.getD .skip
noncomputable def lc_a3_0 : Code := ((loops 0 body_a3).getD 0 (0, .skip)).2
theorem round_a3_0 (fu : Nat) (it : St RT den → Option ((Sl Int))) (k : Ex → St RT den → Option ((Sl Int))) c w : evCode E (pc_a3 fu) msk_a3 (lp_a3 fu) 0 lc_a3_0 (back_a3_0 c w) (after (msk_a3 0) (msk_a3 100000) 1 it k) = Bk_a3_0 fu c k w (fun w => it (back_a3_0 c w)) := by kernel_rfl
theorem lpok_a3_0 (fu : Nat) : ∀ s k r, (lp_a3 fu).lp 0 s k = some r → ∃ fuel, iter (msk_a3 0) (msk_a3 100000) s.objs.length (evCode E (pc_a3 fu) msk_a3 (lp_a3 fu) 0 lc_a3_0) fuel s k = some r :=
  handle_ok (ps := ps_a3_0) (os := os_a3_0) (conv := conv_a3_0) (B := Bk_a3_0 fu) (fu := fu) back_a3_0 (fun raw => by kernel_rfl) 1 (fun c w => by kernel_rfl) (round_a3_0 fu)
theorem lpok_a3 (fu : Nat) : LpOk E (pc_a3 fu) 0 msk_a3 (lp_a3 fu) (loops 0 body_a3) := lp_nil (loop_all 1 (by kernel_rfl) fun i hi => match i, hi with
  | 0, _ => by
    have h : (loops 0 body_a3).getD 0 (0, .skip) = (0, lc_a3_0) := by kernel_rfl
    rw [h]; exact lpok_a3_0 fu
  | i + 1, hi => absurd hi (by omega)) (by kernel_rfl)
def S_a3 (fu : Nat) (xs : List (D RT den)) (ins : List (Ob RT den)) : Option (OutX RT den) := match xs, ins with | [.rs za0_0 .i64 na0_0 fa0_0], [] => some ⟨(Sl Int), F_laws_toInt64S_H fu (⟨za0_0, na0_0, fa0_0⟩ : (Sl Int)), enc_sl_i64_H⟩ | _, _ => none
theorem goodv_a3 (fu : Nat) (a_0 : (Sl Int)) (y : (Sl Int)) (hy : F_laws_toInt64S_H fu a_0 = some y) : GoodX E Try.prog 30 [(.rs a_0.z .i64 a_0.n a_0.f)] [] (enc_sl_i64_H y).1 (enc_sl_i64_H y).2 :=
  funX_good (ke := false) E_ok (pc_good (pc := pc_a3 fu) hpc0 hpx0) (fn := Try.f30) (c := body_a3) (out := out_sl_i64_H) (y := y) (by kernel_rfl) (by kernel_rfl) (by kernel_rfl) (lpok_a3 fu) (by kernel_rfl) (Nat.zero_le _) (fun d os hd => out_sl_i64_H_enc d os _ hd) ((ev_a3 fu a_0).trans hy)
theorem good_a3 (fu : Nat) : ∀ xs ins o, S_a3 fu xs ins = some o → ∀ y, o.x = some y → GoodX E Try.prog 30 xs ins (o.g y).1 (o.g y).2 := by
  intro xs ins o h y hy
  unfold S_a3 at h
  split at h
  · rename_i za0_0 na0_0 fa0_0
    cases h
    exact goodv_a3 fu (⟨za0_0, na0_0, fa0_0⟩ : (Sl Int)) y hy
  · cases h

/-! laws.toNode -/
def F_laws_toNode_H (fu : Nat) (a_0 : S_laws_Node) : Option (S_impl_Node) :=
  ((F_laws_toEntryS_H fu a_0.Log).bind fun y13 => ((F_laws_toInt64S_H fu a_0.Votes).bind fun y14 => ((F_laws_toInt64S_H fu a_0.Next).bind fun y15 => ((F_laws_toInt64S_H fu a_0.Match).bind fun y16 =>
    (some (⟨a_0.Id, a_0.Peers, a_0.Term, a_0.Voted, (⟨none, y13.n, y13.f⟩ : (Sl S_impl_Entry)), a_0.Role, a_0.Commit, (⟨none, y14.n, y14.f⟩ : (Sl Int)), (⟨none, y15.n, y15.f⟩ : (Sl Int)),
    (⟨none, y16.n, y16.f⟩ : (Sl Int))⟩ : S_impl_Node))))))
def pcx_a4 (fu : Nat) (f : Nat) (xs : List (D RT den)) (ins : List (Ob RT den)) : Option (OutX RT den) := match f with | 29 => S_a2 fu xs ins | 30 => S_a3 fu xs ins | _ => none
def pcd_a4 : Nat → Bool := fun _ => false
def pc_a4 (fu : Nat) : Pc RT den := ⟨pcf0, fun f => match f with | 29 => true | 30 => true | _ => false, fun _ => false, pcd_a4, pcd0, pcx_a4 fu⟩
def msk_a4 (b : Nat) : List Nat := []
def lp_a4 (fu : Nat) : Lp RT den (S_impl_Node) := ⟨fun b s k => none, inl0⟩
theorem ev_a4 (fu : Nat) (a_0 : S_laws_Node) : evFunX E false (pc_a4 fu) msk_a4 (lp_a4 fu) out_impl_Node_H 8 [(.agg [(.int .i64 a_0.Id), (.int .i64 a_0.Peers), (.int .i64 a_0.Term), (.int .i64 a_0.Voted), (.rs a_0.Log.z .laws_Entry a_0.Log.n a_0.Log.f), (.int .i64 a_0.Role), (.int .i64 a_0.Commit), (.rs a_0.Votes.z .i64 a_0.Votes.n a_0.Votes.f), (.rs a_0.Next.z .i64 a_0.Next.n a_0.Next.f), (.rs a_0.Match.z .i64 a_0.Match.n a_0.Match.f)])] [] = F_laws_toNode_H fu a_0 := by kernel_rfl
noncomputable def body_a4 : Code := Try.f8.body.getD .skip
theorem lpok_a4 (fu : Nat) : LpOk E (pc_a4 fu) 0 msk_a4 (lp_a4 fu) (loops 0 body_a4) := lp_nil (loop_nil (by kernel_rfl)) (by kernel_rfl)
def S_a4 (fu : Nat) (xs : List (D RT den)) (ins : List (Ob RT den)) : Option (OutX RT den) := match xs, ins with | [.agg [.int .i64 a0_1, .int .i64 a0_2, .int .i64 a0_3, .int .i64 a0_4, .rs za0_5 .laws_Entry na0_5 fa0_5, .int .i64 a0_6, .int .i64 a0_7, .rs za0_8 .i64 na0_8 fa0_8, .rs za0_9 .i64 na0_9 fa0_9, .rs za0_10 .i64 na0_10 fa0_10]], [] => some ⟨S_impl_Node, F_laws_toNode_H fu (⟨a0_1, a0_2, a0_3, a0_4, (⟨za0_5, na0_5, fa0_5⟩ : (Sl S_laws_Entry)), a0_6, a0_7, (⟨za0_8, na0_8, fa0_8⟩ : (Sl Int)), (⟨za0_9, na0_9, fa0_9⟩ : (Sl Int)), (⟨za0_10, na0_10, fa0_10⟩ : (Sl Int))⟩ : S_laws_Node), enc_impl_Node_H⟩ | _, _ => none
theorem hpx_a4 (fu : Nat) : ∀ f xs ins o, pcx_a4 fu f xs ins = some o → ∀ y, o.x = some y → GoodXD E Try.prog (pcd_a4 f) f xs ins (o.g y).1 (o.g y).2 := by
  intro f xs ins o h
  unfold pcx_a4 at h
  split at h
  · exact good_a2 fu xs ins o h
  · exact good_a3 fu xs ins o h
  · cases h
theorem goodv_a4 (fu : Nat) (a_0 : S_laws_Node) (y : S_impl_Node) (hy : F_laws_toNode_H fu a_0 = some y) : GoodX E Try.prog 8 [(.agg [(.int .i64 a_0.Id), (.int .i64 a_0.Peers), (.int .i64 a_0.Term), (.int .i64 a_0.Voted), (.rs a_0.Log.z .laws_Entry a_0.Log.n a_0.Log.f), (.int .i64 a_0.Role), (.int .i64 a_0.Commit), (.rs a_0.Votes.z .i64 a_0.Votes.n a_0.Votes.f), (.rs a_0.Next.z .i64 a_0.Next.n a_0.Next.f), (.rs a_0.Match.z .i64 a_0.Match.n a_0.Match.f)])] [] (enc_impl_Node_H y).1 (enc_impl_Node_H y).2 :=
  funX_good (ke := false) E_ok (pc_good (pc := pc_a4 fu) hpc0 (hpx_a4 fu)) (fn := Try.f8) (c := body_a4) (out := out_impl_Node_H) (y := y) (by kernel_rfl) (by kernel_rfl) (by kernel_rfl) (lpok_a4 fu) (by kernel_rfl) (Nat.zero_le _) (fun d os hd => out_impl_Node_H_enc d os _ hd) ((ev_a4 fu a_0).trans hy)
theorem good_a4 (fu : Nat) : ∀ xs ins o, S_a4 fu xs ins = some o → ∀ y, o.x = some y → GoodX E Try.prog 8 xs ins (o.g y).1 (o.g y).2 := by
  intro xs ins o h y hy
  unfold S_a4 at h
  split at h
  · rename_i a0_1 a0_2 a0_3 a0_4 za0_5 na0_5 fa0_5 a0_6 a0_7 za0_8 na0_8 fa0_8 za0_9 na0_9 fa0_9 za0_10 na0_10 fa0_10
    cases h
    exact goodv_a4 fu (⟨a0_1, a0_2, a0_3, a0_4, (⟨za0_5, na0_5, fa0_5⟩ : (Sl S_laws_Entry)), a0_6, a0_7, (⟨za0_8, na0_8, fa0_8⟩ : (Sl Int)), (⟨za0_9, na0_9, fa0_9⟩ : (Sl Int)), (⟨za0_10, na0_10, fa0_10⟩ : (Sl Int))⟩ : S_laws_Node) y hy
  · cases h

/-! spec.l1In -/
def F_spec_l1In (fu : Nat) (v_0 : Int) (low_1 : Int) (high_2 : Int) : Option (Bool) :=
  (((bif (decide (v_0 ≥ low_1)) then (some (decide (v_0 ≤ high_2))) else (some false)) : Option Bool).bind fun m32 => (some m32))
def pc_a5 (fu : Nat) : Pc RT den := ⟨pcf0, fun _ => false, fun _ => false, pcd0, pcd0, pcx0⟩
def msk_a5 (b : Nat) : List Nat := match b with | 200001 => [6] | _ => []
def lp_a5 (fu : Nat) : Lp RT den (Bool) := ⟨fun b s k => none, inl0⟩
theorem ev_a5 (fu : Nat) (v_0 : Int) (low_1 : Int) (high_2 : Int) : evFun E (pc_a5 fu) msk_a5 (lp_a5 fu) out_bo 69 [(.int .i64 v_0), (.int .i64 low_1), (.int .i64 high_2)] = F_spec_l1In fu v_0 low_1 high_2 := by kernel_rfl
noncomputable def body_a5 : Code := Try.f69.body.getD .skip
theorem lpok_a5 (fu : Nat) : LpOk E (pc_a5 fu) 0 msk_a5 (lp_a5 fu) (loops 0 body_a5) := lp_nil (loop_nil (by kernel_rfl)) (by kernel_rfl)
def S_a5 (fu : Nat) (xs : List (D RT den)) : Option (Out RT den) := match xs with | [.int .i64 a0_0, .int .i64 a1_0, .int .i64 a2_0] => some ⟨Bool, F_spec_l1In fu a0_0 a1_0 a2_0, enc_bo, fun _ => true⟩ | _ => none
theorem goodv_a5 (fu : Nat) (v_0 : Int) (low_1 : Int) (high_2 : Int) (y : Bool) (hy : F_spec_l1In fu v_0 low_1 high_2 = some y) : Good E Try.prog 69 [(.int .i64 v_0), (.int .i64 low_1), (.int .i64 high_2)] (enc_bo y) :=
  fun_good E_ok (pc_good (pc := pc_a5 fu) hpc0 hpx0) (fn := Try.f69) (c := body_a5) (out := out_bo) (y := y) (by kernel_rfl) (by kernel_rfl) (by kernel_rfl) (lpok_a5 fu) (fun d hd => out_bo_enc d _ hd) ((ev_a5 fu v_0 low_1 high_2).trans hy)
theorem good_a5 (fu : Nat) : ∀ xs o, S_a5 fu xs = some o → ∀ y, o.x = some y → Good E Try.prog 69 xs (o.g y) := by
  intro xs o h y hy
  unfold S_a5 at h
  split at h
  · rename_i a0_0 a1_0 a2_0
    cases h
    exact goodv_a5 fu a0_0 a1_0 a2_0 y hy
  · cases h

/-! spec.l8Id -/
def F_spec_l8Id (fu : Nat) (n_0 : S_impl_Node) (id_1 : Int) : Option (Bool) :=
  ((F_spec_l1In fu id_1 0 (IntKind.wrap .i64 (n_0.Peers - 1))).bind fun y33 => (some y33))
def pcf_a6 (fu : Nat) (f : Nat) (xs : List (D RT den)) : Option (Out RT den) := match f with | 69 => S_a5 fu xs | _ => none
def pc_a6 (fu : Nat) : Pc RT den := ⟨pcf_a6 fu, fun _ => false, fun _ => false, pcd0, pcd0, pcx0⟩
def msk_a6 (b : Nat) : List Nat := []
def lp_a6 (fu : Nat) : Lp RT den (Bool) := ⟨fun b s k => none, inl0⟩
theorem ev_a6 (fu : Nat) (n_0 : S_impl_Node) (id_1 : Int) : evFun E (pc_a6 fu) msk_a6 (lp_a6 fu) out_bo 70 [(.rptr [(.int .i64 n_0.Id), (.int .i64 n_0.Peers), (.int .i64 n_0.Term), (.int .i64 n_0.Voted), (.rs n_0.Log.z .impl_Entry n_0.Log.n n_0.Log.f), (.int .i64 n_0.Role), (.int .i64 n_0.Commit), (.rs n_0.Votes.z .i64 n_0.Votes.n n_0.Votes.f), (.rs n_0.Next.z .i64 n_0.Next.n n_0.Next.f), (.rs n_0.Match.z .i64 n_0.Match.n n_0.Match.f)]), (.int .i64 id_1)] = F_spec_l8Id fu n_0 id_1 := by kernel_rfl
noncomputable def body_a6 : Code := Try.f70.body.getD .skip
theorem lpok_a6 (fu : Nat) : LpOk E (pc_a6 fu) 0 msk_a6 (lp_a6 fu) (loops 0 body_a6) := lp_nil (loop_nil (by kernel_rfl)) (by kernel_rfl)
def S_a6 (fu : Nat) (xs : List (D RT den)) : Option (Out RT den) := match xs with | [.rptr (.int .i64 a0_1 :: .int .i64 a0_2 :: .int .i64 a0_3 :: .int .i64 a0_4 :: .rs za0_5 .impl_Entry na0_5 fa0_5 :: .int .i64 a0_6 :: .int .i64 a0_7 :: .rs za0_8 .i64 na0_8 fa0_8 :: .rs za0_9 .i64 na0_9 fa0_9 :: .rs za0_10 .i64 na0_10 fa0_10 :: ra0), .int .i64 a1_0] => some ⟨Bool, F_spec_l8Id fu (⟨a0_1, a0_2, a0_3, a0_4, (⟨za0_5, na0_5, fa0_5⟩ : (Sl S_impl_Entry)), a0_6, a0_7, (⟨za0_8, na0_8, fa0_8⟩ : (Sl Int)), (⟨za0_9, na0_9, fa0_9⟩ : (Sl Int)), (⟨za0_10, na0_10, fa0_10⟩ : (Sl Int))⟩ : S_impl_Node) a1_0, enc_bo, fun _ => true⟩ | _ => none
theorem hpc_a6 (fu : Nat) : ∀ f xs o, pcf_a6 fu f xs = some o → ∀ y, o.x = some y → Good E Try.prog f xs (o.g y) := by
  intro f xs o h
  unfold pcf_a6 at h
  split at h
  · exact good_a5 fu xs o h
  · cases h
theorem goodv_a6 (fu : Nat) (n_0 : S_impl_Node) (id_1 : Int) (y : Bool) (hy : F_spec_l8Id fu n_0 id_1 = some y) : Good E Try.prog 70 [(.rptr [(.int .i64 n_0.Id), (.int .i64 n_0.Peers), (.int .i64 n_0.Term), (.int .i64 n_0.Voted), (.rs n_0.Log.z .impl_Entry n_0.Log.n n_0.Log.f), (.int .i64 n_0.Role), (.int .i64 n_0.Commit), (.rs n_0.Votes.z .i64 n_0.Votes.n n_0.Votes.f), (.rs n_0.Next.z .i64 n_0.Next.n n_0.Next.f), (.rs n_0.Match.z .i64 n_0.Match.n n_0.Match.f)]), (.int .i64 id_1)] (enc_bo y) :=
  fun_good E_ok (pc_good (pc := pc_a6 fu) (hpc_a6 fu) hpx0) (fn := Try.f70) (c := body_a6) (out := out_bo) (y := y) (by kernel_rfl) (by kernel_rfl) (by kernel_rfl) (lpok_a6 fu) (fun d hd => out_bo_enc d _ hd) ((ev_a6 fu n_0 id_1).trans hy)
theorem good_a6 (fu : Nat) : ∀ xs o, S_a6 fu xs = some o → ∀ y, o.x = some y → Good E Try.prog 70 xs (o.g y) := by
  intro xs o h y hy
  unfold S_a6 at h
  split at h
  · rename_i a0_1 a0_2 a0_3 a0_4 za0_5 na0_5 fa0_5 a0_6 a0_7 za0_8 na0_8 fa0_8 za0_9 na0_9 fa0_9 za0_10 na0_10 fa0_10 ra0 a1_0
    cases h
    exact (goodv_a6 fu (⟨a0_1, a0_2, a0_3, a0_4, (⟨za0_5, na0_5, fa0_5⟩ : (Sl S_impl_Entry)), a0_6, a0_7, (⟨za0_8, na0_8, fa0_8⟩ : (Sl Int)), (⟨za0_9, na0_9, fa0_9⟩ : (Sl Int)), (⟨za0_10, na0_10, fa0_10⟩ : (Sl Int))⟩ : S_impl_Node) a1_0 y hy).sub ⟨Sub.of_eq ra0 rfl, .refl _, trivial⟩
  · cases h

/-! spec.l5Needs -/
def F_spec_l5Needs (fu : Nat) (kind_0 : Int) : Option (Bool × Bool × Bool × Bool) :=
  ((F_spec_l1In fu kind_0 5 8).bind fun y77 => (bif (kind_0 != 5) then (bif (kind_0 == 1) then (some ((kind_0 != 6), true, (kind_0 != 4), y77)) else (some ((kind_0 != 6), y77,
    (kind_0 != 4), y77))) else (bif (kind_0 == 1) then (some (false, true, (kind_0 != 4), y77)) else (some (false, y77, (kind_0 != 4), y77)))))
def pcf_a7 (fu : Nat) (f : Nat) (xs : List (D RT den)) : Option (Out RT den) := match f with | 69 => S_a5 fu xs | _ => none
def pc_a7 (fu : Nat) : Pc RT den := ⟨pcf_a7 fu, fun _ => false, fun _ => false, pcd0, pcd0, pcx0⟩
def msk_a7 (b : Nat) : List Nat := []
def lp_a7 (fu : Nat) : Lp RT den (Bool × Bool × Bool × Bool) := ⟨fun b s k => none, inl0⟩
theorem ev_a7 (fu : Nat) (kind_0 : Int) : evFun E (pc_a7 fu) msk_a7 (lp_a7 fu) out_bo_bo_bo_bo 95 [(.int .i64 kind_0)] = F_spec_l5Needs fu kind_0 := by kernel_rfl
noncomputable def body_a7 : Code := Try.f95.body.getD .skip
theorem lpok_a7 (fu : Nat) : LpOk E (pc_a7 fu) 0 msk_a7 (lp_a7 fu) (loops 0 body_a7) := lp_nil (loop_nil (by kernel_rfl)) (by kernel_rfl)
def S_a7 (fu : Nat) (xs : List (D RT den)) : Option (Out RT den) := match xs with | [.int .i64 a0_0] => some ⟨Bool × Bool × Bool × Bool, F_spec_l5Needs fu a0_0, enc_bo_bo_bo_bo, fun _ => true⟩ | _ => none
theorem hpc_a7 (fu : Nat) : ∀ f xs o, pcf_a7 fu f xs = some o → ∀ y, o.x = some y → Good E Try.prog f xs (o.g y) := by
  intro f xs o h
  unfold pcf_a7 at h
  split at h
  · exact good_a5 fu xs o h
  · cases h
theorem goodv_a7 (fu : Nat) (kind_0 : Int) (y : Bool × Bool × Bool × Bool) (hy : F_spec_l5Needs fu kind_0 = some y) : Good E Try.prog 95 [(.int .i64 kind_0)] (enc_bo_bo_bo_bo y) :=
  fun_good E_ok (pc_good (pc := pc_a7 fu) (hpc_a7 fu) hpx0) (fn := Try.f95) (c := body_a7) (out := out_bo_bo_bo_bo) (y := y) (by kernel_rfl) (by kernel_rfl) (by kernel_rfl) (lpok_a7 fu) (fun d hd => out_bo_bo_bo_bo_enc d _ hd) ((ev_a7 fu kind_0).trans hy)
theorem good_a7 (fu : Nat) : ∀ xs o, S_a7 fu xs = some o → ∀ y, o.x = some y → Good E Try.prog 95 xs (o.g y) := by
  intro xs o h y hy
  unfold S_a7 at h
  split at h
  · rename_i a0_0
    cases h
    exact goodv_a7 fu a0_0 y hy
  · cases h

/-! spec.l5Version -/
def F_spec_l5Version (fu : Nat) (v_0 : Int) : Option (Bool) :=
  ((F_spec_l1In fu v_0 0 1000000).bind fun y78 => (some y78))
def pcf_a8 (fu : Nat) (f : Nat) (xs : List (D RT den)) : Option (Out RT den) := match f with | 69 => S_a5 fu xs | _ => none
def pc_a8 (fu : Nat) : Pc RT den := ⟨pcf_a8 fu, fun _ => false, fun _ => false, pcd0, pcd0, pcx0⟩
def msk_a8 (b : Nat) : List Nat := []
def lp_a8 (fu : Nat) : Lp RT den (Bool) := ⟨fun b s k => none, inl0⟩
theorem ev_a8 (fu : Nat) (v_0 : Int) : evFun E (pc_a8 fu) msk_a8 (lp_a8 fu) out_bo 101 [(.int .i64 v_0)] = F_spec_l5Version fu v_0 := by kernel_rfl
noncomputable def body_a8 : Code := Try.f101.body.getD .skip
theorem lpok_a8 (fu : Nat) : LpOk E (pc_a8 fu) 0 msk_a8 (lp_a8 fu) (loops 0 body_a8) := lp_nil (loop_nil (by kernel_rfl)) (by kernel_rfl)
def S_a8 (fu : Nat) (xs : List (D RT den)) : Option (Out RT den) := match xs with | [.int .i64 a0_0] => some ⟨Bool, F_spec_l5Version fu a0_0, enc_bo, fun _ => true⟩ | _ => none
theorem hpc_a8 (fu : Nat) : ∀ f xs o, pcf_a8 fu f xs = some o → ∀ y, o.x = some y → Good E Try.prog f xs (o.g y) := by
  intro f xs o h
  unfold pcf_a8 at h
  split at h
  · exact good_a5 fu xs o h
  · cases h
theorem goodv_a8 (fu : Nat) (v_0 : Int) (y : Bool) (hy : F_spec_l5Version fu v_0 = some y) : Good E Try.prog 101 [(.int .i64 v_0)] (enc_bo y) :=
  fun_good E_ok (pc_good (pc := pc_a8 fu) (hpc_a8 fu) hpx0) (fn := Try.f101) (c := body_a8) (out := out_bo) (y := y) (by kernel_rfl) (by kernel_rfl) (by kernel_rfl) (lpok_a8 fu) (fun d hd => out_bo_enc d _ hd) ((ev_a8 fu v_0).trans hy)
theorem good_a8 (fu : Nat) : ∀ xs o, S_a8 fu xs = some o → ∀ y, o.x = some y → Good E Try.prog 101 xs (o.g y) := by
  intro xs o h y hy
  unfold S_a8 at h
  split at h
  · rename_i a0_0
    cases h
    exact goodv_a8 fu a0_0 y hy
  · cases h

/-! spec.l3Name -/
def F_spec_l3Name (fu : Nat) (name_0 : Int) : Option (Bool) :=
  ((F_spec_l1In fu name_0 1 999).bind fun y79 => (some y79))
def pcf_a9 (fu : Nat) (f : Nat) (xs : List (D RT den)) : Option (Out RT den) := match f with | 69 => S_a5 fu xs | _ => none
def pc_a9 (fu : Nat) : Pc RT den := ⟨pcf_a9 fu, fun _ => false, fun _ => false, pcd0, pcd0, pcx0⟩
def msk_a9 (b : Nat) : List Nat := []
def lp_a9 (fu : Nat) : Lp RT den (Bool) := ⟨fun b s k => none, inl0⟩
theorem ev_a9 (fu : Nat) (name_0 : Int) : evFun E (pc_a9 fu) msk_a9 (lp_a9 fu) out_bo 102 [(.int .i64 name_0)] = F_spec_l3Name fu name_0 := by kernel_rfl
noncomputable def body_a9 : Code := Try.f102.body.getD .skip
theorem lpok_a9 (fu : Nat) : LpOk E (pc_a9 fu) 0 msk_a9 (lp_a9 fu) (loops 0 body_a9) := lp_nil (loop_nil (by kernel_rfl)) (by kernel_rfl)
def S_a9 (fu : Nat) (xs : List (D RT den)) : Option (Out RT den) := match xs with | [.int .i64 a0_0] => some ⟨Bool, F_spec_l3Name fu a0_0, enc_bo, fun _ => true⟩ | _ => none
theorem hpc_a9 (fu : Nat) : ∀ f xs o, pcf_a9 fu f xs = some o → ∀ y, o.x = some y → Good E Try.prog f xs (o.g y) := by
  intro f xs o h
  unfold pcf_a9 at h
  split at h
  · exact good_a5 fu xs o h
  · cases h
theorem goodv_a9 (fu : Nat) (name_0 : Int) (y : Bool) (hy : F_spec_l3Name fu name_0 = some y) : Good E Try.prog 102 [(.int .i64 name_0)] (enc_bo y) :=
  fun_good E_ok (pc_good (pc := pc_a9 fu) (hpc_a9 fu) hpx0) (fn := Try.f102) (c := body_a9) (out := out_bo) (y := y) (by kernel_rfl) (by kernel_rfl) (by kernel_rfl) (lpok_a9 fu) (fun d hd => out_bo_enc d _ hd) ((ev_a9 fu name_0).trans hy)
theorem good_a9 (fu : Nat) : ∀ xs o, S_a9 fu xs = some o → ∀ y, o.x = some y → Good E Try.prog 102 xs (o.g y) := by
  intro xs o h y hy
  unfold S_a9 at h
  split at h
  · rename_i a0_0
    cases h
    exact goodv_a9 fu a0_0 y hy
  · cases h

/-! spec.l2Address -/
def F_spec_l2Address (fu : Nat) (a_0 : Int) : Option (Bool) :=
  ((F_spec_l1In fu a_0 0 4294967295).bind fun y80 => (some y80))
def pcf_a10 (fu : Nat) (f : Nat) (xs : List (D RT den)) : Option (Out RT den) := match f with | 69 => S_a5 fu xs | _ => none
def pc_a10 (fu : Nat) : Pc RT den := ⟨pcf_a10 fu, fun _ => false, fun _ => false, pcd0, pcd0, pcx0⟩
def msk_a10 (b : Nat) : List Nat := []
def lp_a10 (fu : Nat) : Lp RT den (Bool) := ⟨fun b s k => none, inl0⟩
theorem ev_a10 (fu : Nat) (a_0 : Int) : evFun E (pc_a10 fu) msk_a10 (lp_a10 fu) out_bo 103 [(.int .i64 a_0)] = F_spec_l2Address fu a_0 := by kernel_rfl
noncomputable def body_a10 : Code := Try.f103.body.getD .skip
theorem lpok_a10 (fu : Nat) : LpOk E (pc_a10 fu) 0 msk_a10 (lp_a10 fu) (loops 0 body_a10) := lp_nil (loop_nil (by kernel_rfl)) (by kernel_rfl)
def S_a10 (fu : Nat) (xs : List (D RT den)) : Option (Out RT den) := match xs with | [.int .i64 a0_0] => some ⟨Bool, F_spec_l2Address fu a0_0, enc_bo, fun _ => true⟩ | _ => none
theorem hpc_a10 (fu : Nat) : ∀ f xs o, pcf_a10 fu f xs = some o → ∀ y, o.x = some y → Good E Try.prog f xs (o.g y) := by
  intro f xs o h
  unfold pcf_a10 at h
  split at h
  · exact good_a5 fu xs o h
  · cases h
theorem goodv_a10 (fu : Nat) (a_0 : Int) (y : Bool) (hy : F_spec_l2Address fu a_0 = some y) : Good E Try.prog 103 [(.int .i64 a_0)] (enc_bo y) :=
  fun_good E_ok (pc_good (pc := pc_a10 fu) (hpc_a10 fu) hpx0) (fn := Try.f103) (c := body_a10) (out := out_bo) (y := y) (by kernel_rfl) (by kernel_rfl) (by kernel_rfl) (lpok_a10 fu) (fun d hd => out_bo_enc d _ hd) ((ev_a10 fu a_0).trans hy)
theorem good_a10 (fu : Nat) : ∀ xs o, S_a10 fu xs = some o → ∀ y, o.x = some y → Good E Try.prog 103 xs (o.g y) := by
  intro xs o h y hy
  unfold S_a10 at h
  split at h
  · rename_i a0_0
    cases h
    exact goodv_a10 fu a0_0 y hy
  · cases h

/-! spec.l2Port -/
def F_spec_l2Port (fu : Nat) (p_0 : Int) : Option (Bool) :=
  ((F_spec_l1In fu p_0 0 65535).bind fun y86 => (some y86))
def pcf_a11 (fu : Nat) (f : Nat) (xs : List (D RT den)) : Option (Out RT den) := match f with | 69 => S_a5 fu xs | _ => none
def pc_a11 (fu : Nat) : Pc RT den := ⟨pcf_a11 fu, fun _ => false, fun _ => false, pcd0, pcd0, pcx0⟩
def msk_a11 (b : Nat) : List Nat := []
def lp_a11 (fu : Nat) : Lp RT den (Bool) := ⟨fun b s k => none, inl0⟩
theorem ev_a11 (fu : Nat) (p_0 : Int) : evFun E (pc_a11 fu) msk_a11 (lp_a11 fu) out_bo 109 [(.int .i64 p_0)] = F_spec_l2Port fu p_0 := by kernel_rfl
noncomputable def body_a11 : Code := Try.f109.body.getD .skip
theorem lpok_a11 (fu : Nat) : LpOk E (pc_a11 fu) 0 msk_a11 (lp_a11 fu) (loops 0 body_a11) := lp_nil (loop_nil (by kernel_rfl)) (by kernel_rfl)
def S_a11 (fu : Nat) (xs : List (D RT den)) : Option (Out RT den) := match xs with | [.int .i64 a0_0] => some ⟨Bool, F_spec_l2Port fu a0_0, enc_bo, fun _ => true⟩ | _ => none
theorem hpc_a11 (fu : Nat) : ∀ f xs o, pcf_a11 fu f xs = some o → ∀ y, o.x = some y → Good E Try.prog f xs (o.g y) := by
  intro f xs o h
  unfold pcf_a11 at h
  split at h
  · exact good_a5 fu xs o h
  · cases h
theorem goodv_a11 (fu : Nat) (p_0 : Int) (y : Bool) (hy : F_spec_l2Port fu p_0 = some y) : Good E Try.prog 109 [(.int .i64 p_0)] (enc_bo y) :=
  fun_good E_ok (pc_good (pc := pc_a11 fu) (hpc_a11 fu) hpx0) (fn := Try.f109) (c := body_a11) (out := out_bo) (y := y) (by kernel_rfl) (by kernel_rfl) (by kernel_rfl) (lpok_a11 fu) (fun d hd => out_bo_enc d _ hd) ((ev_a11 fu p_0).trans hy)
theorem good_a11 (fu : Nat) : ∀ xs o, S_a11 fu xs = some o → ∀ y, o.x = some y → Good E Try.prog 109 xs (o.g y) := by
  intro xs o h y hy
  unfold S_a11 at h
  split at h
  · rename_i a0_0
    cases h
    exact goodv_a11 fu a0_0 y hy
  · cases h

/-! spec.l5Number -/
def F_spec_l5Number (fu : Nat) (x_0 : S_impl_Cmd) : Option (Bool) :=
  (bif (x_0.Kind == 1) then ((F_spec_l1In fu x_0.Number 0 9).bind fun y81 => (some y81)) else (bif (x_0.Kind == 2) then ((F_spec_l1In fu x_0.Number 0 9).bind fun y82 => (some y82)) else
    (bif (x_0.Kind == 3) then ((F_spec_l1In fu x_0.Number 1 3).bind fun y83 => (some y83)) else (bif (x_0.Kind == 9) then ((F_spec_l1In fu x_0.Number 0 1).bind fun y84 => (some y84)) else
    ((F_spec_l2Port fu x_0.Number).bind fun y85 => (some y85))))))
def pcf_a12 (fu : Nat) (f : Nat) (xs : List (D RT den)) : Option (Out RT den) := match f with | 69 => S_a5 fu xs | 109 => S_a11 fu xs | _ => none
def pc_a12 (fu : Nat) : Pc RT den := ⟨pcf_a12 fu, fun _ => false, fun _ => false, pcd0, pcd0, pcx0⟩
def msk_a12 (b : Nat) : List Nat := []
def lp_a12 (fu : Nat) : Lp RT den (Bool) := ⟨fun b s k => none, inl0⟩
theorem ev_a12 (fu : Nat) (x_0 : S_impl_Cmd) : evFun E (pc_a12 fu) msk_a12 (lp_a12 fu) out_bo 104 [(.agg [(.int .i64 x_0.Kind), (.int .i64 x_0.Expect), (.int .i64 x_0.Name), (.int .i64 x_0.Addr), (.int .i64 x_0.Number), (.int .i64 x_0.Proto)])] = F_spec_l5Number fu x_0 := by kernel_rfl
noncomputable def body_a12 : Code := Try.f104.body.getD .skip
theorem lpok_a12 (fu : Nat) : LpOk E (pc_a12 fu) 0 msk_a12 (lp_a12 fu) (loops 0 body_a12) := lp_nil (loop_nil (by kernel_rfl)) (by kernel_rfl)
def S_a12 (fu : Nat) (xs : List (D RT den)) : Option (Out RT den) := match xs with | [.agg [.int .i64 a0_1, .int .i64 a0_2, .int .i64 a0_3, .int .i64 a0_4, .int .i64 a0_5, .int .i64 a0_6]] => some ⟨Bool, F_spec_l5Number fu (⟨a0_1, a0_2, a0_3, a0_4, a0_5, a0_6⟩ : S_impl_Cmd), enc_bo, fun _ => true⟩ | _ => none
theorem hpc_a12 (fu : Nat) : ∀ f xs o, pcf_a12 fu f xs = some o → ∀ y, o.x = some y → Good E Try.prog f xs (o.g y) := by
  intro f xs o h
  unfold pcf_a12 at h
  split at h
  · exact good_a5 fu xs o h
  · exact good_a11 fu xs o h
  · cases h
theorem goodv_a12 (fu : Nat) (x_0 : S_impl_Cmd) (y : Bool) (hy : F_spec_l5Number fu x_0 = some y) : Good E Try.prog 104 [(.agg [(.int .i64 x_0.Kind), (.int .i64 x_0.Expect), (.int .i64 x_0.Name), (.int .i64 x_0.Addr), (.int .i64 x_0.Number), (.int .i64 x_0.Proto)])] (enc_bo y) :=
  fun_good E_ok (pc_good (pc := pc_a12 fu) (hpc_a12 fu) hpx0) (fn := Try.f104) (c := body_a12) (out := out_bo) (y := y) (by kernel_rfl) (by kernel_rfl) (by kernel_rfl) (lpok_a12 fu) (fun d hd => out_bo_enc d _ hd) ((ev_a12 fu x_0).trans hy)
theorem good_a12 (fu : Nat) : ∀ xs o, S_a12 fu xs = some o → ∀ y, o.x = some y → Good E Try.prog 104 xs (o.g y) := by
  intro xs o h y hy
  unfold S_a12 at h
  split at h
  · rename_i a0_1 a0_2 a0_3 a0_4 a0_5 a0_6
    cases h
    exact goodv_a12 fu (⟨a0_1, a0_2, a0_3, a0_4, a0_5, a0_6⟩ : S_impl_Cmd) y hy
  · cases h

/-! spec.l5Proto -/
def F_spec_l5Proto (fu : Nat) (p_0 : Int) : Option (Bool) :=
  (((bif (p_0 == 6) then (some true) else (some (p_0 == 17))) : Option Bool).bind fun m87 => (some m87))
def pc_a13 (fu : Nat) : Pc RT den := ⟨pcf0, fun _ => false, fun _ => false, pcd0, pcd0, pcx0⟩
def msk_a13 (b : Nat) : List Nat := match b with | 200001 => [2] | _ => []
def lp_a13 (fu : Nat) : Lp RT den (Bool) := ⟨fun b s k => none, inl0⟩
theorem ev_a13 (fu : Nat) (p_0 : Int) : evFun E (pc_a13 fu) msk_a13 (lp_a13 fu) out_bo 105 [(.int .i64 p_0)] = F_spec_l5Proto fu p_0 := by kernel_rfl
noncomputable def body_a13 : Code := Try.f105.body.getD .skip
theorem lpok_a13 (fu : Nat) : LpOk E (pc_a13 fu) 0 msk_a13 (lp_a13 fu) (loops 0 body_a13) := lp_nil (loop_nil (by kernel_rfl)) (by kernel_rfl)
def S_a13 (fu : Nat) (xs : List (D RT den)) : Option (Out RT den) := match xs with | [.int .i64 a0_0] => some ⟨Bool, F_spec_l5Proto fu a0_0, enc_bo, fun _ => true⟩ | _ => none
theorem goodv_a13 (fu : Nat) (p_0 : Int) (y : Bool) (hy : F_spec_l5Proto fu p_0 = some y) : Good E Try.prog 105 [(.int .i64 p_0)] (enc_bo y) :=
  fun_good E_ok (pc_good (pc := pc_a13 fu) hpc0 hpx0) (fn := Try.f105) (c := body_a13) (out := out_bo) (y := y) (by kernel_rfl) (by kernel_rfl) (by kernel_rfl) (lpok_a13 fu) (fun d hd => out_bo_enc d _ hd) ((ev_a13 fu p_0).trans hy)
theorem good_a13 (fu : Nat) : ∀ xs o, S_a13 fu xs = some o → ∀ y, o.x = some y → Good E Try.prog 105 xs (o.g y) := by
  intro xs o h y hy
  unfold S_a13 at h
  split at h
  · rename_i a0_0
    cases h
    exact goodv_a13 fu a0_0 y hy
  · cases h

/-! spec.CmdFault -/
def F_spec_CmdFault (fu : Nat) (x_0 : S_impl_Cmd) : Option (Int) :=
  ((F_spec_l1In fu x_0.Kind 1 9).bind fun y42 => (bif (!y42) then (some 1) else ((F_spec_l5Needs fu x_0.Kind).bind fun y43 => (((bif (x_0.Expect != (-1)) then ((F_spec_l5Version fu x_0.Expect).bind fun y44 =>
    (bif (!y44) then (some true) else (bif y43.1 then ((F_spec_l3Name fu x_0.Name).bind fun y45 => (bif (!y45) then (some true) else (bif y43.2.1 then ((F_spec_l2Address fu x_0.Addr).bind fun y46 =>
    (bif (!y46) then (some true) else (bif y43.2.2.1 then ((F_spec_l5Number fu x_0).bind fun y47 => (bif (!y47) then (some true) else (bif y43.2.2.2 then ((F_spec_l5Proto fu x_0.Proto).bind fun y48 =>
    (some (!y48))) else (some false)))) else (bif y43.2.2.2 then ((F_spec_l5Proto fu x_0.Proto).bind fun y49 => (some (!y49))) else (some false))))) else (bif y43.2.2.1 then
    ((F_spec_l5Number fu x_0).bind fun y50 => (bif (!y50) then (some true) else (bif y43.2.2.2 then ((F_spec_l5Proto fu x_0.Proto).bind fun y51 => (some (!y51))) else (some false)))) else
    (bif y43.2.2.2 then ((F_spec_l5Proto fu x_0.Proto).bind fun y52 => (some (!y52))) else (some false)))))) else (bif y43.2.1 then ((F_spec_l2Address fu x_0.Addr).bind fun y53 =>
    (bif (!y53) then (some true) else (bif y43.2.2.1 then ((F_spec_l5Number fu x_0).bind fun y54 => (bif (!y54) then (some true) else (bif y43.2.2.2 then ((F_spec_l5Proto fu x_0.Proto).bind fun y55 =>
    (some (!y55))) else (some false)))) else (bif y43.2.2.2 then ((F_spec_l5Proto fu x_0.Proto).bind fun y56 => (some (!y56))) else (some false))))) else (bif y43.2.2.1 then
    ((F_spec_l5Number fu x_0).bind fun y57 => (bif (!y57) then (some true) else (bif y43.2.2.2 then ((F_spec_l5Proto fu x_0.Proto).bind fun y58 => (some (!y58))) else (some false)))) else
    (bif y43.2.2.2 then ((F_spec_l5Proto fu x_0.Proto).bind fun y59 => (some (!y59))) else (some false))))))) else (bif y43.1 then ((F_spec_l3Name fu x_0.Name).bind fun y60 => (bif (!y60) then
    (some true) else (bif y43.2.1 then ((F_spec_l2Address fu x_0.Addr).bind fun y61 => (bif (!y61) then (some true) else (bif y43.2.2.1 then ((F_spec_l5Number fu x_0).bind fun y62 =>
    (bif (!y62) then (some true) else (bif y43.2.2.2 then ((F_spec_l5Proto fu x_0.Proto).bind fun y63 => (some (!y63))) else (some false)))) else (bif y43.2.2.2 then
    ((F_spec_l5Proto fu x_0.Proto).bind fun y64 => (some (!y64))) else (some false))))) else (bif y43.2.2.1 then ((F_spec_l5Number fu x_0).bind fun y65 => (bif (!y65) then (some true) else
    (bif y43.2.2.2 then ((F_spec_l5Proto fu x_0.Proto).bind fun y66 => (some (!y66))) else (some false)))) else (bif y43.2.2.2 then ((F_spec_l5Proto fu x_0.Proto).bind fun y67 =>
    (some (!y67))) else (some false)))))) else (bif y43.2.1 then ((F_spec_l2Address fu x_0.Addr).bind fun y68 => (bif (!y68) then (some true) else (bif y43.2.2.1 then
    ((F_spec_l5Number fu x_0).bind fun y69 => (bif (!y69) then (some true) else (bif y43.2.2.2 then ((F_spec_l5Proto fu x_0.Proto).bind fun y70 => (some (!y70))) else (some false)))) else
    (bif y43.2.2.2 then ((F_spec_l5Proto fu x_0.Proto).bind fun y71 => (some (!y71))) else (some false))))) else (bif y43.2.2.1 then ((F_spec_l5Number fu x_0).bind fun y72 => (bif (!y72) then
    (some true) else (bif y43.2.2.2 then ((F_spec_l5Proto fu x_0.Proto).bind fun y73 => (some (!y73))) else (some false)))) else (bif y43.2.2.2 then ((F_spec_l5Proto fu x_0.Proto).bind fun y74 =>
    (some (!y74))) else (some false)))))) : Option Bool).bind fun m75 => (bif m75 then (some 3) else (((bif (!y43.1) then (bif (x_0.Name != 0) then (some true) else (bif (!y43.2.1) then
    (bif (x_0.Addr != 0) then (some true) else (bif (!y43.2.2.1) then (bif (x_0.Number != 0) then (some true) else (bif (!y43.2.2.2) then (some (x_0.Proto != 0)) else (some false))) else
    (bif (!y43.2.2.2) then (some (x_0.Proto != 0)) else (some false)))) else (bif (!y43.2.2.1) then (bif (x_0.Number != 0) then (some true) else (bif (!y43.2.2.2) then (some (x_0.Proto != 0)) else
    (some false))) else (bif (!y43.2.2.2) then (some (x_0.Proto != 0)) else (some false))))) else (bif (!y43.2.1) then (bif (x_0.Addr != 0) then (some true) else (bif (!y43.2.2.1) then
    (bif (x_0.Number != 0) then (some true) else (bif (!y43.2.2.2) then (some (x_0.Proto != 0)) else (some false))) else (bif (!y43.2.2.2) then (some (x_0.Proto != 0)) else (some false)))) else
    (bif (!y43.2.2.1) then (bif (x_0.Number != 0) then (some true) else (bif (!y43.2.2.2) then (some (x_0.Proto != 0)) else (some false))) else (bif (!y43.2.2.2) then (some (x_0.Proto != 0)) else
    (some false))))) : Option Bool).bind fun m76 => (bif m76 then (some 1) else (some 0))))))))
def pcf_a14 (fu : Nat) (f : Nat) (xs : List (D RT den)) : Option (Out RT den) := match f with | 69 => S_a5 fu xs | 95 => S_a7 fu xs | 101 => S_a8 fu xs | 102 => S_a9 fu xs | 103 => S_a10 fu xs | 104 => S_a12 fu xs | 105 => S_a13 fu xs | _ => none
def pc_a14 (fu : Nat) : Pc RT den := ⟨pcf_a14 fu, fun _ => false, fun _ => false, pcd0, pcd0, pcx0⟩
def msk_a14 (b : Nat) : List Nat := match b with | 200004 => [62] | 200006 => [96] | _ => []
def lp_a14 (fu : Nat) : Lp RT den (Int) := ⟨fun b s k => none, inl0⟩
theorem ev_a14 (fu : Nat) (x_0 : S_impl_Cmd) : evFun E (pc_a14 fu) msk_a14 (lp_a14 fu) out_i64 89 [(.agg [(.int .i64 x_0.Kind), (.int .i64 x_0.Expect), (.int .i64 x_0.Name), (.int .i64 x_0.Addr), (.int .i64 x_0.Number), (.int .i64 x_0.Proto)])] = F_spec_CmdFault fu x_0 := by kernel_rfl
noncomputable def body_a14 : Code := Try.f89.body.getD .skip
theorem lpok_a14 (fu : Nat) : LpOk E (pc_a14 fu) 0 msk_a14 (lp_a14 fu) (loops 0 body_a14) := lp_nil (loop_nil (by kernel_rfl)) (by kernel_rfl)
def S_a14 (fu : Nat) (xs : List (D RT den)) : Option (Out RT den) := match xs with | [.agg [.int .i64 a0_1, .int .i64 a0_2, .int .i64 a0_3, .int .i64 a0_4, .int .i64 a0_5, .int .i64 a0_6]] => some ⟨Int, F_spec_CmdFault fu (⟨a0_1, a0_2, a0_3, a0_4, a0_5, a0_6⟩ : S_impl_Cmd), enc_i64, fun _ => true⟩ | _ => none
theorem hpc_a14 (fu : Nat) : ∀ f xs o, pcf_a14 fu f xs = some o → ∀ y, o.x = some y → Good E Try.prog f xs (o.g y) := by
  intro f xs o h
  unfold pcf_a14 at h
  split at h
  · exact good_a5 fu xs o h
  · exact good_a7 fu xs o h
  · exact good_a8 fu xs o h
  · exact good_a9 fu xs o h
  · exact good_a10 fu xs o h
  · exact good_a12 fu xs o h
  · exact good_a13 fu xs o h
  · cases h
theorem goodv_a14 (fu : Nat) (x_0 : S_impl_Cmd) (y : Int) (hy : F_spec_CmdFault fu x_0 = some y) : Good E Try.prog 89 [(.agg [(.int .i64 x_0.Kind), (.int .i64 x_0.Expect), (.int .i64 x_0.Name), (.int .i64 x_0.Addr), (.int .i64 x_0.Number), (.int .i64 x_0.Proto)])] (enc_i64 y) :=
  fun_good E_ok (pc_good (pc := pc_a14 fu) (hpc_a14 fu) hpx0) (fn := Try.f89) (c := body_a14) (out := out_i64) (y := y) (by kernel_rfl) (by kernel_rfl) (by kernel_rfl) (lpok_a14 fu) (fun d hd => out_i64_enc d _ hd) ((ev_a14 fu x_0).trans hy)
theorem good_a14 (fu : Nat) : ∀ xs o, S_a14 fu xs = some o → ∀ y, o.x = some y → Good E Try.prog 89 xs (o.g y) := by
  intro xs o h y hy
  unfold S_a14 at h
  split at h
  · rename_i a0_1 a0_2 a0_3 a0_4 a0_5 a0_6
    cases h
    exact goodv_a14 fu (⟨a0_1, a0_2, a0_3, a0_4, a0_5, a0_6⟩ : S_impl_Cmd) y hy
  · cases h

/-! spec.EntryFault -/
def F_spec_EntryFault (fu : Nat) (x_0 : S_impl_Entry) : Option (Int) :=
  ((((F_spec_l1In fu x_0.Term 1 100000).bind fun y37 => (bif (!y37) then (some true) else ((F_spec_l1In fu x_0.Client 0 999).bind fun y38 => (bif (!y38) then (some true) else
    ((F_spec_l1In fu x_0.Seq 0 1000000).bind fun y39 => (some (!y39))))))) : Option Bool).bind fun m40 => (bif m40 then (some 3) else (bif (!((x_0.Client == 0) == (x_0.Seq == 0))) then
    (some 1) else (bif (x_0.Client != 0) then ((F_spec_CmdFault fu x_0.Cmd).bind fun y41 => (some y41)) else (bif (!((x_0.Cmd.Kind == 0) && ((x_0.Cmd.Expect == 0) && ((x_0.Cmd.Name == 0) &&
    ((x_0.Cmd.Addr == 0) && ((x_0.Cmd.Number == 0) && ((x_0.Cmd.Proto == 0) && true))))))) then (some 1) else (some 0))))))
def pcf_a15 (fu : Nat) (f : Nat) (xs : List (D RT den)) : Option (Out RT den) := match f with | 69 => S_a5 fu xs | 89 => S_a14 fu xs | _ => none
def pc_a15 (fu : Nat) : Pc RT den := ⟨pcf_a15 fu, fun _ => false, fun _ => false, pcd0, pcd0, pcx0⟩
def msk_a15 (b : Nat) : List Nat := match b with | 200001 => [19] | _ => []
def lp_a15 (fu : Nat) : Lp RT den (Int) := ⟨fun b s k => none, inl0⟩
theorem ev_a15 (fu : Nat) (x_0 : S_impl_Entry) : evFun E (pc_a15 fu) msk_a15 (lp_a15 fu) out_i64 67 [(.agg [(.int .i64 x_0.Term), (.int .i64 x_0.Client), (.int .i64 x_0.Seq), (.int .i64 x_0.Cmd.Kind), (.int .i64 x_0.Cmd.Expect), (.int .i64 x_0.Cmd.Name), (.int .i64 x_0.Cmd.Addr), (.int .i64 x_0.Cmd.Number), (.int .i64 x_0.Cmd.Proto)])] = F_spec_EntryFault fu x_0 := by kernel_rfl
noncomputable def body_a15 : Code := Try.f67.body.getD .skip
theorem lpok_a15 (fu : Nat) : LpOk E (pc_a15 fu) 0 msk_a15 (lp_a15 fu) (loops 0 body_a15) := lp_nil (loop_nil (by kernel_rfl)) (by kernel_rfl)
def S_a15 (fu : Nat) (xs : List (D RT den)) : Option (Out RT den) := match xs with | [.agg [.int .i64 a0_1, .int .i64 a0_2, .int .i64 a0_3, .int .i64 a0_5, .int .i64 a0_6, .int .i64 a0_7, .int .i64 a0_8, .int .i64 a0_9, .int .i64 a0_10]] => some ⟨Int, F_spec_EntryFault fu (⟨a0_1, a0_2, a0_3, (⟨a0_5, a0_6, a0_7, a0_8, a0_9, a0_10⟩ : S_impl_Cmd)⟩ : S_impl_Entry), enc_i64, fun _ => true⟩ | _ => none
theorem hpc_a15 (fu : Nat) : ∀ f xs o, pcf_a15 fu f xs = some o → ∀ y, o.x = some y → Good E Try.prog f xs (o.g y) := by
  intro f xs o h
  unfold pcf_a15 at h
  split at h
  · exact good_a5 fu xs o h
  · exact good_a14 fu xs o h
  · cases h
theorem goodv_a15 (fu : Nat) (x_0 : S_impl_Entry) (y : Int) (hy : F_spec_EntryFault fu x_0 = some y) : Good E Try.prog 67 [(.agg [(.int .i64 x_0.Term), (.int .i64 x_0.Client), (.int .i64 x_0.Seq), (.int .i64 x_0.Cmd.Kind), (.int .i64 x_0.Cmd.Expect), (.int .i64 x_0.Cmd.Name), (.int .i64 x_0.Cmd.Addr), (.int .i64 x_0.Cmd.Number), (.int .i64 x_0.Cmd.Proto)])] (enc_i64 y) :=
  fun_good E_ok (pc_good (pc := pc_a15 fu) (hpc_a15 fu) hpx0) (fn := Try.f67) (c := body_a15) (out := out_i64) (y := y) (by kernel_rfl) (by kernel_rfl) (by kernel_rfl) (lpok_a15 fu) (fun d hd => out_i64_enc d _ hd) ((ev_a15 fu x_0).trans hy)
theorem good_a15 (fu : Nat) : ∀ xs o, S_a15 fu xs = some o → ∀ y, o.x = some y → Good E Try.prog 67 xs (o.g y) := by
  intro xs o h y hy
  unfold S_a15 at h
  split at h
  · rename_i a0_1 a0_2 a0_3 a0_5 a0_6 a0_7 a0_8 a0_9 a0_10
    cases h
    exact goodv_a15 fu (⟨a0_1, a0_2, a0_3, (⟨a0_5, a0_6, a0_7, a0_8, a0_9, a0_10⟩ : S_impl_Cmd)⟩ : S_impl_Entry) y hy
  · cases h

/-! spec.LogFault -/
def F_spec_LogFault_B0 {ρ : Type} (fu : Nat) (log0_0 : (Sl S_impl_Entry)) (k0 : Int → Option ρ) (k1 : Option ρ) (k2 : Option ρ) (i3_1 : Int) (go : Int → Option ρ) : Option ρ :=
  (bif (decide (i3_1 < ((log0_0.n : Nat) : Int))) then ((bif (decide (0 ≤ i3_1) && decide ((Int.toNat i3_1) < log0_0.n)) then some () else none : Option Unit).bind fun _ =>
    ((F_spec_EntryFault fu (log0_0.f (Int.toNat i3_1))).bind fun y34 => (bif (y34 != 0) then (k0 y34) else (((bif (decide (i3_1 > 0)) then ((bif (decide (0 ≤ i3_1) && decide ((Int.toNat i3_1) < log0_0.n)) then
    some () else none : Option Unit).bind fun _ => ((bif (decide (0 ≤ (IntKind.wrap .i64 (i3_1 - 1))) && decide ((Int.toNat (IntKind.wrap .i64 (i3_1 - 1))) < log0_0.n)) then some () else
    none : Option Unit).bind fun _ => (some (decide ((log0_0.f (Int.toNat i3_1)).Term < (log0_0.f (Int.toNat (IntKind.wrap .i64 (i3_1 - 1)))).Term))))) else (some false)) : Option Bool).bind fun m35 =>
    (bif m35 then k1 else (go (IntKind.wrap .i64 (i3_1 + 1)))))))) else k2)
def F_spec_LogFault (fu : Nat) (log_0 : (Sl S_impl_Entry)) : Option (Int) :=
  (bif (decide (((log_0.n : Nat) : Int) > 40)) then (some 2) else (L (fun w0 go0 => F_spec_LogFault_B0 fu log_0 (fun z36 => (some z36)) (some 1) (some 0) w0 go0) fu (0 : Int)))
def pcf_a16 (fu : Nat) (f : Nat) (xs : List (D RT den)) : Option (Out RT den) := match f with | 67 => S_a15 fu xs | _ => none
def pc_a16 (fu : Nat) : Pc RT den := ⟨pcf_a16 fu, fun _ => false, fun _ => false, pcd0, pcd0, pcx0⟩
def msk_a16 (b : Nat) : List Nat := match b with | 0 => (1 :: 2 :: (rg 4 34 [])) | 100000 => (0 :: 1 :: (rg 3 35 [])) | 200009 => [37] | _ => []
def ps_a16_0 : List (Pat RT) := (.flat (.rs .impl_Entry) :: .flat .q :: .flat .q :: .flat (.int .i64) :: (fq 34 []))
def os_a16_0 : List (OP RT) := []
def conv_a16_0 (r : Raw den ps_a16_0 os_a16_0) : ((Sl S_impl_Entry)) × (Int) := (r.1.1, r.1.2.2.2.1)
def back_a16_0 (c : (Sl S_impl_Entry)) (w : Int) : St RT den := ⟨((.rs c.z .impl_Entry c.n c.f) :: .q :: .q :: (.int .i64 w) :: (qs 34 [])), []⟩
def Bk_a16_0 {ρ : Type} (fu : Nat) (c : (Sl S_impl_Entry)) (k : Ex → St RT den → Option ρ) (w : Int) (go : (Int) → Option ρ) : Option ρ := F_spec_LogFault_B0 fu c (fun a0 => k .ret ⟨(.q :: .q :: (.int .i64 a0) :: (qs 35 [])), []⟩) (k .ret ⟨(.q :: .q :: (.int .i64 1) :: (qs 35 [])), []⟩) (k (.exit 0) ⟨(qs 38 []), []⟩) w go
def lp_a16 (fu : Nat) : Lp RT den (Int) := ⟨fun b s k => match b with | 0 => handle ps_a16_0 os_a16_0 conv_a16_0 (Bk_a16_0 fu) fu s k | _ => none, inl0⟩
theorem ev_a16 (fu : Nat) (log_0 : (Sl S_impl_Entry)) : evFun E (pc_a16 fu) msk_a16 (lp_a16 fu) out_i64 71 [(.rs log_0.z .impl_Entry log_0.n log_0.f)] = F_spec_LogFault fu log_0 := by kernel_rfl
noncomputable def body_a16 : Code := Try.f71.body.getD .skip
noncomputable def lc_a16_0 : Code := ((loops 0 body_a16).getD 0 (0, .skip)).2
theorem round_a16_0 (fu : Nat) (it : St RT den → Option (Int)) (k : Ex → St RT den → Option (Int)) c w : evCode E (pc_a16 fu) msk_a16 (lp_a16 fu) 0 lc_a16_0 (back_a16_0 c w) (after (msk_a16 0) (msk_a16 100000) 0 it k) = Bk_a16_0 fu c k w (fun w => it (back_a16_0 c w)) := by kernel_rfl
theorem lpok_a16_0 (fu : Nat) : ∀ s k r, (lp_a16 fu).lp 0 s k = some r → ∃ fuel, iter (msk_a16 0) (msk_a16 100000) s.objs.length (evCode E (pc_a16 fu) msk_a16 (lp_a16 fu) 0 lc_a16_0) fuel s k = some r :=
  handle_ok (ps := ps_a16_0) (os := os_a16_0) (conv := conv_a16_0) (B := Bk_a16_0 fu) (fu := fu) back_a16_0 (fun raw => by kernel_rfl) 0 (fun c w => by kernel_rfl) (round_a16_0 fu)
theorem lpok_a16 (fu : Nat) : LpOk E (pc_a16 fu) 0 msk_a16 (lp_a16 fu) (loops 0 body_a16) := lp_nil (loop_all 1 (by kernel_rfl) fun i hi => match i, hi with
  | 0, _ => by
    have h : (loops 0 body_a16).getD 0 (0, .skip) = (0, lc_a16_0) := by kernel_rfl
    rw [h]; exact lpok_a16_0 fu
  | i + 1, hi => absurd hi (by omega)) (by kernel_rfl)
def S_a16 (fu : Nat) (xs : List (D RT den)) : Option (Out RT den) := match xs with | [.rs za0_0 .impl_Entry na0_0 fa0_0] => some ⟨Int, F_spec_LogFault fu (⟨za0_0, na0_0, fa0_0⟩ : (Sl S_impl_Entry)), enc_i64, fun _ => true⟩ | _ => none
theorem hpc_a16 (fu : Nat) : ∀ f xs o, pcf_a16 fu f xs = some o → ∀ y, o.x = some y → Good E Try.prog f xs (o.g y) := by
  intro f xs o h
  unfold pcf_a16 at h
  split at h
  · exact good_a15 fu xs o h
  · cases h
theorem goodv_a16 (fu : Nat) (log_0 : (Sl S_impl_Entry)) (y : Int) (hy : F_spec_LogFault fu log_0 = some y) : Good E Try.prog 71 [(.rs log_0.z .impl_Entry log_0.n log_0.f)] (enc_i64 y) :=
  fun_good E_ok (pc_good (pc := pc_a16 fu) (hpc_a16 fu) hpx0) (fn := Try.f71) (c := body_a16) (out := out_i64) (y := y) (by kernel_rfl) (by kernel_rfl) (by kernel_rfl) (lpok_a16 fu) (fun d hd => out_i64_enc d _ hd) ((ev_a16 fu log_0).trans hy)
theorem good_a16 (fu : Nat) : ∀ xs o, S_a16 fu xs = some o → ∀ y, o.x = some y → Good E Try.prog 71 xs (o.g y) := by
  intro xs o h y hy
  unfold S_a16 at h
  split at h
  · rename_i za0_0 na0_0 fa0_0
    cases h
    exact goodv_a16 fu (⟨za0_0, na0_0, fa0_0⟩ : (Sl S_impl_Entry)) y hy
  · cases h

/-! spec.LastOf -/
def F_spec_LastOf (fu : Nat) (log_0 : (Sl S_impl_Entry)) : Option (S_impl_Entry) :=
  (bif (((log_0.n : Nat) : Int) == 0) then (some (⟨0, 0, 0, (⟨0, 0, 0, 0, 0, 0⟩ : S_impl_Cmd)⟩ : S_impl_Entry)) else ((bif (decide (0 ≤ (IntKind.wrap .i64 (((log_0.n : Nat) : Int) - 1))) &&
    decide ((Int.toNat (IntKind.wrap .i64 (((log_0.n : Nat) : Int) - 1))) < log_0.n)) then some () else none : Option Unit).bind fun _ => (some (log_0.f (Int.toNat (IntKind.wrap .i64 (((log_0.n : Nat) : Int) - 1)))))))
def pc_a17 (fu : Nat) : Pc RT den := ⟨pcf0, fun _ => false, fun _ => false, pcd0, pcd0, pcx0⟩
def msk_a17 (b : Nat) : List Nat := []
def lp_a17 (fu : Nat) : Lp RT den (S_impl_Entry) := ⟨fun b s k => none, inl0⟩
theorem ev_a17 (fu : Nat) (log_0 : (Sl S_impl_Entry)) : evFun E (pc_a17 fu) msk_a17 (lp_a17 fu) out_impl_Entry 46 [(.rs log_0.z .impl_Entry log_0.n log_0.f)] = F_spec_LastOf fu log_0 := by kernel_rfl
noncomputable def body_a17 : Code := Try.f46.body.getD .skip
theorem lpok_a17 (fu : Nat) : LpOk E (pc_a17 fu) 0 msk_a17 (lp_a17 fu) (loops 0 body_a17) := lp_nil (loop_nil (by kernel_rfl)) (by kernel_rfl)
def S_a17 (fu : Nat) (xs : List (D RT den)) : Option (Out RT den) := match xs with | [.rs za0_0 .impl_Entry na0_0 fa0_0] => some ⟨S_impl_Entry, F_spec_LastOf fu (⟨za0_0, na0_0, fa0_0⟩ : (Sl S_impl_Entry)), enc_impl_Entry, fun _ => true⟩ | _ => none
theorem goodv_a17 (fu : Nat) (log_0 : (Sl S_impl_Entry)) (y : S_impl_Entry) (hy : F_spec_LastOf fu log_0 = some y) : Good E Try.prog 46 [(.rs log_0.z .impl_Entry log_0.n log_0.f)] (enc_impl_Entry y) :=
  fun_good E_ok (pc_good (pc := pc_a17 fu) hpc0 hpx0) (fn := Try.f46) (c := body_a17) (out := out_impl_Entry) (y := y) (by kernel_rfl) (by kernel_rfl) (by kernel_rfl) (lpok_a17 fu) (fun d hd => out_impl_Entry_enc d _ hd) ((ev_a17 fu log_0).trans hy)
theorem good_a17 (fu : Nat) : ∀ xs o, S_a17 fu xs = some o → ∀ y, o.x = some y → Good E Try.prog 46 xs (o.g y) := by
  intro xs o h y hy
  unfold S_a17 at h
  split at h
  · rename_i za0_0 na0_0 fa0_0
    cases h
    exact goodv_a17 fu (⟨za0_0, na0_0, fa0_0⟩ : (Sl S_impl_Entry)) y hy
  · cases h

/-! spec.l8Rises -/
def F_spec_l8Rises_B0 {ρ : Type} (fu : Nat) (list0_0 : (Sl Int)) (k0 : Option ρ) (k1 : Option ρ) (i3_1 : Int) (go : Int → Option ρ) : Option ρ :=
  (bif (decide (i3_1 < ((list0_0.n : Nat) : Int))) then ((bif (decide (0 ≤ i3_1) && decide ((Int.toNat i3_1) < list0_0.n)) then some () else none : Option Unit).bind fun _ => ((bif (decide (0 ≤ (IntKind.wrap .i64 (i3_1 - 1))) &&
    decide ((Int.toNat (IntKind.wrap .i64 (i3_1 - 1))) < list0_0.n)) then some () else none : Option Unit).bind fun _ => (bif (decide ((list0_0.f (Int.toNat i3_1)) ≤ (list0_0.f (Int.toNat (IntKind.wrap .i64 (i3_1 - 1)))))) then
    k0 else (go (IntKind.wrap .i64 (i3_1 + 1)))))) else k1)
def F_spec_l8Rises (fu : Nat) (list_0 : (Sl Int)) : Option (Bool) :=
  (L (fun w0 go0 => F_spec_l8Rises_B0 fu list_0 (some false) (some true) w0 go0) fu (1 : Int))
def pc_a18 (fu : Nat) : Pc RT den := ⟨pcf0, fun _ => false, fun _ => false, pcd0, pcd0, pcx0⟩
def msk_a18 (b : Nat) : List Nat := match b with | 0 => (1 :: 2 :: (rg 4 16 [])) | 100000 => (0 :: 1 :: (rg 3 17 [])) | _ => []
def ps_a18_0 : List (Pat RT) := (.flat (.rs .i64) :: .flat .q :: .flat .q :: .flat (.int .i64) :: (fq 16 []))
def os_a18_0 : List (OP RT) := []
def conv_a18_0 (r : Raw den ps_a18_0 os_a18_0) : ((Sl Int)) × (Int) := (r.1.1, r.1.2.2.2.1)
def back_a18_0 (c : (Sl Int)) (w : Int) : St RT den := ⟨((.rs c.z .i64 c.n c.f) :: .q :: .q :: (.int .i64 w) :: (qs 16 [])), []⟩
def Bk_a18_0 {ρ : Type} (fu : Nat) (c : (Sl Int)) (k : Ex → St RT den → Option ρ) (w : Int) (go : (Int) → Option ρ) : Option ρ := F_spec_l8Rises_B0 fu c (k .ret ⟨(.q :: .q :: (.bool false) :: (qs 17 [])), []⟩) (k (.exit 0) ⟨(qs 20 []), []⟩) w go
def lp_a18 (fu : Nat) : Lp RT den (Bool) := ⟨fun b s k => match b with | 0 => handle ps_a18_0 os_a18_0 conv_a18_0 (Bk_a18_0 fu) fu s k | _ => none, inl0⟩
theorem ev_a18 (fu : Nat) (list_0 : (Sl Int)) : evFun E (pc_a18 fu) msk_a18 (lp_a18 fu) out_bo 90 [(.rs list_0.z .i64 list_0.n list_0.f)] = F_spec_l8Rises fu list_0 := by kernel_rfl
noncomputable def body_a18 : Code := Try.f90.body.getD .skip
noncomputable def lc_a18_0 : Code := ((loops 0 body_a18).getD 0 (0, .skip)).2
theorem round_a18_0 (fu : Nat) (it : St RT den → Option (Bool)) (k : Ex → St RT den → Option (Bool)) c w : evCode E (pc_a18 fu) msk_a18 (lp_a18 fu) 0 lc_a18_0 (back_a18_0 c w) (after (msk_a18 0) (msk_a18 100000) 0 it k) = Bk_a18_0 fu c k w (fun w => it (back_a18_0 c w)) := by kernel_rfl
theorem lpok_a18_0 (fu : Nat) : ∀ s k r, (lp_a18 fu).lp 0 s k = some r → ∃ fuel, iter (msk_a18 0) (msk_a18 100000) s.objs.length (evCode E (pc_a18 fu) msk_a18 (lp_a18 fu) 0 lc_a18_0) fuel s k = some r :=
  handle_ok (ps := ps_a18_0) (os := os_a18_0) (conv := conv_a18_0) (B := Bk_a18_0 fu) (fu := fu) back_a18_0 (fun raw => by kernel_rfl) 0 (fun c w => by kernel_rfl) (round_a18_0 fu)
theorem lpok_a18 (fu : Nat) : LpOk E (pc_a18 fu) 0 msk_a18 (lp_a18 fu) (loops 0 body_a18) := lp_nil (loop_all 1 (by kernel_rfl) fun i hi => match i, hi with
  | 0, _ => by
    have h : (loops 0 body_a18).getD 0 (0, .skip) = (0, lc_a18_0) := by kernel_rfl
    rw [h]; exact lpok_a18_0 fu
  | i + 1, hi => absurd hi (by omega)) (by kernel_rfl)
def S_a18 (fu : Nat) (xs : List (D RT den)) : Option (Out RT den) := match xs with | [.rs za0_0 .i64 na0_0 fa0_0] => some ⟨Bool, F_spec_l8Rises fu (⟨za0_0, na0_0, fa0_0⟩ : (Sl Int)), enc_bo, fun _ => true⟩ | _ => none
theorem goodv_a18 (fu : Nat) (list_0 : (Sl Int)) (y : Bool) (hy : F_spec_l8Rises fu list_0 = some y) : Good E Try.prog 90 [(.rs list_0.z .i64 list_0.n list_0.f)] (enc_bo y) :=
  fun_good E_ok (pc_good (pc := pc_a18 fu) hpc0 hpx0) (fn := Try.f90) (c := body_a18) (out := out_bo) (y := y) (by kernel_rfl) (by kernel_rfl) (by kernel_rfl) (lpok_a18 fu) (fun d hd => out_bo_enc d _ hd) ((ev_a18 fu list_0).trans hy)
theorem good_a18 (fu : Nat) : ∀ xs o, S_a18 fu xs = some o → ∀ y, o.x = some y → Good E Try.prog 90 xs (o.g y) := by
  intro xs o h y hy
  unfold S_a18 at h
  split at h
  · rename_i za0_0 na0_0 fa0_0
    cases h
    exact goodv_a18 fu (⟨za0_0, na0_0, fa0_0⟩ : (Sl Int)) y hy
  · cases h

/-! spec.l8Lists -/
def F_spec_l8Lists_B0 {ρ : Type} (fu : Nat) (n0_0 : Int) (n0_1 : Int) (n0_2 : Int) (n0_3 : Int) (n0_4 : (Sl S_impl_Entry)) (n0_5 : Int) (n0_6 : Int) (n0_7 : (Sl Int)) (n0_8 : (Sl Int)) (n0_9 : (Sl Int)) (k0 : Option ρ) (k1 : Option ρ) (i3_10 : Int) (go : Int → Option ρ) : Option ρ :=
  (bif (decide (i3_10 < ((n0_7.n : Nat) : Int))) then ((bif (decide (0 ≤ i3_10) && decide ((Int.toNat i3_10) < n0_7.n)) then some () else none : Option Unit).bind fun _ =>
    ((F_spec_l8Id fu (⟨n0_0, n0_1, n0_2, n0_3, n0_4, n0_5, n0_6, n0_7, n0_8, n0_9⟩ : S_impl_Node) (n0_7.f (Int.toNat i3_10))).bind fun y90 => (bif (!y90) then k0 else (go (IntKind.wrap .i64 (i3_10 + 1)))))) else
    k1)
def F_spec_l8Lists (fu : Nat) (n_0 : S_impl_Node) : Option (Bool) :=
  ((((F_spec_l8Rises fu n_0.Votes).bind fun y88 => (bif (!y88) then (some true) else (bif (decide (((n_0.Votes.n : Nat) : Int) > 0)) then (some (n_0.Role != 1)) else (some false)))) : Option Bool).bind fun m89 =>
    (bif m89 then (some false) else (L (fun w0 go0 => F_spec_l8Lists_B0 fu n_0.Id n_0.Peers n_0.Term n_0.Voted n_0.Log n_0.Role n_0.Commit n_0.Votes n_0.Next n_0.Match (some false) (bif (n_0.Role == 2) then
    (((bif (((n_0.Next.n : Nat) : Int) == n_0.Peers) then (some (((n_0.Match.n : Nat) : Int) == n_0.Peers)) else (some false)) : Option Bool).bind fun m91 => (some m91)) else (((bif (((n_0.Next.n : Nat) : Int) == 0) then
    (some (((n_0.Match.n : Nat) : Int) == 0)) else (some false)) : Option Bool).bind fun m92 => (some m92))) w0 go0) fu (0 : Int))))
def pcf_a19 (fu : Nat) (f : Nat) (xs : List (D RT den)) : Option (Out RT den) := match f with | 70 => S_a6 fu xs | 90 => S_a18 fu xs | _ => none
def pc_a19 (fu : Nat) : Pc RT den := ⟨pcf_a19 fu, fun _ => false, fun _ => false, pcd0, pcd0, pcx0⟩
def msk_a19 (b : Nat) : List Nat := match b with | 0 => (1 :: 2 :: (rg 4 66 [])) | 100000 => (1 :: (rg 3 67 [])) | 200001 => [25] | 200011 => [2] | _ => []
def ps_a19_0 : List (Pat RT) := (.rptr [(.int .i64), (.int .i64), (.int .i64), (.int .i64), (.rs .impl_Entry), (.int .i64), (.int .i64), (.rs .i64), (.rs .i64), (.rs .i64)] :: .flat .q :: .flat .q :: .flat (.int .i64) :: (fq 66 []))
def os_a19_0 : List (OP RT) := []
def conv_a19_0 (r : Raw den ps_a19_0 os_a19_0) : (Ya0) × (Int) := ((r.1.1.1, r.1.1.2.1, r.1.1.2.2.1, r.1.1.2.2.2.1, r.1.1.2.2.2.2.1, (e5 r.1.1).1, (e5 r.1.1).2.1, (e5 r.1.1).2.2.1, (e5 r.1.1).2.2.2.1, (e5 r.1.1).2.2.2.2.1), r.1.2.2.2.1)
def back_a19_0 (c : Ya0) (w : Int) : St RT den := ⟨((.rptr [(.int .i64 c.1), (.int .i64 c.2.1), (.int .i64 c.2.2.1), (.int .i64 c.2.2.2.1), (.rs c.2.2.2.2.1.z .impl_Entry c.2.2.2.2.1.n c.2.2.2.2.1.f), (.int .i64 (e5 c).1), (.int .i64 (e5 c).2.1), (.rs (e5 c).2.2.1.z .i64 (e5 c).2.2.1.n (e5 c).2.2.1.f), (.rs (e5 c).2.2.2.1.z .i64 (e5 c).2.2.2.1.n (e5 c).2.2.2.1.f), (.rs (e5 c).2.2.2.2.z .i64 (e5 c).2.2.2.2.n (e5 c).2.2.2.2.f)]) :: .q :: .q :: (.int .i64 w) :: (qs 66 [])), []⟩
def Bk_a19_0 {ρ : Type} (fu : Nat) (c : Ya0) (k : Ex → St RT den → Option ρ) (w : Int) (go : (Int) → Option ρ) : Option ρ := F_spec_l8Lists_B0 fu c.1 c.2.1 c.2.2.1 c.2.2.2.1 c.2.2.2.2.1 (e5 c).1 (e5 c).2.1 (e5 c).2.2.1 (e5 c).2.2.2.1 (e5 c).2.2.2.2 (k .ret ⟨((.rptr [(.int .i64 c.1), (.int .i64 c.2.1), (.int .i64 c.2.2.1), (.int .i64 c.2.2.2.1), (.rs c.2.2.2.2.1.z .impl_Entry c.2.2.2.2.1.n c.2.2.2.2.1.f), (.int .i64 (e5 c).1), (.int .i64 (e5 c).2.1), (.rs (e5 c).2.2.1.z .i64 (e5 c).2.2.1.n (e5 c).2.2.1.f), (.rs (e5 c).2.2.2.1.z .i64 (e5 c).2.2.2.1.n (e5 c).2.2.2.1.f), (.rs (e5 c).2.2.2.2.z .i64 (e5 c).2.2.2.2.n (e5 c).2.2.2.2.f)]) :: .q :: (.bool false) :: (qs 67 [])), []⟩) (k (.exit 0) ⟨((.rptr [(.int .i64 c.1), (.int .i64 c.2.1), (.int .i64 c.2.2.1), (.int .i64 c.2.2.2.1), (.rs c.2.2.2.2.1.z .impl_Entry c.2.2.2.2.1.n c.2.2.2.2.1.f), (.int .i64 (e5 c).1), (.int .i64 (e5 c).2.1), (.rs (e5 c).2.2.1.z .i64 (e5 c).2.2.1.n (e5 c).2.2.1.f), (.rs (e5 c).2.2.2.1.z .i64 (e5 c).2.2.2.1.n (e5 c).2.2.2.1.f), (.rs (e5 c).2.2.2.2.z .i64 (e5 c).2.2.2.2.n (e5 c).2.2.2.2.f)]) :: (qs 69 [])), []⟩) w go
def lp_a19 (fu : Nat) : Lp RT den (Bool) := ⟨fun b s k => match b with | 0 => handle ps_a19_0 os_a19_0 conv_a19_0 (Bk_a19_0 fu) fu s k | _ => none, inl0⟩
theorem ev_a19 (fu : Nat) (n_0 : S_impl_Node) : evFun E (pc_a19 fu) msk_a19 (lp_a19 fu) out_bo 72 [(.rptr [(.int .i64 n_0.Id), (.int .i64 n_0.Peers), (.int .i64 n_0.Term), (.int .i64 n_0.Voted), (.rs n_0.Log.z .impl_Entry n_0.Log.n n_0.Log.f), (.int .i64 n_0.Role), (.int .i64 n_0.Commit), (.rs n_0.Votes.z .i64 n_0.Votes.n n_0.Votes.f), (.rs n_0.Next.z .i64 n_0.Next.n n_0.Next.f), (.rs n_0.Match.z .i64 n_0.Match.n n_0.Match.f)])] = F_spec_l8Lists fu n_0 := by kernel_rfl
noncomputable def body_a19 : Code := Try.f72.body.getD .skip
noncomputable def lc_a19_0 : Code := ((loops 0 body_a19).getD 0 (0, .skip)).2
theorem round_a19_0 (fu : Nat) (it : St RT den → Option (Bool)) (k : Ex → St RT den → Option (Bool)) c w : evCode E (pc_a19 fu) msk_a19 (lp_a19 fu) 0 lc_a19_0 (back_a19_0 c w) (after (msk_a19 0) (msk_a19 100000) 0 it k) = Bk_a19_0 fu c k w (fun w => it (back_a19_0 c w)) := by kernel_rfl
theorem lpok_a19_0 (fu : Nat) : ∀ s k r, (lp_a19 fu).lp 0 s k = some r → ∃ fuel, iter (msk_a19 0) (msk_a19 100000) s.objs.length (evCode E (pc_a19 fu) msk_a19 (lp_a19 fu) 0 lc_a19_0) fuel s k = some r :=
  handle_ok (ps := ps_a19_0) (os := os_a19_0) (conv := conv_a19_0) (B := Bk_a19_0 fu) (fu := fu) back_a19_0 (fun raw => by kernel_rfl) 0 (fun c w => by kernel_rfl) (round_a19_0 fu)
theorem lpok_a19 (fu : Nat) : LpOk E (pc_a19 fu) 0 msk_a19 (lp_a19 fu) (loops 0 body_a19) := lp_nil (loop_all 1 (by kernel_rfl) fun i hi => match i, hi with
  | 0, _ => by
    have h : (loops 0 body_a19).getD 0 (0, .skip) = (0, lc_a19_0) := by kernel_rfl
    rw [h]; exact lpok_a19_0 fu
  | i + 1, hi => absurd hi (by omega)) (by kernel_rfl)
def S_a19 (fu : Nat) (xs : List (D RT den)) : Option (Out RT den) := match xs with | [.rptr (.int .i64 a0_1 :: .int .i64 a0_2 :: .int .i64 a0_3 :: .int .i64 a0_4 :: .rs za0_5 .impl_Entry na0_5 fa0_5 :: .int .i64 a0_6 :: .int .i64 a0_7 :: .rs za0_8 .i64 na0_8 fa0_8 :: .rs za0_9 .i64 na0_9 fa0_9 :: .rs za0_10 .i64 na0_10 fa0_10 :: ra0)] => some ⟨Bool, F_spec_l8Lists fu (⟨a0_1, a0_2, a0_3, a0_4, (⟨za0_5, na0_5, fa0_5⟩ : (Sl S_impl_Entry)), a0_6, a0_7, (⟨za0_8, na0_8, fa0_8⟩ : (Sl Int)), (⟨za0_9, na0_9, fa0_9⟩ : (Sl Int)), (⟨za0_10, na0_10, fa0_10⟩ : (Sl Int))⟩ : S_impl_Node), enc_bo, fun _ => true⟩ | _ => none
theorem hpc_a19 (fu : Nat) : ∀ f xs o, pcf_a19 fu f xs = some o → ∀ y, o.x = some y → Good E Try.prog f xs (o.g y) := by
  intro f xs o h
  unfold pcf_a19 at h
  split at h
  · exact good_a6 fu xs o h
  · exact good_a18 fu xs o h
  · cases h
theorem goodv_a19 (fu : Nat) (n_0 : S_impl_Node) (y : Bool) (hy : F_spec_l8Lists fu n_0 = some y) : Good E Try.prog 72 [(.rptr [(.int .i64 n_0.Id), (.int .i64 n_0.Peers), (.int .i64 n_0.Term), (.int .i64 n_0.Voted), (.rs n_0.Log.z .impl_Entry n_0.Log.n n_0.Log.f), (.int .i64 n_0.Role), (.int .i64 n_0.Commit), (.rs n_0.Votes.z .i64 n_0.Votes.n n_0.Votes.f), (.rs n_0.Next.z .i64 n_0.Next.n n_0.Next.f), (.rs n_0.Match.z .i64 n_0.Match.n n_0.Match.f)])] (enc_bo y) :=
  fun_good E_ok (pc_good (pc := pc_a19 fu) (hpc_a19 fu) hpx0) (fn := Try.f72) (c := body_a19) (out := out_bo) (y := y) (by kernel_rfl) (by kernel_rfl) (by kernel_rfl) (lpok_a19 fu) (fun d hd => out_bo_enc d _ hd) ((ev_a19 fu n_0).trans hy)
theorem good_a19 (fu : Nat) : ∀ xs o, S_a19 fu xs = some o → ∀ y, o.x = some y → Good E Try.prog 72 xs (o.g y) := by
  intro xs o h y hy
  unfold S_a19 at h
  split at h
  · rename_i a0_1 a0_2 a0_3 a0_4 za0_5 na0_5 fa0_5 a0_6 a0_7 za0_8 na0_8 fa0_8 za0_9 na0_9 fa0_9 za0_10 na0_10 fa0_10 ra0
    cases h
    exact (goodv_a19 fu (⟨a0_1, a0_2, a0_3, a0_4, (⟨za0_5, na0_5, fa0_5⟩ : (Sl S_impl_Entry)), a0_6, a0_7, (⟨za0_8, na0_8, fa0_8⟩ : (Sl Int)), (⟨za0_9, na0_9, fa0_9⟩ : (Sl Int)), (⟨za0_10, na0_10, fa0_10⟩ : (Sl Int))⟩ : S_impl_Node) y hy).sub ⟨Sub.of_eq ra0 rfl, trivial⟩
  · cases h

/-! spec.l8Fault -/
def F_spec_l8Fault_B0 {ρ : Type} (fu : Nat) (t0_0 : Int) (t0_1 : Int) (t0_2 : Int) (t0_3 : Int) (t0_4 : (Sl S_impl_Entry)) (t0_5 : Int) (t0_6 : Int) (t0_7 : (Sl Int)) (t0_8 : (Sl Int)) (t0_9 : (Sl Int)) (r4_10 : Int) (k0 : Option ρ) (k1 : Option ρ) (a5_11 : Int) (go : Int → Option ρ) : Option ρ :=
  (bif (decide (a5_11 < ((t0_8.n : Nat) : Int))) then ((((bif (decide (0 ≤ a5_11) && decide ((Int.toNat a5_11) < t0_8.n)) then some () else none : Option Unit).bind fun _ =>
    ((F_spec_l1In fu (t0_8.f (Int.toNat a5_11)) 1 (IntKind.wrap .i64 (r4_10 + 1))).bind fun y28 => (bif (!y28) then (some true) else ((bif (decide (0 ≤ a5_11) && decide ((Int.toNat a5_11) < t0_9.n)) then
    some () else none : Option Unit).bind fun _ => ((F_spec_l1In fu (t0_9.f (Int.toNat a5_11)) 0 r4_10).bind fun y29 => (some (!y29))))))) : Option Bool).bind fun m30 => (bif m30 then
    k0 else (go (IntKind.wrap .i64 (a5_11 + 1))))) else k1)
def F_spec_l8Fault (fu : Nat) (t_0 : S_impl_Node) : Option (Int) :=
  ((((F_spec_l1In fu t_0.Peers 1 5).bind fun y18 => (bif (!y18) then (some true) else ((F_spec_l8Id fu t_0 t_0.Id).bind fun y19 => (bif (!y19) then (some true) else ((F_spec_l1In fu t_0.Term 0 100000).bind fun y20 =>
    (bif (!y20) then (some true) else ((F_spec_l1In fu t_0.Voted (-1) (IntKind.wrap .i64 (t_0.Peers - 1))).bind fun y21 => (bif (!y21) then (some true) else ((F_spec_l1In fu t_0.Role 0 2).bind fun y22 =>
    (some (!y22))))))))))) : Option Bool).bind fun m23 => (bif m23 then (some 3) else ((F_spec_LogFault fu t_0.Log).bind fun y24 => (bif (y24 != 0) then (some y24) else
    ((F_spec_LastOf fu t_0.Log).bind fun y25 => (bif (decide (y25.Term > t_0.Term)) then (some 1) else ((F_spec_l1In fu t_0.Commit 0 ((t_0.Log.n : Nat) : Int)).bind fun y26 => (bif (!y26) then
    (some 3) else ((F_spec_l8Lists fu t_0).bind fun y27 => (bif (!y27) then (some 1) else (L (fun w0 go0 => F_spec_l8Fault_B0 fu t_0.Id t_0.Peers t_0.Term t_0.Voted t_0.Log t_0.Role t_0.Commit t_0.Votes t_0.Next t_0.Match ((t_0.Log.n : Nat) : Int) (some 3) (((bif (t_0.Role != 0) then
    (bif (t_0.Voted != t_0.Id) then (some true) else (some (t_0.Term == 0))) else (some false)) : Option Bool).bind fun m31 => (bif m31 then (some 1) else (some 0))) w0 go0) fu (0 : Int))))))))))))
def pcf_a20 (fu : Nat) (f : Nat) (xs : List (D RT den)) : Option (Out RT den) := match f with | 46 => S_a17 fu xs | 69 => S_a5 fu xs | 70 => S_a6 fu xs | 71 => S_a16 fu xs | 72 => S_a19 fu xs | _ => none
def pc_a20 (fu : Nat) : Pc RT den := ⟨pcf_a20 fu, fun _ => false, fun _ => false, pcd0, pcd0, pcx0⟩
def msk_a20 (b : Nat) : List Nat := match b with | 0 => (1 :: 2 :: 3 :: (rg 6 133 [])) | 100000 => (1 :: (rg 3 136 [])) | 200001 => [49] | 200016 => [115] | 200018 => [138] | _ => []
def ps_a20_0 : List (Pat RT) := (.rptr [(.int .i64), (.int .i64), (.int .i64), (.int .i64), (.rs .impl_Entry), (.int .i64), (.int .i64), (.rs .i64), (.rs .i64), (.rs .i64)] :: .flat .q :: .flat .q :: .flat .q :: .flat (.int .i64) :: .flat (.int .i64) :: (fq 133 []))
def os_a20_0 : List (OP RT) := []
def conv_a20_0 (r : Raw den ps_a20_0 os_a20_0) : (Ya1) × (Int) := ((r.1.1.1, r.1.1.2.1, r.1.1.2.2.1, r.1.1.2.2.2.1, r.1.1.2.2.2.2.1, (e5 r.1.1).1, (e5 r.1.1).2.1, (e5 r.1.1).2.2.1, (e5 r.1.1).2.2.2.1, (e5 r.1.1).2.2.2.2.1, r.1.2.2.2.2.1), (e5 r.1).1)
def back_a20_0 (c : Ya1) (w : Int) : St RT den := ⟨((.rptr [(.int .i64 c.1), (.int .i64 c.2.1), (.int .i64 c.2.2.1), (.int .i64 c.2.2.2.1), (.rs c.2.2.2.2.1.z .impl_Entry c.2.2.2.2.1.n c.2.2.2.2.1.f), (.int .i64 (e5 c).1), (.int .i64 (e5 c).2.1), (.rs (e5 c).2.2.1.z .i64 (e5 c).2.2.1.n (e5 c).2.2.1.f), (.rs (e5 c).2.2.2.1.z .i64 (e5 c).2.2.2.1.n (e5 c).2.2.2.1.f), (.rs (e5 c).2.2.2.2.1.z .i64 (e5 c).2.2.2.2.1.n (e5 c).2.2.2.2.1.f)]) :: .q :: .q :: .q :: (.int .i64 (e10 c)) :: (.int .i64 w) :: (qs 133 [])), []⟩
def Bk_a20_0 {ρ : Type} (fu : Nat) (c : Ya1) (k : Ex → St RT den → Option ρ) (w : Int) (go : (Int) → Option ρ) : Option ρ := F_spec_l8Fault_B0 fu c.1 c.2.1 c.2.2.1 c.2.2.2.1 c.2.2.2.2.1 (e5 c).1 (e5 c).2.1 (e5 c).2.2.1 (e5 c).2.2.2.1 (e5 c).2.2.2.2.1 (e10 c) (k .ret ⟨((.rptr [(.int .i64 c.1), (.int .i64 c.2.1), (.int .i64 c.2.2.1), (.int .i64 c.2.2.2.1), (.rs c.2.2.2.2.1.z .impl_Entry c.2.2.2.2.1.n c.2.2.2.2.1.f), (.int .i64 (e5 c).1), (.int .i64 (e5 c).2.1), (.rs (e5 c).2.2.1.z .i64 (e5 c).2.2.1.n (e5 c).2.2.1.f), (.rs (e5 c).2.2.2.1.z .i64 (e5 c).2.2.2.1.n (e5 c).2.2.2.1.f), (.rs (e5 c).2.2.2.2.1.z .i64 (e5 c).2.2.2.2.1.n (e5 c).2.2.2.2.1.f)]) :: .q :: (.int .i64 3) :: (qs 136 [])), []⟩) (k (.exit 0) ⟨((.rptr [(.int .i64 c.1), (.int .i64 c.2.1), (.int .i64 c.2.2.1), (.int .i64 c.2.2.2.1), (.rs c.2.2.2.2.1.z .impl_Entry c.2.2.2.2.1.n c.2.2.2.2.1.f), (.int .i64 (e5 c).1), (.int .i64 (e5 c).2.1), (.rs (e5 c).2.2.1.z .i64 (e5 c).2.2.1.n (e5 c).2.2.1.f), (.rs (e5 c).2.2.2.1.z .i64 (e5 c).2.2.2.1.n (e5 c).2.2.2.1.f), (.rs (e5 c).2.2.2.2.1.z .i64 (e5 c).2.2.2.2.1.n (e5 c).2.2.2.2.1.f)]) :: (qs 138 [])), []⟩) w go
def lp_a20 (fu : Nat) : Lp RT den (Int) := ⟨fun b s k => match b with | 0 => handle ps_a20_0 os_a20_0 conv_a20_0 (Bk_a20_0 fu) fu s k | _ => none, inl0⟩
theorem ev_a20 (fu : Nat) (t_0 : S_impl_Node) : evFun E (pc_a20 fu) msk_a20 (lp_a20 fu) out_i64 25 [(.rptr [(.int .i64 t_0.Id), (.int .i64 t_0.Peers), (.int .i64 t_0.Term), (.int .i64 t_0.Voted), (.rs t_0.Log.z .impl_Entry t_0.Log.n t_0.Log.f), (.int .i64 t_0.Role), (.int .i64 t_0.Commit), (.rs t_0.Votes.z .i64 t_0.Votes.n t_0.Votes.f), (.rs t_0.Next.z .i64 t_0.Next.n t_0.Next.f), (.rs t_0.Match.z .i64 t_0.Match.n t_0.Match.f)])] = F_spec_l8Fault fu t_0 := by kernel_rfl
noncomputable def body_a20 : Code := Try.f25.body.getD .skip
noncomputable def lc_a20_0 : Code := ((loops 0 body_a20).getD 0 (0, .skip)).2
theorem round_a20_0 (fu : Nat) (it : St RT den → Option (Int)) (k : Ex → St RT den → Option (Int)) c w : evCode E (pc_a20 fu) msk_a20 (lp_a20 fu) 0 lc_a20_0 (back_a20_0 c w) (after (msk_a20 0) (msk_a20 100000) 0 it k) = Bk_a20_0 fu c k w (fun w => it (back_a20_0 c w)) := by kernel_rfl
theorem lpok_a20_0 (fu : Nat) : ∀ s k r, (lp_a20 fu).lp 0 s k = some r → ∃ fuel, iter (msk_a20 0) (msk_a20 100000) s.objs.length (evCode E (pc_a20 fu) msk_a20 (lp_a20 fu) 0 lc_a20_0) fuel s k = some r :=
  handle_ok (ps := ps_a20_0) (os := os_a20_0) (conv := conv_a20_0) (B := Bk_a20_0 fu) (fu := fu) back_a20_0 (fun raw => by kernel_rfl) 0 (fun c w => by kernel_rfl) (round_a20_0 fu)
theorem lpok_a20 (fu : Nat) : LpOk E (pc_a20 fu) 0 msk_a20 (lp_a20 fu) (loops 0 body_a20) := lp_nil (loop_all 1 (by kernel_rfl) fun i hi => match i, hi with
  | 0, _ => by
    have h : (loops 0 body_a20).getD 0 (0, .skip) = (0, lc_a20_0) := by kernel_rfl
    rw [h]; exact lpok_a20_0 fu
  | i + 1, hi => absurd hi (by omega)) (by kernel_rfl)
def S_a20 (fu : Nat) (xs : List (D RT den)) : Option (Out RT den) := match xs with | [.rptr (.int .i64 a0_1 :: .int .i64 a0_2 :: .int .i64 a0_3 :: .int .i64 a0_4 :: .rs za0_5 .impl_Entry na0_5 fa0_5 :: .int .i64 a0_6 :: .int .i64 a0_7 :: .rs za0_8 .i64 na0_8 fa0_8 :: .rs za0_9 .i64 na0_9 fa0_9 :: .rs za0_10 .i64 na0_10 fa0_10 :: ra0)] => some ⟨Int, F_spec_l8Fault fu (⟨a0_1, a0_2, a0_3, a0_4, (⟨za0_5, na0_5, fa0_5⟩ : (Sl S_impl_Entry)), a0_6, a0_7, (⟨za0_8, na0_8, fa0_8⟩ : (Sl Int)), (⟨za0_9, na0_9, fa0_9⟩ : (Sl Int)), (⟨za0_10, na0_10, fa0_10⟩ : (Sl Int))⟩ : S_impl_Node), enc_i64, fun _ => true⟩ | _ => none
theorem hpc_a20 (fu : Nat) : ∀ f xs o, pcf_a20 fu f xs = some o → ∀ y, o.x = some y → Good E Try.prog f xs (o.g y) := by
  intro f xs o h
  unfold pcf_a20 at h
  split at h
  · exact good_a17 fu xs o h
  · exact good_a5 fu xs o h
  · exact good_a6 fu xs o h
  · exact good_a16 fu xs o h
  · exact good_a19 fu xs o h
  · cases h
theorem goodv_a20 (fu : Nat) (t_0 : S_impl_Node) (y : Int) (hy : F_spec_l8Fault fu t_0 = some y) : Good E Try.prog 25 [(.rptr [(.int .i64 t_0.Id), (.int .i64 t_0.Peers), (.int .i64 t_0.Term), (.int .i64 t_0.Voted), (.rs t_0.Log.z .impl_Entry t_0.Log.n t_0.Log.f), (.int .i64 t_0.Role), (.int .i64 t_0.Commit), (.rs t_0.Votes.z .i64 t_0.Votes.n t_0.Votes.f), (.rs t_0.Next.z .i64 t_0.Next.n t_0.Next.f), (.rs t_0.Match.z .i64 t_0.Match.n t_0.Match.f)])] (enc_i64 y) :=
  fun_good E_ok (pc_good (pc := pc_a20 fu) (hpc_a20 fu) hpx0) (fn := Try.f25) (c := body_a20) (out := out_i64) (y := y) (by kernel_rfl) (by kernel_rfl) (by kernel_rfl) (lpok_a20 fu) (fun d hd => out_i64_enc d _ hd) ((ev_a20 fu t_0).trans hy)
theorem good_a20 (fu : Nat) : ∀ xs o, S_a20 fu xs = some o → ∀ y, o.x = some y → Good E Try.prog 25 xs (o.g y) := by
  intro xs o h y hy
  unfold S_a20 at h
  split at h
  · rename_i a0_1 a0_2 a0_3 a0_4 za0_5 na0_5 fa0_5 a0_6 a0_7 za0_8 na0_8 fa0_8 za0_9 na0_9 fa0_9 za0_10 na0_10 fa0_10 ra0
    cases h
    exact (goodv_a20 fu (⟨a0_1, a0_2, a0_3, a0_4, (⟨za0_5, na0_5, fa0_5⟩ : (Sl S_impl_Entry)), a0_6, a0_7, (⟨za0_8, na0_8, fa0_8⟩ : (Sl Int)), (⟨za0_9, na0_9, fa0_9⟩ : (Sl Int)), (⟨za0_10, na0_10, fa0_10⟩ : (Sl Int))⟩ : S_impl_Node) y hy).sub ⟨Sub.of_eq ra0 rfl, trivial⟩
  · cases h
end Go.Proofs.Ytjdgfkmiaikegaa.Pd
