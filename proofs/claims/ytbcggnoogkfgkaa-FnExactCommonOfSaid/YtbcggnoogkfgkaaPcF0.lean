/- The functions' evaluated forms, each a proved summary. Conditions: none. -/
import Derived.Test.YtbcggnoogkfgkaaPcT
namespace Go.Proofs.Ytbcggnoogkfgkaa.Pc
open Go Go.RowKit Go.Proofs Vm
set_option linter.unusedVariables false
set_option linter.unusedSimpArgs false
set_option maxRecDepth 100000
/-! laws.szEntryS -/
def F_laws_szEntryS (fu : Nat) (a_0 : (Sl S_laws_Entry)) (left_1 : Int) : Option (Int) :=
  (bif (decide ((IntKind.wrap .i64 (left_1 - ((a_0.n : Nat) : Int))) < 0)) then (some (-1)) else (some (IntKind.wrap .i64 (left_1 - ((a_0.n : Nat) : Int)))))
def pc_laws_szEntryS (fu : Nat) : Pc RT den := fun f xs => none
def msk_laws_szEntryS (b : Nat) : List Nat := []
def lp_laws_szEntryS (fu : Nat) : Lp RT den (Int) := fun b s k => none
theorem ev_laws_szEntryS (fu : Nat) (a_0 : (Sl S_laws_Entry)) (left_1 : Int) : evFun E (pc_laws_szEntryS fu) msk_laws_szEntryS (lp_laws_szEntryS fu) out_i64 9 [(.rs a_0.z .laws_Entry a_0.n a_0.f), (.int .i64 left_1)] = F_laws_szEntryS fu a_0 left_1 := by kernel_rfl
noncomputable def body_laws_szEntryS : Code := Try.f9.body.getD .skip
theorem lpok_laws_szEntryS (fu : Nat) : LpOk E (pc_laws_szEntryS fu) msk_laws_szEntryS (lp_laws_szEntryS fu) (loops 0 body_laws_szEntryS) := by
  have h : loops 0 body_laws_szEntryS = [] := by kernel_rfl
  rw [h]; intro p hp; cases hp
def S_laws_szEntryS (fu : Nat) (xs : List (D RT den)) : Option (Out RT den) := match xs with | [.rs za0_0 .laws_Entry na0_0 fa0_0, .int .i64 a1_0] => some ⟨Int, F_laws_szEntryS fu (⟨za0_0, na0_0, fa0_0⟩ : (Sl S_laws_Entry)) a1_0, enc_i64, fun _ => true⟩ | _ => none
theorem hpc_laws_szEntryS (fu : Nat) : ∀ f xs o, pc_laws_szEntryS fu f xs = some o → ∀ y, o.x = some y → Good E Try.prog f xs (o.g y) := by
  intro f xs o h
  cases h
theorem goodv_laws_szEntryS (fu : Nat) (a_0 : (Sl S_laws_Entry)) (left_1 : Int) (y : Int) (hy : F_laws_szEntryS fu a_0 left_1 = some y) : Good E Try.prog 9 [(.rs a_0.z .laws_Entry a_0.n a_0.f), (.int .i64 left_1)] (enc_i64 y) :=
  fun_good E_ok (pc_good (hpc_laws_szEntryS fu)) (fn := Try.f9) (c := body_laws_szEntryS) (out := out_i64) (y := y) (by kernel_rfl) (by kernel_rfl) (by kernel_rfl) (lpok_laws_szEntryS fu) (fun d hd => out_i64_enc d _ hd) ((ev_laws_szEntryS fu a_0 left_1).trans hy)
theorem good_laws_szEntryS (fu : Nat) : ∀ xs o, S_laws_szEntryS fu xs = some o → ∀ y, o.x = some y → Good E Try.prog 9 xs (o.g y) := by
  intro xs o h y hy
  unfold S_laws_szEntryS at h
  split at h
  · rename_i za0_0 na0_0 fa0_0 a1_0
    cases h
    exact goodv_laws_szEntryS fu (⟨za0_0, na0_0, fa0_0⟩ : (Sl S_laws_Entry)) a1_0 y hy
  · cases h

/-! laws.toCmd -/
def F_laws_toCmd (fu : Nat) (a_0 : S_impl_Cmd) : Option (S_impl_Cmd) :=
  (some a_0)
def pc_laws_toCmd (fu : Nat) : Pc RT den := fun f xs => none
def msk_laws_toCmd (b : Nat) : List Nat := []
def lp_laws_toCmd (fu : Nat) : Lp RT den (S_impl_Cmd) := fun b s k => none
theorem ev_laws_toCmd (fu : Nat) (a_0 : S_impl_Cmd) : evFun E (pc_laws_toCmd fu) msk_laws_toCmd (lp_laws_toCmd fu) out_impl_Cmd 31 [(.agg [(.int .i64 a_0.Kind), (.int .i64 a_0.Expect), (.int .i64 a_0.Name), (.int .i64 a_0.Addr), (.int .i64 a_0.Number), (.int .i64 a_0.Proto)])] = F_laws_toCmd fu a_0 := by kernel_rfl
noncomputable def body_laws_toCmd : Code := Try.f31.body.getD .skip
theorem lpok_laws_toCmd (fu : Nat) : LpOk E (pc_laws_toCmd fu) msk_laws_toCmd (lp_laws_toCmd fu) (loops 0 body_laws_toCmd) := by
  have h : loops 0 body_laws_toCmd = [] := by kernel_rfl
  rw [h]; intro p hp; cases hp
def S_laws_toCmd (fu : Nat) (xs : List (D RT den)) : Option (Out RT den) := match xs with | [.agg [.int .i64 a0_1, .int .i64 a0_2, .int .i64 a0_3, .int .i64 a0_4, .int .i64 a0_5, .int .i64 a0_6]] => some ⟨S_impl_Cmd, F_laws_toCmd fu (⟨a0_1, a0_2, a0_3, a0_4, a0_5, a0_6⟩ : S_impl_Cmd), enc_impl_Cmd, fun _ => true⟩ | _ => none
theorem hpc_laws_toCmd (fu : Nat) : ∀ f xs o, pc_laws_toCmd fu f xs = some o → ∀ y, o.x = some y → Good E Try.prog f xs (o.g y) := by
  intro f xs o h
  cases h
theorem goodv_laws_toCmd (fu : Nat) (a_0 : S_impl_Cmd) (y : S_impl_Cmd) (hy : F_laws_toCmd fu a_0 = some y) : Good E Try.prog 31 [(.agg [(.int .i64 a_0.Kind), (.int .i64 a_0.Expect), (.int .i64 a_0.Name), (.int .i64 a_0.Addr), (.int .i64 a_0.Number), (.int .i64 a_0.Proto)])] (enc_impl_Cmd y) :=
  fun_good E_ok (pc_good (hpc_laws_toCmd fu)) (fn := Try.f31) (c := body_laws_toCmd) (out := out_impl_Cmd) (y := y) (by kernel_rfl) (by kernel_rfl) (by kernel_rfl) (lpok_laws_toCmd fu) (fun d hd => out_impl_Cmd_enc d _ hd) ((ev_laws_toCmd fu a_0).trans hy)
theorem good_laws_toCmd (fu : Nat) : ∀ xs o, S_laws_toCmd fu xs = some o → ∀ y, o.x = some y → Good E Try.prog 31 xs (o.g y) := by
  intro xs o h y hy
  unfold S_laws_toCmd at h
  split at h
  · rename_i a0_1 a0_2 a0_3 a0_4 a0_5 a0_6
    cases h
    exact goodv_laws_toCmd fu (⟨a0_1, a0_2, a0_3, a0_4, a0_5, a0_6⟩ : S_impl_Cmd) y hy
  · cases h

/-! laws.toEntry -/
def F_laws_toEntry (fu : Nat) (a_0 : S_laws_Entry) : Option (S_impl_Entry) :=
  ((F_laws_toCmd fu a_0.Cmd).bind fun y15 => (some (⟨a_0.Term, a_0.Client, a_0.Seq, y15⟩ : S_impl_Entry)))
def pc_laws_toEntry (fu : Nat) : Pc RT den := fun f xs => match f with | 31 => S_laws_toCmd fu xs | _ => none
def msk_laws_toEntry (b : Nat) : List Nat := []
def lp_laws_toEntry (fu : Nat) : Lp RT den (S_impl_Entry) := fun b s k => none
theorem ev_laws_toEntry (fu : Nat) (a_0 : S_laws_Entry) : evFun E (pc_laws_toEntry fu) msk_laws_toEntry (lp_laws_toEntry fu) out_impl_Entry 15 [(.agg [(.int .i64 a_0.Term), (.int .i64 a_0.Client), (.int .i64 a_0.Seq), (.int .i64 a_0.Cmd.Kind), (.int .i64 a_0.Cmd.Expect), (.int .i64 a_0.Cmd.Name), (.int .i64 a_0.Cmd.Addr), (.int .i64 a_0.Cmd.Number), (.int .i64 a_0.Cmd.Proto)])] = F_laws_toEntry fu a_0 := by kernel_rfl
noncomputable def body_laws_toEntry : Code := Try.f15.body.getD .skip
theorem lpok_laws_toEntry (fu : Nat) : LpOk E (pc_laws_toEntry fu) msk_laws_toEntry (lp_laws_toEntry fu) (loops 0 body_laws_toEntry) := by
  have h : loops 0 body_laws_toEntry = [] := by kernel_rfl
  rw [h]; intro p hp; cases hp
def S_laws_toEntry (fu : Nat) (xs : List (D RT den)) : Option (Out RT den) := match xs with | [.agg [.int .i64 a0_1, .int .i64 a0_2, .int .i64 a0_3, .int .i64 a0_5, .int .i64 a0_6, .int .i64 a0_7, .int .i64 a0_8, .int .i64 a0_9, .int .i64 a0_10]] => some ⟨S_impl_Entry, F_laws_toEntry fu (⟨a0_1, a0_2, a0_3, (⟨a0_5, a0_6, a0_7, a0_8, a0_9, a0_10⟩ : S_impl_Cmd)⟩ : S_laws_Entry), enc_impl_Entry, fun _ => true⟩ | _ => none
theorem hpc_laws_toEntry (fu : Nat) : ∀ f xs o, pc_laws_toEntry fu f xs = some o → ∀ y, o.x = some y → Good E Try.prog f xs (o.g y) := by
  intro f xs o h
  unfold pc_laws_toEntry at h
  split at h
  · exact good_laws_toCmd fu xs o h
  · cases h
theorem goodv_laws_toEntry (fu : Nat) (a_0 : S_laws_Entry) (y : S_impl_Entry) (hy : F_laws_toEntry fu a_0 = some y) : Good E Try.prog 15 [(.agg [(.int .i64 a_0.Term), (.int .i64 a_0.Client), (.int .i64 a_0.Seq), (.int .i64 a_0.Cmd.Kind), (.int .i64 a_0.Cmd.Expect), (.int .i64 a_0.Cmd.Name), (.int .i64 a_0.Cmd.Addr), (.int .i64 a_0.Cmd.Number), (.int .i64 a_0.Cmd.Proto)])] (enc_impl_Entry y) :=
  fun_good E_ok (pc_good (hpc_laws_toEntry fu)) (fn := Try.f15) (c := body_laws_toEntry) (out := out_impl_Entry) (y := y) (by kernel_rfl) (by kernel_rfl) (by kernel_rfl) (lpok_laws_toEntry fu) (fun d hd => out_impl_Entry_enc d _ hd) ((ev_laws_toEntry fu a_0).trans hy)
theorem good_laws_toEntry (fu : Nat) : ∀ xs o, S_laws_toEntry fu xs = some o → ∀ y, o.x = some y → Good E Try.prog 15 xs (o.g y) := by
  intro xs o h y hy
  unfold S_laws_toEntry at h
  split at h
  · rename_i a0_1 a0_2 a0_3 a0_5 a0_6 a0_7 a0_8 a0_9 a0_10
    cases h
    exact goodv_laws_toEntry fu (⟨a0_1, a0_2, a0_3, (⟨a0_5, a0_6, a0_7, a0_8, a0_9, a0_10⟩ : S_impl_Cmd)⟩ : S_laws_Entry) y hy
  · cases h

/-! laws.toEntryS -/
def F_laws_toEntryS_B0 {ρ : Type} (fu : Nat) (a0_0 : (Sl S_laws_Entry)) (out3_1 : Nat) (on0_3 : Nat) (k0 : (Nat → S_impl_Entry) → Option ρ) (i4_2 : Int) (of0_4 : (Nat → S_impl_Entry)) (go : Int → (Nat → S_impl_Entry) → Option ρ) : Option ρ :=
  (bif (decide (i4_2 < ((a0_0.n : Nat) : Int))) then ((bif (decide (0 ≤ i4_2) && decide ((Int.toNat i4_2) < a0_0.n)) then some () else none : Option Unit).bind fun _ =>
    ((F_laws_toEntry fu (a0_0.f (Int.toNat i4_2))).bind fun y13 => ((bif (decide (0 ≤ i4_2) && decide ((Int.toNat i4_2) < out3_1)) then some () else none : Option Unit).bind fun _ =>
    (go (IntKind.wrap .i64 (i4_2 + 1)) (fun j => if j = (Int.toNat i4_2) then y13 else of0_4 j))))) else (k0 of0_4))
def F_laws_toEntryS (fu : Nat) (a_0 : (Sl S_laws_Entry)) : Option ((Sl S_impl_Entry)) :=
  (bif (decide (0 ≤ ((a_0.n : Nat) : Int)) && (decide (((a_0.n : Nat) : Int) = ((a_0.n : Nat) : Int)) && (decide ((72 : Int) * ((a_0.n : Nat) : Int) ≤ 281474976710656) && decide (((a_0.n : Nat) : Int) ≤ 9223372036854775807)))) then
    (L (fun w0 go0 => F_laws_toEntryS_B0 fu a_0 (Int.toNat ((a_0.n : Nat) : Int)) (Int.toNat ((a_0.n : Nat) : Int)) (fun z14 => (some (⟨none, (Int.toNat ((a_0.n : Nat) : Int)), z14⟩ : (Sl S_impl_Entry)))) w0.1 w0.2 (fun q0 q1 =>
    go0 (q0, q1))) fu ((0, (fun _ => (⟨0, 0, 0, (⟨0, 0, 0, 0, 0, 0⟩ : S_impl_Cmd)⟩ : S_impl_Entry))) : Int × (Nat → S_impl_Entry))) else none)
def pc_laws_toEntryS (fu : Nat) : Pc RT den := fun f xs => match f with | 15 => S_laws_toEntry fu xs | _ => none
def msk_laws_toEntryS (b : Nat) : List Nat := match b with | 0 => [1, 2, 5, 6, 7, 8, 9, 10, 11, 12, 13, 14, 15, 16, 17, 18, 19, 20, 21, 22] | 100000 => [0, 1, 4, 5, 6, 7, 8, 9, 10, 11, 12, 13, 14, 15, 16, 17, 18, 19, 20, 21, 22] | _ => []
def ps_laws_toEntryS_0 : List (Pat RT) := [.flat (.rs .laws_Entry), .flat .dead, .flat .dead, .flat (.os 0), .flat (.int .i64), .flat .dead, .flat .dead, .flat .dead, .flat .dead, .flat .dead, .flat .dead, .flat .dead, .flat .dead, .flat .dead, .flat .dead, .flat .dead, .flat .dead, .flat .dead, .flat .dead, .flat .dead, .flat .dead, .flat .dead, .flat .dead]
def os_laws_toEntryS_0 : List (OP RT) := [.row .impl_Entry]
def conv_laws_toEntryS_0 (r : Raw den ps_laws_toEntryS_0 os_laws_toEntryS_0) : ((Sl S_laws_Entry) × Nat × Nat) × (Int × (Nat → S_impl_Entry)) := ((r.1.1, r.1.2.2.2.1, r.2.1.1), (r.1.2.2.2.2.1, r.2.1.2))
def back_laws_toEntryS_0 (c : (Sl S_laws_Entry) × Nat × Nat) (w : Int × (Nat → S_impl_Entry)) : St RT den := ⟨[(.rs c.1.z .laws_Entry c.1.n c.1.f), .dead, .dead, (.os 0 c.2.1), (.int .i64 w.1), .dead, .dead, .dead, .dead, .dead, .dead, .dead, .dead, .dead, .dead, .dead, .dead, .dead, .dead, .dead, .dead, .dead, .dead], [(.row .impl_Entry c.2.2 w.2)]⟩
def Bk_laws_toEntryS_0 {ρ : Type} (fu : Nat) (c : (Sl S_laws_Entry) × Nat × Nat) (k : Ex → St RT den → Option ρ) (w : Int × (Nat → S_impl_Entry)) (go : (Int × (Nat → S_impl_Entry)) → Option ρ) : Option ρ := F_laws_toEntryS_B0 fu c.1 c.2.1 c.2.2 (fun a0 => k (.exit 0) ⟨[.dead, .dead, .dead, (.os 0 c.2.1), .dead, .dead, .dead, .dead, .dead, .dead, .dead, .dead, .dead, .dead, .dead, .dead, .dead, .dead, .dead, .dead, .dead, .dead, .dead], [(.row .impl_Entry c.2.2 a0)]⟩) w.1 w.2 (fun q0 q1 => go (q0, q1))
def lp_laws_toEntryS (fu : Nat) : Lp RT den ((Sl S_impl_Entry)) := fun b s k => match b with | 0 => handle ps_laws_toEntryS_0 os_laws_toEntryS_0 conv_laws_toEntryS_0 (Bk_laws_toEntryS_0 fu) fu s k | _ => none
theorem ev_laws_toEntryS (fu : Nat) (a_0 : (Sl S_laws_Entry)) : evFun E (pc_laws_toEntryS fu) msk_laws_toEntryS (lp_laws_toEntryS fu) out_sl_impl_Entry 11 [(.rs a_0.z .laws_Entry a_0.n a_0.f)] = F_laws_toEntryS fu a_0 := by kernel_rfl
noncomputable def body_laws_toEntryS : Code := Try.f11.body.getD .skip
noncomputable def lc_laws_toEntryS_0 : Code := ((loops 0 body_laws_toEntryS).getD 0 (0, .skip)).2
theorem round_laws_toEntryS_0 (fu : Nat) (it : St RT den → Option ((Sl S_impl_Entry))) (k : Ex → St RT den → Option ((Sl S_impl_Entry))) c w : evCode E (pc_laws_toEntryS fu) msk_laws_toEntryS (lp_laws_toEntryS fu) 0 lc_laws_toEntryS_0 (back_laws_toEntryS_0 c w) (after (msk_laws_toEntryS 0) (msk_laws_toEntryS 100000) 1 it k) = Bk_laws_toEntryS_0 fu c k w (fun w => it (back_laws_toEntryS_0 c w)) := by kernel_rfl
theorem lpok_laws_toEntryS_0 (fu : Nat) : ∀ s k r, lp_laws_toEntryS fu 0 s k = some r → ∃ fuel, iter (msk_laws_toEntryS 0) (msk_laws_toEntryS 100000) s.objs.length (evCode E (pc_laws_toEntryS fu) msk_laws_toEntryS (lp_laws_toEntryS fu) 0 lc_laws_toEntryS_0) fuel s k = some r :=
  handle_ok (ps := ps_laws_toEntryS_0) (os := os_laws_toEntryS_0) (conv := conv_laws_toEntryS_0) (B := Bk_laws_toEntryS_0 fu) (fu := fu) back_laws_toEntryS_0 (fun raw => by kernel_rfl) 1 (fun c w => by kernel_rfl) (round_laws_toEntryS_0 fu)
theorem lpok_laws_toEntryS (fu : Nat) : LpOk E (pc_laws_toEntryS fu) msk_laws_toEntryS (lp_laws_toEntryS fu) (loops 0 body_laws_toEntryS) := loop_all 1 (by kernel_rfl) fun i hi => match i, hi with
  | 0, _ => by
    have h : (loops 0 body_laws_toEntryS).getD 0 (0, .skip) = (0, lc_laws_toEntryS_0) := by kernel_rfl
    rw [h]; exact lpok_laws_toEntryS_0 fu
  | i + 1, hi => absurd hi (by omega)
def S_laws_toEntryS (fu : Nat) (xs : List (D RT den)) : Option (Out RT den) := match xs with | [.rs za0_0 .laws_Entry na0_0 fa0_0] => some ⟨(Sl S_impl_Entry), F_laws_toEntryS fu (⟨za0_0, na0_0, fa0_0⟩ : (Sl S_laws_Entry)), enc_sl_impl_Entry, fun _ => true⟩ | _ => none
theorem hpc_laws_toEntryS (fu : Nat) : ∀ f xs o, pc_laws_toEntryS fu f xs = some o → ∀ y, o.x = some y → Good E Try.prog f xs (o.g y) := by
  intro f xs o h
  unfold pc_laws_toEntryS at h
  split at h
  · exact good_laws_toEntry fu xs o h
  · cases h
theorem goodv_laws_toEntryS (fu : Nat) (a_0 : (Sl S_laws_Entry)) (y : (Sl S_impl_Entry)) (hy : F_laws_toEntryS fu a_0 = some y) : Good E Try.prog 11 [(.rs a_0.z .laws_Entry a_0.n a_0.f)] (enc_sl_impl_Entry y) :=
  fun_good E_ok (pc_good (hpc_laws_toEntryS fu)) (fn := Try.f11) (c := body_laws_toEntryS) (out := out_sl_impl_Entry) (y := y) (by kernel_rfl) (by kernel_rfl) (by kernel_rfl) (lpok_laws_toEntryS fu) (fun d hd => out_sl_impl_Entry_enc d _ hd) ((ev_laws_toEntryS fu a_0).trans hy)
theorem good_laws_toEntryS (fu : Nat) : ∀ xs o, S_laws_toEntryS fu xs = some o → ∀ y, o.x = some y → Good E Try.prog 11 xs (o.g y) := by
  intro xs o h y hy
  unfold S_laws_toEntryS at h
  split at h
  · rename_i za0_0 na0_0 fa0_0
    cases h
    exact goodv_laws_toEntryS fu (⟨za0_0, na0_0, fa0_0⟩ : (Sl S_laws_Entry)) y hy
  · cases h

/-! spec.CommonOf -/
def F_spec_CommonOf_B0 {ρ : Type} (fu : Nat) (a0_0 : (Sl S_impl_Entry)) (b1_1 : (Sl S_impl_Entry)) (k0 : Int → Option ρ) (n5_2 : Int) (go : Int → Option ρ) : Option ρ :=
  (((bif (decide (n5_2 < ((a0_0.n : Nat) : Int))) then (bif (decide (n5_2 < ((b1_1.n : Nat) : Int))) then ((bif (decide (0 ≤ n5_2) && decide ((Int.toNat n5_2) < a0_0.n)) then some () else
    none : Option Unit).bind fun _ => ((bif (decide (0 ≤ n5_2) && decide ((Int.toNat n5_2) < b1_1.n)) then some () else none : Option Unit).bind fun _ => (some (((a0_0.f (Int.toNat n5_2)).Term == (b1_1.f (Int.toNat n5_2)).Term) &&
    (((a0_0.f (Int.toNat n5_2)).Client == (b1_1.f (Int.toNat n5_2)).Client) && (((a0_0.f (Int.toNat n5_2)).Seq == (b1_1.f (Int.toNat n5_2)).Seq) && (((a0_0.f (Int.toNat n5_2)).Cmd.Kind == (b1_1.f (Int.toNat n5_2)).Cmd.Kind) &&
    (((a0_0.f (Int.toNat n5_2)).Cmd.Expect == (b1_1.f (Int.toNat n5_2)).Cmd.Expect) && (((a0_0.f (Int.toNat n5_2)).Cmd.Name == (b1_1.f (Int.toNat n5_2)).Cmd.Name) && (((a0_0.f (Int.toNat n5_2)).Cmd.Addr == (b1_1.f (Int.toNat n5_2)).Cmd.Addr) &&
    (((a0_0.f (Int.toNat n5_2)).Cmd.Number == (b1_1.f (Int.toNat n5_2)).Cmd.Number) && (((a0_0.f (Int.toNat n5_2)).Cmd.Proto == (b1_1.f (Int.toNat n5_2)).Cmd.Proto) &&
    true)))))))))))) else (some false)) else (some false)) : Option Bool).bind fun m16 => (bif m16 then (go (IntKind.wrap .i64 (n5_2 + 1))) else (k0 n5_2)))
def F_spec_CommonOf (fu : Nat) (a_0 : (Sl S_impl_Entry)) (b_1 : (Sl S_impl_Entry)) : Option (Int) :=
  (L (fun w0 go0 => F_spec_CommonOf_B0 fu a_0 b_1 (fun z17 => (some z17)) w0 go0) fu (0 : Int))
def pc_spec_CommonOf (fu : Nat) : Pc RT den := fun f xs => none
def msk_spec_CommonOf (b : Nat) : List Nat := match b with | 0 => [2, 3, 4, 6, 7, 8, 9, 10, 11, 12, 13, 14, 15, 16, 17, 18, 19, 20, 21, 22, 23, 24, 25, 26, 27, 28, 29] | 100000 => [0, 1, 2, 3, 6, 7, 8, 9, 10, 11, 12, 13, 14, 15, 16, 17, 18, 19, 20, 21, 22, 23, 24, 25, 26, 27, 28, 29] | 200002 => [26] | _ => []
def ps_spec_CommonOf_0 : List (Pat RT) := [.flat (.rs .impl_Entry), .flat (.rs .impl_Entry), .flat .dead, .flat .dead, .flat .dead, .flat (.int .i64), .flat .dead, .flat .dead, .flat .dead, .flat .dead, .flat .dead, .flat .dead, .flat .dead, .flat .dead, .flat .dead, .flat .dead, .flat .dead, .flat .dead, .flat .dead, .flat .dead, .flat .dead, .flat .dead, .flat .dead, .flat .dead, .flat .dead, .flat .dead, .flat .dead, .flat .dead, .flat .dead, .flat .dead]
def os_spec_CommonOf_0 : List (OP RT) := []
def conv_spec_CommonOf_0 (r : Raw den ps_spec_CommonOf_0 os_spec_CommonOf_0) : ((Sl S_impl_Entry) × (Sl S_impl_Entry)) × (Int) := ((r.1.1, r.1.2.1), r.1.2.2.2.2.2.1)
def back_spec_CommonOf_0 (c : (Sl S_impl_Entry) × (Sl S_impl_Entry)) (w : Int) : St RT den := ⟨[(.rs c.1.z .impl_Entry c.1.n c.1.f), (.rs c.2.z .impl_Entry c.2.n c.2.f), .dead, .dead, .dead, (.int .i64 w), .dead, .dead, .dead, .dead, .dead, .dead, .dead, .dead, .dead, .dead, .dead, .dead, .dead, .dead, .dead, .dead, .dead, .dead, .dead, .dead, .dead, .dead, .dead, .dead], []⟩
def Bk_spec_CommonOf_0 {ρ : Type} (fu : Nat) (c : (Sl S_impl_Entry) × (Sl S_impl_Entry)) (k : Ex → St RT den → Option ρ) (w : Int) (go : (Int) → Option ρ) : Option ρ := F_spec_CommonOf_B0 fu c.1 c.2 (fun a0 => k (.exit 0) ⟨[.dead, .dead, .dead, .dead, .dead, (.int .i64 a0), .dead, .dead, .dead, .dead, .dead, .dead, .dead, .dead, .dead, .dead, .dead, .dead, .dead, .dead, .dead, .dead, .dead, .dead, .dead, .dead, .dead, .dead, .dead, .dead], []⟩) w go
def lp_spec_CommonOf (fu : Nat) : Lp RT den (Int) := fun b s k => match b with | 0 => handle ps_spec_CommonOf_0 os_spec_CommonOf_0 conv_spec_CommonOf_0 (Bk_spec_CommonOf_0 fu) fu s k | _ => none
theorem ev_spec_CommonOf (fu : Nat) (a_0 : (Sl S_impl_Entry)) (b_1 : (Sl S_impl_Entry)) : evFun E (pc_spec_CommonOf fu) msk_spec_CommonOf (lp_spec_CommonOf fu) out_i64 10 [(.rs a_0.z .impl_Entry a_0.n a_0.f), (.rs b_1.z .impl_Entry b_1.n b_1.f)] = F_spec_CommonOf fu a_0 b_1 := by kernel_rfl
noncomputable def body_spec_CommonOf : Code := Try.f10.body.getD .skip
noncomputable def lc_spec_CommonOf_0 : Code := ((loops 0 body_spec_CommonOf).getD 0 (0, .skip)).2
theorem round_spec_CommonOf_0 (fu : Nat) (it : St RT den → Option (Int)) (k : Ex → St RT den → Option (Int)) c w : evCode E (pc_spec_CommonOf fu) msk_spec_CommonOf (lp_spec_CommonOf fu) 0 lc_spec_CommonOf_0 (back_spec_CommonOf_0 c w) (after (msk_spec_CommonOf 0) (msk_spec_CommonOf 100000) 0 it k) = Bk_spec_CommonOf_0 fu c k w (fun w => it (back_spec_CommonOf_0 c w)) := by kernel_rfl
theorem lpok_spec_CommonOf_0 (fu : Nat) : ∀ s k r, lp_spec_CommonOf fu 0 s k = some r → ∃ fuel, iter (msk_spec_CommonOf 0) (msk_spec_CommonOf 100000) s.objs.length (evCode E (pc_spec_CommonOf fu) msk_spec_CommonOf (lp_spec_CommonOf fu) 0 lc_spec_CommonOf_0) fuel s k = some r :=
  handle_ok (ps := ps_spec_CommonOf_0) (os := os_spec_CommonOf_0) (conv := conv_spec_CommonOf_0) (B := Bk_spec_CommonOf_0 fu) (fu := fu) back_spec_CommonOf_0 (fun raw => by kernel_rfl) 0 (fun c w => by kernel_rfl) (round_spec_CommonOf_0 fu)
theorem lpok_spec_CommonOf (fu : Nat) : LpOk E (pc_spec_CommonOf fu) msk_spec_CommonOf (lp_spec_CommonOf fu) (loops 0 body_spec_CommonOf) := loop_all 1 (by kernel_rfl) fun i hi => match i, hi with
  | 0, _ => by
    have h : (loops 0 body_spec_CommonOf).getD 0 (0, .skip) = (0, lc_spec_CommonOf_0) := by kernel_rfl
    rw [h]; exact lpok_spec_CommonOf_0 fu
  | i + 1, hi => absurd hi (by omega)
def S_spec_CommonOf (fu : Nat) (xs : List (D RT den)) : Option (Out RT den) := match xs with | [.rs za0_0 .impl_Entry na0_0 fa0_0, .rs za1_0 .impl_Entry na1_0 fa1_0] => some ⟨Int, F_spec_CommonOf fu (⟨za0_0, na0_0, fa0_0⟩ : (Sl S_impl_Entry)) (⟨za1_0, na1_0, fa1_0⟩ : (Sl S_impl_Entry)), enc_i64, fun _ => true⟩ | _ => none
theorem hpc_spec_CommonOf (fu : Nat) : ∀ f xs o, pc_spec_CommonOf fu f xs = some o → ∀ y, o.x = some y → Good E Try.prog f xs (o.g y) := by
  intro f xs o h
  cases h
theorem goodv_spec_CommonOf (fu : Nat) (a_0 : (Sl S_impl_Entry)) (b_1 : (Sl S_impl_Entry)) (y : Int) (hy : F_spec_CommonOf fu a_0 b_1 = some y) : Good E Try.prog 10 [(.rs a_0.z .impl_Entry a_0.n a_0.f), (.rs b_1.z .impl_Entry b_1.n b_1.f)] (enc_i64 y) :=
  fun_good E_ok (pc_good (hpc_spec_CommonOf fu)) (fn := Try.f10) (c := body_spec_CommonOf) (out := out_i64) (y := y) (by kernel_rfl) (by kernel_rfl) (by kernel_rfl) (lpok_spec_CommonOf fu) (fun d hd => out_i64_enc d _ hd) ((ev_spec_CommonOf fu a_0 b_1).trans hy)
theorem good_spec_CommonOf (fu : Nat) : ∀ xs o, S_spec_CommonOf fu xs = some o → ∀ y, o.x = some y → Good E Try.prog 10 xs (o.g y) := by
  intro xs o h y hy
  unfold S_spec_CommonOf at h
  split at h
  · rename_i za0_0 na0_0 fa0_0 za1_0 na1_0 fa1_0
    cases h
    exact goodv_spec_CommonOf fu (⟨za0_0, na0_0, fa0_0⟩ : (Sl S_impl_Entry)) (⟨za1_0, na1_0, fa1_0⟩ : (Sl S_impl_Entry)) y hy
  · cases h

/-! impl.CommonOf -/
def F_impl_CommonOf_B0 {ρ : Type} (fu : Nat) (a0_0 : (Sl S_impl_Entry)) (b1_1 : (Sl S_impl_Entry)) (k0 : Int → Option ρ) (n5_2 : Int) (go : Int → Option ρ) : Option ρ :=
  (((bif (decide (n5_2 < (minInt ((a0_0.n : Nat) : Int) ((b1_1.n : Nat) : Int)))) then ((bif (decide (0 ≤ n5_2) && decide ((Int.toNat n5_2) < a0_0.n)) then some () else none : Option Unit).bind fun _ =>
    ((bif (decide (0 ≤ n5_2) && decide ((Int.toNat n5_2) < b1_1.n)) then some () else none : Option Unit).bind fun _ => (some (((a0_0.f (Int.toNat n5_2)).Term == (b1_1.f (Int.toNat n5_2)).Term) &&
    (((a0_0.f (Int.toNat n5_2)).Client == (b1_1.f (Int.toNat n5_2)).Client) && (((a0_0.f (Int.toNat n5_2)).Seq == (b1_1.f (Int.toNat n5_2)).Seq) && (((a0_0.f (Int.toNat n5_2)).Cmd.Kind == (b1_1.f (Int.toNat n5_2)).Cmd.Kind) &&
    (((a0_0.f (Int.toNat n5_2)).Cmd.Expect == (b1_1.f (Int.toNat n5_2)).Cmd.Expect) && (((a0_0.f (Int.toNat n5_2)).Cmd.Name == (b1_1.f (Int.toNat n5_2)).Cmd.Name) && (((a0_0.f (Int.toNat n5_2)).Cmd.Addr == (b1_1.f (Int.toNat n5_2)).Cmd.Addr) &&
    (((a0_0.f (Int.toNat n5_2)).Cmd.Number == (b1_1.f (Int.toNat n5_2)).Cmd.Number) && (((a0_0.f (Int.toNat n5_2)).Cmd.Proto == (b1_1.f (Int.toNat n5_2)).Cmd.Proto) &&
    true)))))))))))) else (some false)) : Option Bool).bind fun m18 => (bif m18 then (go (IntKind.wrap .i64 (n5_2 + 1))) else (k0 n5_2)))
def F_impl_CommonOf (fu : Nat) (a_0 : (Sl S_impl_Entry)) (b_1 : (Sl S_impl_Entry)) : Option (Int) :=
  (L (fun w0 go0 => F_impl_CommonOf_B0 fu a_0 b_1 (fun z19 => (some z19)) w0 go0) fu (0 : Int))
def pc_impl_CommonOf (fu : Nat) : Pc RT den := fun f xs => none
def msk_impl_CommonOf (b : Nat) : List Nat := match b with | 0 => [2, 3, 4, 6, 7, 8, 9, 10, 11, 12, 13, 14, 15, 16, 17, 18, 19, 20, 21, 22, 23, 24, 25, 26] | 100000 => [0, 1, 2, 3, 6, 7, 8, 9, 10, 11, 12, 13, 14, 15, 16, 17, 18, 19, 20, 21, 22, 23, 24, 25, 26] | 200002 => [23] | _ => []
def ps_impl_CommonOf_0 : List (Pat RT) := [.flat (.rs .impl_Entry), .flat (.rs .impl_Entry), .flat .dead, .flat .dead, .flat .dead, .flat (.int .i64), .flat .dead, .flat .dead, .flat .dead, .flat .dead, .flat .dead, .flat .dead, .flat .dead, .flat .dead, .flat .dead, .flat .dead, .flat .dead, .flat .dead, .flat .dead, .flat .dead, .flat .dead, .flat .dead, .flat .dead, .flat .dead, .flat .dead, .flat .dead, .flat .dead]
def os_impl_CommonOf_0 : List (OP RT) := []
def conv_impl_CommonOf_0 (r : Raw den ps_impl_CommonOf_0 os_impl_CommonOf_0) : ((Sl S_impl_Entry) × (Sl S_impl_Entry)) × (Int) := ((r.1.1, r.1.2.1), r.1.2.2.2.2.2.1)
def back_impl_CommonOf_0 (c : (Sl S_impl_Entry) × (Sl S_impl_Entry)) (w : Int) : St RT den := ⟨[(.rs c.1.z .impl_Entry c.1.n c.1.f), (.rs c.2.z .impl_Entry c.2.n c.2.f), .dead, .dead, .dead, (.int .i64 w), .dead, .dead, .dead, .dead, .dead, .dead, .dead, .dead, .dead, .dead, .dead, .dead, .dead, .dead, .dead, .dead, .dead, .dead, .dead, .dead, .dead], []⟩
def Bk_impl_CommonOf_0 {ρ : Type} (fu : Nat) (c : (Sl S_impl_Entry) × (Sl S_impl_Entry)) (k : Ex → St RT den → Option ρ) (w : Int) (go : (Int) → Option ρ) : Option ρ := F_impl_CommonOf_B0 fu c.1 c.2 (fun a0 => k (.exit 0) ⟨[.dead, .dead, .dead, .dead, .dead, (.int .i64 a0), .dead, .dead, .dead, .dead, .dead, .dead, .dead, .dead, .dead, .dead, .dead, .dead, .dead, .dead, .dead, .dead, .dead, .dead, .dead, .dead, .dead], []⟩) w go
def lp_impl_CommonOf (fu : Nat) : Lp RT den (Int) := fun b s k => match b with | 0 => handle ps_impl_CommonOf_0 os_impl_CommonOf_0 conv_impl_CommonOf_0 (Bk_impl_CommonOf_0 fu) fu s k | _ => none
theorem ev_impl_CommonOf (fu : Nat) (a_0 : (Sl S_impl_Entry)) (b_1 : (Sl S_impl_Entry)) : evFun E (pc_impl_CommonOf fu) msk_impl_CommonOf (lp_impl_CommonOf fu) out_i64 12 [(.rs a_0.z .impl_Entry a_0.n a_0.f), (.rs b_1.z .impl_Entry b_1.n b_1.f)] = F_impl_CommonOf fu a_0 b_1 := by kernel_rfl
noncomputable def body_impl_CommonOf : Code := Try.f12.body.getD .skip
noncomputable def lc_impl_CommonOf_0 : Code := ((loops 0 body_impl_CommonOf).getD 0 (0, .skip)).2
theorem round_impl_CommonOf_0 (fu : Nat) (it : St RT den → Option (Int)) (k : Ex → St RT den → Option (Int)) c w : evCode E (pc_impl_CommonOf fu) msk_impl_CommonOf (lp_impl_CommonOf fu) 0 lc_impl_CommonOf_0 (back_impl_CommonOf_0 c w) (after (msk_impl_CommonOf 0) (msk_impl_CommonOf 100000) 0 it k) = Bk_impl_CommonOf_0 fu c k w (fun w => it (back_impl_CommonOf_0 c w)) := by kernel_rfl
theorem lpok_impl_CommonOf_0 (fu : Nat) : ∀ s k r, lp_impl_CommonOf fu 0 s k = some r → ∃ fuel, iter (msk_impl_CommonOf 0) (msk_impl_CommonOf 100000) s.objs.length (evCode E (pc_impl_CommonOf fu) msk_impl_CommonOf (lp_impl_CommonOf fu) 0 lc_impl_CommonOf_0) fuel s k = some r :=
  handle_ok (ps := ps_impl_CommonOf_0) (os := os_impl_CommonOf_0) (conv := conv_impl_CommonOf_0) (B := Bk_impl_CommonOf_0 fu) (fu := fu) back_impl_CommonOf_0 (fun raw => by kernel_rfl) 0 (fun c w => by kernel_rfl) (round_impl_CommonOf_0 fu)
theorem lpok_impl_CommonOf (fu : Nat) : LpOk E (pc_impl_CommonOf fu) msk_impl_CommonOf (lp_impl_CommonOf fu) (loops 0 body_impl_CommonOf) := loop_all 1 (by kernel_rfl) fun i hi => match i, hi with
  | 0, _ => by
    have h : (loops 0 body_impl_CommonOf).getD 0 (0, .skip) = (0, lc_impl_CommonOf_0) := by kernel_rfl
    rw [h]; exact lpok_impl_CommonOf_0 fu
  | i + 1, hi => absurd hi (by omega)
def S_impl_CommonOf (fu : Nat) (xs : List (D RT den)) : Option (Out RT den) := match xs with | [.rs za0_0 .impl_Entry na0_0 fa0_0, .rs za1_0 .impl_Entry na1_0 fa1_0] => some ⟨Int, F_impl_CommonOf fu (⟨za0_0, na0_0, fa0_0⟩ : (Sl S_impl_Entry)) (⟨za1_0, na1_0, fa1_0⟩ : (Sl S_impl_Entry)), enc_i64, fun _ => true⟩ | _ => none
theorem hpc_impl_CommonOf (fu : Nat) : ∀ f xs o, pc_impl_CommonOf fu f xs = some o → ∀ y, o.x = some y → Good E Try.prog f xs (o.g y) := by
  intro f xs o h
  cases h
theorem goodv_impl_CommonOf (fu : Nat) (a_0 : (Sl S_impl_Entry)) (b_1 : (Sl S_impl_Entry)) (y : Int) (hy : F_impl_CommonOf fu a_0 b_1 = some y) : Good E Try.prog 12 [(.rs a_0.z .impl_Entry a_0.n a_0.f), (.rs b_1.z .impl_Entry b_1.n b_1.f)] (enc_i64 y) :=
  fun_good E_ok (pc_good (hpc_impl_CommonOf fu)) (fn := Try.f12) (c := body_impl_CommonOf) (out := out_i64) (y := y) (by kernel_rfl) (by kernel_rfl) (by kernel_rfl) (lpok_impl_CommonOf fu) (fun d hd => out_i64_enc d _ hd) ((ev_impl_CommonOf fu a_0 b_1).trans hy)
theorem good_impl_CommonOf (fu : Nat) : ∀ xs o, S_impl_CommonOf fu xs = some o → ∀ y, o.x = some y → Good E Try.prog 12 xs (o.g y) := by
  intro xs o h y hy
  unfold S_impl_CommonOf at h
  split at h
  · rename_i za0_0 na0_0 fa0_0 za1_0 na1_0 fa1_0
    cases h
    exact goodv_impl_CommonOf fu (⟨za0_0, na0_0, fa0_0⟩ : (Sl S_impl_Entry)) (⟨za1_0, na1_0, fa1_0⟩ : (Sl S_impl_Entry)) y hy
  · cases h

/-! laws.eqCmd -/
def F_laws_eqCmd (fu : Nat) (a_0 : S_impl_Cmd) (b_1 : S_impl_Cmd) : Option (Bool) :=
  (bif (a_0.Kind != b_1.Kind) then (some false) else (bif (a_0.Expect != b_1.Expect) then (some false) else (bif (a_0.Name != b_1.Name) then (some false) else (bif (a_0.Addr != b_1.Addr) then
    (some false) else (bif (a_0.Number != b_1.Number) then (some false) else (bif (a_0.Proto != b_1.Proto) then (some false) else (some true)))))))
def pc_laws_eqCmd (fu : Nat) : Pc RT den := fun f xs => none
def msk_laws_eqCmd (b : Nat) : List Nat := []
def lp_laws_eqCmd (fu : Nat) : Lp RT den (Bool) := fun b s k => none
theorem ev_laws_eqCmd (fu : Nat) (a_0 : S_impl_Cmd) (b_1 : S_impl_Cmd) : evFun E (pc_laws_eqCmd fu) msk_laws_eqCmd (lp_laws_eqCmd fu) out_b 49 [(.agg [(.int .i64 a_0.Kind), (.int .i64 a_0.Expect), (.int .i64 a_0.Name), (.int .i64 a_0.Addr), (.int .i64 a_0.Number), (.int .i64 a_0.Proto)]), (.agg [(.int .i64 b_1.Kind), (.int .i64 b_1.Expect), (.int .i64 b_1.Name), (.int .i64 b_1.Addr), (.int .i64 b_1.Number), (.int .i64 b_1.Proto)])] = F_laws_eqCmd fu a_0 b_1 := by kernel_rfl
noncomputable def body_laws_eqCmd : Code := Try.f49.body.getD .skip
theorem lpok_laws_eqCmd (fu : Nat) : LpOk E (pc_laws_eqCmd fu) msk_laws_eqCmd (lp_laws_eqCmd fu) (loops 0 body_laws_eqCmd) := by
  have h : loops 0 body_laws_eqCmd = [] := by kernel_rfl
  rw [h]; intro p hp; cases hp
def S_laws_eqCmd (fu : Nat) (xs : List (D RT den)) : Option (Out RT den) := match xs with | [.agg [.int .i64 a0_1, .int .i64 a0_2, .int .i64 a0_3, .int .i64 a0_4, .int .i64 a0_5, .int .i64 a0_6], .agg [.int .i64 a1_1, .int .i64 a1_2, .int .i64 a1_3, .int .i64 a1_4, .int .i64 a1_5, .int .i64 a1_6]] => some ⟨Bool, F_laws_eqCmd fu (⟨a0_1, a0_2, a0_3, a0_4, a0_5, a0_6⟩ : S_impl_Cmd) (⟨a1_1, a1_2, a1_3, a1_4, a1_5, a1_6⟩ : S_impl_Cmd), enc_b, fun _ => true⟩ | _ => none
theorem hpc_laws_eqCmd (fu : Nat) : ∀ f xs o, pc_laws_eqCmd fu f xs = some o → ∀ y, o.x = some y → Good E Try.prog f xs (o.g y) := by
  intro f xs o h
  cases h
theorem goodv_laws_eqCmd (fu : Nat) (a_0 : S_impl_Cmd) (b_1 : S_impl_Cmd) (y : Bool) (hy : F_laws_eqCmd fu a_0 b_1 = some y) : Good E Try.prog 49 [(.agg [(.int .i64 a_0.Kind), (.int .i64 a_0.Expect), (.int .i64 a_0.Name), (.int .i64 a_0.Addr), (.int .i64 a_0.Number), (.int .i64 a_0.Proto)]), (.agg [(.int .i64 b_1.Kind), (.int .i64 b_1.Expect), (.int .i64 b_1.Name), (.int .i64 b_1.Addr), (.int .i64 b_1.Number), (.int .i64 b_1.Proto)])] (enc_b y) :=
  fun_good E_ok (pc_good (hpc_laws_eqCmd fu)) (fn := Try.f49) (c := body_laws_eqCmd) (out := out_b) (y := y) (by kernel_rfl) (by kernel_rfl) (by kernel_rfl) (lpok_laws_eqCmd fu) (fun d hd => out_b_enc d _ hd) ((ev_laws_eqCmd fu a_0 b_1).trans hy)
theorem good_laws_eqCmd (fu : Nat) : ∀ xs o, S_laws_eqCmd fu xs = some o → ∀ y, o.x = some y → Good E Try.prog 49 xs (o.g y) := by
  intro xs o h y hy
  unfold S_laws_eqCmd at h
  split at h
  · rename_i a0_1 a0_2 a0_3 a0_4 a0_5 a0_6 a1_1 a1_2 a1_3 a1_4 a1_5 a1_6
    cases h
    exact goodv_laws_eqCmd fu (⟨a0_1, a0_2, a0_3, a0_4, a0_5, a0_6⟩ : S_impl_Cmd) (⟨a1_1, a1_2, a1_3, a1_4, a1_5, a1_6⟩ : S_impl_Cmd) y hy
  · cases h

/-! laws.eqEntry -/
def F_laws_eqEntry (fu : Nat) (a_0 : S_impl_Entry) (b_1 : S_impl_Entry) : Option (Bool) :=
  (bif (a_0.Term != b_1.Term) then (some false) else (bif (a_0.Client != b_1.Client) then (some false) else (bif (a_0.Seq != b_1.Seq) then (some false) else ((F_laws_eqCmd fu a_0.Cmd b_1.Cmd).bind fun y21 =>
    (bif (!y21) then (some false) else (some true))))))
def pc_laws_eqEntry (fu : Nat) : Pc RT den := fun f xs => match f with | 49 => S_laws_eqCmd fu xs | _ => none
def msk_laws_eqEntry (b : Nat) : List Nat := []
def lp_laws_eqEntry (fu : Nat) : Lp RT den (Bool) := fun b s k => none
theorem ev_laws_eqEntry (fu : Nat) (a_0 : S_impl_Entry) (b_1 : S_impl_Entry) : evFun E (pc_laws_eqEntry fu) msk_laws_eqEntry (lp_laws_eqEntry fu) out_b 28 [(.agg [(.int .i64 a_0.Term), (.int .i64 a_0.Client), (.int .i64 a_0.Seq), (.int .i64 a_0.Cmd.Kind), (.int .i64 a_0.Cmd.Expect), (.int .i64 a_0.Cmd.Name), (.int .i64 a_0.Cmd.Addr), (.int .i64 a_0.Cmd.Number), (.int .i64 a_0.Cmd.Proto)]), (.agg [(.int .i64 b_1.Term), (.int .i64 b_1.Client), (.int .i64 b_1.Seq), (.int .i64 b_1.Cmd.Kind), (.int .i64 b_1.Cmd.Expect), (.int .i64 b_1.Cmd.Name), (.int .i64 b_1.Cmd.Addr), (.int .i64 b_1.Cmd.Number), (.int .i64 b_1.Cmd.Proto)])] = F_laws_eqEntry fu a_0 b_1 := by kernel_rfl
noncomputable def body_laws_eqEntry : Code := Try.f28.body.getD .skip
theorem lpok_laws_eqEntry (fu : Nat) : LpOk E (pc_laws_eqEntry fu) msk_laws_eqEntry (lp_laws_eqEntry fu) (loops 0 body_laws_eqEntry) := by
  have h : loops 0 body_laws_eqEntry = [] := by kernel_rfl
  rw [h]; intro p hp; cases hp
def S_laws_eqEntry (fu : Nat) (xs : List (D RT den)) : Option (Out RT den) := match xs with | [.agg [.int .i64 a0_1, .int .i64 a0_2, .int .i64 a0_3, .int .i64 a0_5, .int .i64 a0_6, .int .i64 a0_7, .int .i64 a0_8, .int .i64 a0_9, .int .i64 a0_10], .agg [.int .i64 a1_1, .int .i64 a1_2, .int .i64 a1_3, .int .i64 a1_5, .int .i64 a1_6, .int .i64 a1_7, .int .i64 a1_8, .int .i64 a1_9, .int .i64 a1_10]] => some ⟨Bool, F_laws_eqEntry fu (⟨a0_1, a0_2, a0_3, (⟨a0_5, a0_6, a0_7, a0_8, a0_9, a0_10⟩ : S_impl_Cmd)⟩ : S_impl_Entry) (⟨a1_1, a1_2, a1_3, (⟨a1_5, a1_6, a1_7, a1_8, a1_9, a1_10⟩ : S_impl_Cmd)⟩ : S_impl_Entry), enc_b, fun _ => true⟩ | _ => none
theorem hpc_laws_eqEntry (fu : Nat) : ∀ f xs o, pc_laws_eqEntry fu f xs = some o → ∀ y, o.x = some y → Good E Try.prog f xs (o.g y) := by
  intro f xs o h
  unfold pc_laws_eqEntry at h
  split at h
  · exact good_laws_eqCmd fu xs o h
  · cases h
theorem goodv_laws_eqEntry (fu : Nat) (a_0 : S_impl_Entry) (b_1 : S_impl_Entry) (y : Bool) (hy : F_laws_eqEntry fu a_0 b_1 = some y) : Good E Try.prog 28 [(.agg [(.int .i64 a_0.Term), (.int .i64 a_0.Client), (.int .i64 a_0.Seq), (.int .i64 a_0.Cmd.Kind), (.int .i64 a_0.Cmd.Expect), (.int .i64 a_0.Cmd.Name), (.int .i64 a_0.Cmd.Addr), (.int .i64 a_0.Cmd.Number), (.int .i64 a_0.Cmd.Proto)]), (.agg [(.int .i64 b_1.Term), (.int .i64 b_1.Client), (.int .i64 b_1.Seq), (.int .i64 b_1.Cmd.Kind), (.int .i64 b_1.Cmd.Expect), (.int .i64 b_1.Cmd.Name), (.int .i64 b_1.Cmd.Addr), (.int .i64 b_1.Cmd.Number), (.int .i64 b_1.Cmd.Proto)])] (enc_b y) :=
  fun_good E_ok (pc_good (hpc_laws_eqEntry fu)) (fn := Try.f28) (c := body_laws_eqEntry) (out := out_b) (y := y) (by kernel_rfl) (by kernel_rfl) (by kernel_rfl) (lpok_laws_eqEntry fu) (fun d hd => out_b_enc d _ hd) ((ev_laws_eqEntry fu a_0 b_1).trans hy)
theorem good_laws_eqEntry (fu : Nat) : ∀ xs o, S_laws_eqEntry fu xs = some o → ∀ y, o.x = some y → Good E Try.prog 28 xs (o.g y) := by
  intro xs o h y hy
  unfold S_laws_eqEntry at h
  split at h
  · rename_i a0_1 a0_2 a0_3 a0_5 a0_6 a0_7 a0_8 a0_9 a0_10 a1_1 a1_2 a1_3 a1_5 a1_6 a1_7 a1_8 a1_9 a1_10
    cases h
    exact goodv_laws_eqEntry fu (⟨a0_1, a0_2, a0_3, (⟨a0_5, a0_6, a0_7, a0_8, a0_9, a0_10⟩ : S_impl_Cmd)⟩ : S_impl_Entry) (⟨a1_1, a1_2, a1_3, (⟨a1_5, a1_6, a1_7, a1_8, a1_9, a1_10⟩ : S_impl_Cmd)⟩ : S_impl_Entry) y hy
  · cases h

/-! laws.eqEntryS -/
def F_laws_eqEntryS_B0 {ρ : Type} (fu : Nat) (a0_0 : (Sl S_impl_Entry)) (b1_1 : (Sl S_impl_Entry)) (k0 : Option ρ) (k1 : Option ρ) (i5_2 : Int) (go : Int → Option ρ) : Option ρ :=
  (bif (decide (i5_2 < ((a0_0.n : Nat) : Int))) then ((bif (decide (0 ≤ i5_2) && decide ((Int.toNat i5_2) < a0_0.n)) then some () else none : Option Unit).bind fun _ => ((bif (decide (0 ≤ i5_2) &&
    decide ((Int.toNat i5_2) < b1_1.n)) then some () else none : Option Unit).bind fun _ => ((F_laws_eqEntry fu (a0_0.f (Int.toNat i5_2)) (b1_1.f (Int.toNat i5_2))).bind fun y20 =>
    (bif (!y20) then k0 else (go (IntKind.wrap .i64 (i5_2 + 1))))))) else k1)
def F_laws_eqEntryS (fu : Nat) (a_0 : (Sl S_impl_Entry)) (b_1 : (Sl S_impl_Entry)) : Option (Bool) :=
  (bif (((a_0.n : Nat) : Int) != ((b_1.n : Nat) : Int)) then (some false) else (L (fun w0 go0 => F_laws_eqEntryS_B0 fu a_0 b_1 (some false) (some true) w0 go0) fu (0 : Int)))
def pc_laws_eqEntryS (fu : Nat) : Pc RT den := fun f xs => match f with | 28 => S_laws_eqEntry fu xs | _ => none
def msk_laws_eqEntryS (b : Nat) : List Nat := match b with | 0 => [2, 3, 4, 6, 7, 8, 9, 10, 11, 12, 13, 14, 15, 16, 17, 18, 19, 20, 21, 22, 23, 24, 25, 26] | 100000 => [0, 1, 2, 3, 5, 6, 7, 8, 9, 10, 11, 12, 13, 14, 15, 16, 17, 18, 19, 20, 21, 22, 23, 24, 25, 26] | _ => []
def ps_laws_eqEntryS_0 : List (Pat RT) := [.flat (.rs .impl_Entry), .flat (.rs .impl_Entry), .flat .dead, .flat .dead, .flat .dead, .flat (.int .i64), .flat .dead, .flat .dead, .flat .dead, .flat .dead, .flat .dead, .flat .dead, .flat .dead, .flat .dead, .flat .dead, .flat .dead, .flat .dead, .flat .dead, .flat .dead, .flat .dead, .flat .dead, .flat .dead, .flat .dead, .flat .dead, .flat .dead, .flat .dead, .flat .dead]
def os_laws_eqEntryS_0 : List (OP RT) := []
def conv_laws_eqEntryS_0 (r : Raw den ps_laws_eqEntryS_0 os_laws_eqEntryS_0) : ((Sl S_impl_Entry) × (Sl S_impl_Entry)) × (Int) := ((r.1.1, r.1.2.1), r.1.2.2.2.2.2.1)
def back_laws_eqEntryS_0 (c : (Sl S_impl_Entry) × (Sl S_impl_Entry)) (w : Int) : St RT den := ⟨[(.rs c.1.z .impl_Entry c.1.n c.1.f), (.rs c.2.z .impl_Entry c.2.n c.2.f), .dead, .dead, .dead, (.int .i64 w), .dead, .dead, .dead, .dead, .dead, .dead, .dead, .dead, .dead, .dead, .dead, .dead, .dead, .dead, .dead, .dead, .dead, .dead, .dead, .dead, .dead], []⟩
def Bk_laws_eqEntryS_0 {ρ : Type} (fu : Nat) (c : (Sl S_impl_Entry) × (Sl S_impl_Entry)) (k : Ex → St RT den → Option ρ) (w : Int) (go : (Int) → Option ρ) : Option ρ := F_laws_eqEntryS_B0 fu c.1 c.2 (k .ret ⟨[.dead, .dead, .dead, .dead, (.bool false), .dead, .dead, .dead, .dead, .dead, .dead, .dead, .dead, .dead, .dead, .dead, .dead, .dead, .dead, .dead, .dead, .dead, .dead, .dead, .dead, .dead, .dead], []⟩) (k (.exit 0) ⟨[.dead, .dead, .dead, .dead, .dead, .dead, .dead, .dead, .dead, .dead, .dead, .dead, .dead, .dead, .dead, .dead, .dead, .dead, .dead, .dead, .dead, .dead, .dead, .dead, .dead, .dead, .dead], []⟩) w go
def lp_laws_eqEntryS (fu : Nat) : Lp RT den (Bool) := fun b s k => match b with | 0 => handle ps_laws_eqEntryS_0 os_laws_eqEntryS_0 conv_laws_eqEntryS_0 (Bk_laws_eqEntryS_0 fu) fu s k | _ => none
theorem ev_laws_eqEntryS (fu : Nat) (a_0 : (Sl S_impl_Entry)) (b_1 : (Sl S_impl_Entry)) : evFun E (pc_laws_eqEntryS fu) msk_laws_eqEntryS (lp_laws_eqEntryS fu) out_b 13 [(.rs a_0.z .impl_Entry a_0.n a_0.f), (.rs b_1.z .impl_Entry b_1.n b_1.f)] = F_laws_eqEntryS fu a_0 b_1 := by kernel_rfl
noncomputable def body_laws_eqEntryS : Code := Try.f13.body.getD .skip
noncomputable def lc_laws_eqEntryS_0 : Code := ((loops 0 body_laws_eqEntryS).getD 0 (0, .skip)).2
theorem round_laws_eqEntryS_0 (fu : Nat) (it : St RT den → Option (Bool)) (k : Ex → St RT den → Option (Bool)) c w : evCode E (pc_laws_eqEntryS fu) msk_laws_eqEntryS (lp_laws_eqEntryS fu) 0 lc_laws_eqEntryS_0 (back_laws_eqEntryS_0 c w) (after (msk_laws_eqEntryS 0) (msk_laws_eqEntryS 100000) 0 it k) = Bk_laws_eqEntryS_0 fu c k w (fun w => it (back_laws_eqEntryS_0 c w)) := by kernel_rfl
theorem lpok_laws_eqEntryS_0 (fu : Nat) : ∀ s k r, lp_laws_eqEntryS fu 0 s k = some r → ∃ fuel, iter (msk_laws_eqEntryS 0) (msk_laws_eqEntryS 100000) s.objs.length (evCode E (pc_laws_eqEntryS fu) msk_laws_eqEntryS (lp_laws_eqEntryS fu) 0 lc_laws_eqEntryS_0) fuel s k = some r :=
  handle_ok (ps := ps_laws_eqEntryS_0) (os := os_laws_eqEntryS_0) (conv := conv_laws_eqEntryS_0) (B := Bk_laws_eqEntryS_0 fu) (fu := fu) back_laws_eqEntryS_0 (fun raw => by kernel_rfl) 0 (fun c w => by kernel_rfl) (round_laws_eqEntryS_0 fu)
theorem lpok_laws_eqEntryS (fu : Nat) : LpOk E (pc_laws_eqEntryS fu) msk_laws_eqEntryS (lp_laws_eqEntryS fu) (loops 0 body_laws_eqEntryS) := loop_all 1 (by kernel_rfl) fun i hi => match i, hi with
  | 0, _ => by
    have h : (loops 0 body_laws_eqEntryS).getD 0 (0, .skip) = (0, lc_laws_eqEntryS_0) := by kernel_rfl
    rw [h]; exact lpok_laws_eqEntryS_0 fu
  | i + 1, hi => absurd hi (by omega)
def S_laws_eqEntryS (fu : Nat) (xs : List (D RT den)) : Option (Out RT den) := match xs with | [.rs za0_0 .impl_Entry na0_0 fa0_0, .rs za1_0 .impl_Entry na1_0 fa1_0] => some ⟨Bool, F_laws_eqEntryS fu (⟨za0_0, na0_0, fa0_0⟩ : (Sl S_impl_Entry)) (⟨za1_0, na1_0, fa1_0⟩ : (Sl S_impl_Entry)), enc_b, fun _ => true⟩ | _ => none
theorem hpc_laws_eqEntryS (fu : Nat) : ∀ f xs o, pc_laws_eqEntryS fu f xs = some o → ∀ y, o.x = some y → Good E Try.prog f xs (o.g y) := by
  intro f xs o h
  unfold pc_laws_eqEntryS at h
  split at h
  · exact good_laws_eqEntry fu xs o h
  · cases h
theorem goodv_laws_eqEntryS (fu : Nat) (a_0 : (Sl S_impl_Entry)) (b_1 : (Sl S_impl_Entry)) (y : Bool) (hy : F_laws_eqEntryS fu a_0 b_1 = some y) : Good E Try.prog 13 [(.rs a_0.z .impl_Entry a_0.n a_0.f), (.rs b_1.z .impl_Entry b_1.n b_1.f)] (enc_b y) :=
  fun_good E_ok (pc_good (hpc_laws_eqEntryS fu)) (fn := Try.f13) (c := body_laws_eqEntryS) (out := out_b) (y := y) (by kernel_rfl) (by kernel_rfl) (by kernel_rfl) (lpok_laws_eqEntryS fu) (fun d hd => out_b_enc d _ hd) ((ev_laws_eqEntryS fu a_0 b_1).trans hy)
theorem good_laws_eqEntryS (fu : Nat) : ∀ xs o, S_laws_eqEntryS fu xs = some o → ∀ y, o.x = some y → Good E Try.prog 13 xs (o.g y) := by
  intro xs o h y hy
  unfold S_laws_eqEntryS at h
  split at h
  · rename_i za0_0 na0_0 fa0_0 za1_0 na1_0 fa1_0
    cases h
    exact goodv_laws_eqEntryS fu (⟨za0_0, na0_0, fa0_0⟩ : (Sl S_impl_Entry)) (⟨za1_0, na1_0, fa1_0⟩ : (Sl S_impl_Entry)) y hy
  · cases h

/-! laws.FnExactCommonOf -/
def F_laws_FnExactCommonOf (fu : Nat) (aA_0 : (Sl S_laws_Entry)) (aB_1 : (Sl S_laws_Entry)) : Option (Bool) :=
  ((F_laws_szEntryS fu aA_0 1048576).bind fun y1 => (bif (decide (y1 < 0)) then (some true) else ((F_laws_szEntryS fu aB_1 y1).bind fun y2 => (bif (decide (y2 < 0)) then (some true) else
    ((F_laws_toEntryS fu aA_0).bind fun y3 => ((F_laws_toEntryS fu aB_1).bind fun y4 => ((F_spec_CommonOf fu y3 y4).bind fun y5 => ((F_laws_toEntryS fu aA_0).bind fun y6 =>
    ((F_laws_toEntryS fu aB_1).bind fun y7 => ((F_impl_CommonOf fu y6 y7).bind fun y8 => (bif (y8 != y5) then (some false) else ((F_laws_toEntryS fu aA_0).bind fun y9 =>
    ((F_laws_eqEntryS fu y6 y9).bind fun y10 => (bif (!y10) then (some false) else ((F_laws_toEntryS fu aB_1).bind fun y11 => ((F_laws_eqEntryS fu y7 y11).bind fun y12 => (bif (!y12) then
    (some false) else (some true))))))))))))))))))
def pc_laws_FnExactCommonOf (fu : Nat) : Pc RT den := fun f xs => match f with | 9 => S_laws_szEntryS fu xs | 10 => S_spec_CommonOf fu xs | 11 => S_laws_toEntryS fu xs | 12 => S_impl_CommonOf fu xs | 13 => S_laws_eqEntryS fu xs | _ => none
def msk_laws_FnExactCommonOf (b : Nat) : List Nat := []
def lp_laws_FnExactCommonOf (fu : Nat) : Lp RT den (Bool) := fun b s k => none
theorem ev_laws_FnExactCommonOf (fu : Nat) (aA_0 : (Sl S_laws_Entry)) (aB_1 : (Sl S_laws_Entry)) : evFun E (pc_laws_FnExactCommonOf fu) msk_laws_FnExactCommonOf (lp_laws_FnExactCommonOf fu) out_b 3 [(.rs aA_0.z .laws_Entry aA_0.n aA_0.f), (.rs aB_1.z .laws_Entry aB_1.n aB_1.f)] = F_laws_FnExactCommonOf fu aA_0 aB_1 := by kernel_rfl
noncomputable def body_laws_FnExactCommonOf : Code := Try.f3.body.getD .skip
theorem lpok_laws_FnExactCommonOf (fu : Nat) : LpOk E (pc_laws_FnExactCommonOf fu) msk_laws_FnExactCommonOf (lp_laws_FnExactCommonOf fu) (loops 0 body_laws_FnExactCommonOf) := by
  have h : loops 0 body_laws_FnExactCommonOf = [] := by kernel_rfl
  rw [h]; intro p hp; cases hp
def S_laws_FnExactCommonOf (fu : Nat) (xs : List (D RT den)) : Option (Out RT den) := match xs with | [.rs za0_0 .laws_Entry na0_0 fa0_0, .rs za1_0 .laws_Entry na1_0 fa1_0] => some ⟨Bool, F_laws_FnExactCommonOf fu (⟨za0_0, na0_0, fa0_0⟩ : (Sl S_laws_Entry)) (⟨za1_0, na1_0, fa1_0⟩ : (Sl S_laws_Entry)), enc_b, fun _ => true⟩ | _ => none
theorem hpc_laws_FnExactCommonOf (fu : Nat) : ∀ f xs o, pc_laws_FnExactCommonOf fu f xs = some o → ∀ y, o.x = some y → Good E Try.prog f xs (o.g y) := by
  intro f xs o h
  unfold pc_laws_FnExactCommonOf at h
  split at h
  · exact good_laws_szEntryS fu xs o h
  · exact good_spec_CommonOf fu xs o h
  · exact good_laws_toEntryS fu xs o h
  · exact good_impl_CommonOf fu xs o h
  · exact good_laws_eqEntryS fu xs o h
  · cases h
theorem goodv_laws_FnExactCommonOf (fu : Nat) (aA_0 : (Sl S_laws_Entry)) (aB_1 : (Sl S_laws_Entry)) (y : Bool) (hy : F_laws_FnExactCommonOf fu aA_0 aB_1 = some y) : Good E Try.prog 3 [(.rs aA_0.z .laws_Entry aA_0.n aA_0.f), (.rs aB_1.z .laws_Entry aB_1.n aB_1.f)] (enc_b y) :=
  fun_good E_ok (pc_good (hpc_laws_FnExactCommonOf fu)) (fn := Try.f3) (c := body_laws_FnExactCommonOf) (out := out_b) (y := y) (by kernel_rfl) (by kernel_rfl) (by kernel_rfl) (lpok_laws_FnExactCommonOf fu) (fun d hd => out_b_enc d _ hd) ((ev_laws_FnExactCommonOf fu aA_0 aB_1).trans hy)
theorem good_laws_FnExactCommonOf (fu : Nat) : ∀ xs o, S_laws_FnExactCommonOf fu xs = some o → ∀ y, o.x = some y → Good E Try.prog 3 xs (o.g y) := by
  intro xs o h y hy
  unfold S_laws_FnExactCommonOf at h
  split at h
  · rename_i za0_0 na0_0 fa0_0 za1_0 na1_0 fa1_0
    cases h
    exact goodv_laws_FnExactCommonOf fu (⟨za0_0, na0_0, fa0_0⟩ : (Sl S_laws_Entry)) (⟨za1_0, na1_0, fa1_0⟩ : (Sl S_laws_Entry)) y hy
  · cases h

/-! spec.l1In -/
def F_spec_l1In (fu : Nat) (v_0 : Int) (low_1 : Int) (high_2 : Int) : Option (Bool) :=
  (((bif (decide (v_0 ≥ low_1)) then (some (decide (v_0 ≤ high_2))) else (some false)) : Option Bool).bind fun m31 => (some m31))
def pc_spec_l1In (fu : Nat) : Pc RT den := fun f xs => none
def msk_spec_l1In (b : Nat) : List Nat := match b with | 200001 => [6] | _ => []
def lp_spec_l1In (fu : Nat) : Lp RT den (Bool) := fun b s k => none
theorem ev_spec_l1In (fu : Nat) (v_0 : Int) (low_1 : Int) (high_2 : Int) : evFun E (pc_spec_l1In fu) msk_spec_l1In (lp_spec_l1In fu) out_b 29 [(.int .i64 v_0), (.int .i64 low_1), (.int .i64 high_2)] = F_spec_l1In fu v_0 low_1 high_2 := by kernel_rfl
noncomputable def body_spec_l1In : Code := Try.f29.body.getD .skip
theorem lpok_spec_l1In (fu : Nat) : LpOk E (pc_spec_l1In fu) msk_spec_l1In (lp_spec_l1In fu) (loops 0 body_spec_l1In) := by
  have h : loops 0 body_spec_l1In = [] := by kernel_rfl
  rw [h]; intro p hp; cases hp
def S_spec_l1In (fu : Nat) (xs : List (D RT den)) : Option (Out RT den) := match xs with | [.int .i64 a0_0, .int .i64 a1_0, .int .i64 a2_0] => some ⟨Bool, F_spec_l1In fu a0_0 a1_0 a2_0, enc_b, fun _ => true⟩ | _ => none
theorem hpc_spec_l1In (fu : Nat) : ∀ f xs o, pc_spec_l1In fu f xs = some o → ∀ y, o.x = some y → Good E Try.prog f xs (o.g y) := by
  intro f xs o h
  cases h
theorem goodv_spec_l1In (fu : Nat) (v_0 : Int) (low_1 : Int) (high_2 : Int) (y : Bool) (hy : F_spec_l1In fu v_0 low_1 high_2 = some y) : Good E Try.prog 29 [(.int .i64 v_0), (.int .i64 low_1), (.int .i64 high_2)] (enc_b y) :=
  fun_good E_ok (pc_good (hpc_spec_l1In fu)) (fn := Try.f29) (c := body_spec_l1In) (out := out_b) (y := y) (by kernel_rfl) (by kernel_rfl) (by kernel_rfl) (lpok_spec_l1In fu) (fun d hd => out_b_enc d _ hd) ((ev_spec_l1In fu v_0 low_1 high_2).trans hy)
theorem good_spec_l1In (fu : Nat) : ∀ xs o, S_spec_l1In fu xs = some o → ∀ y, o.x = some y → Good E Try.prog 29 xs (o.g y) := by
  intro xs o h y hy
  unfold S_spec_l1In at h
  split at h
  · rename_i a0_0 a1_0 a2_0
    cases h
    exact goodv_spec_l1In fu a0_0 a1_0 a2_0 y hy
  · cases h

/-! spec.l5Needs -/
def F_spec_l5Needs (fu : Nat) (kind_0 : Int) : Option (Bool × Bool × Bool × Bool) :=
  ((F_spec_l1In fu kind_0 5 8).bind fun y67 => (bif (kind_0 != 5) then (bif (kind_0 == 1) then (some ((kind_0 != 6), true, (kind_0 != 4), y67)) else (some ((kind_0 != 6), y67,
    (kind_0 != 4), y67))) else (bif (kind_0 == 1) then (some (false, true, (kind_0 != 4), y67)) else (some (false, y67, (kind_0 != 4), y67)))))
def pc_spec_l5Needs (fu : Nat) : Pc RT den := fun f xs => match f with | 29 => S_spec_l1In fu xs | _ => none
def msk_spec_l5Needs (b : Nat) : List Nat := []
def lp_spec_l5Needs (fu : Nat) : Lp RT den (Bool × Bool × Bool × Bool) := fun b s k => none
theorem ev_spec_l5Needs (fu : Nat) (kind_0 : Int) : evFun E (pc_spec_l5Needs fu) msk_spec_l5Needs (lp_spec_l5Needs fu) out_b_b_b_b 50 [(.int .i64 kind_0)] = F_spec_l5Needs fu kind_0 := by kernel_rfl
noncomputable def body_spec_l5Needs : Code := Try.f50.body.getD .skip
theorem lpok_spec_l5Needs (fu : Nat) : LpOk E (pc_spec_l5Needs fu) msk_spec_l5Needs (lp_spec_l5Needs fu) (loops 0 body_spec_l5Needs) := by
  have h : loops 0 body_spec_l5Needs = [] := by kernel_rfl
  rw [h]; intro p hp; cases hp
def S_spec_l5Needs (fu : Nat) (xs : List (D RT den)) : Option (Out RT den) := match xs with | [.int .i64 a0_0] => some ⟨Bool × Bool × Bool × Bool, F_spec_l5Needs fu a0_0, enc_b_b_b_b, fun _ => true⟩ | _ => none
theorem hpc_spec_l5Needs (fu : Nat) : ∀ f xs o, pc_spec_l5Needs fu f xs = some o → ∀ y, o.x = some y → Good E Try.prog f xs (o.g y) := by
  intro f xs o h
  unfold pc_spec_l5Needs at h
  split at h
  · exact good_spec_l1In fu xs o h
  · cases h
theorem goodv_spec_l5Needs (fu : Nat) (kind_0 : Int) (y : Bool × Bool × Bool × Bool) (hy : F_spec_l5Needs fu kind_0 = some y) : Good E Try.prog 50 [(.int .i64 kind_0)] (enc_b_b_b_b y) :=
  fun_good E_ok (pc_good (hpc_spec_l5Needs fu)) (fn := Try.f50) (c := body_spec_l5Needs) (out := out_b_b_b_b) (y := y) (by kernel_rfl) (by kernel_rfl) (by kernel_rfl) (lpok_spec_l5Needs fu) (fun d hd => out_b_b_b_b_enc d _ hd) ((ev_spec_l5Needs fu kind_0).trans hy)
theorem good_spec_l5Needs (fu : Nat) : ∀ xs o, S_spec_l5Needs fu xs = some o → ∀ y, o.x = some y → Good E Try.prog 50 xs (o.g y) := by
  intro xs o h y hy
  unfold S_spec_l5Needs at h
  split at h
  · rename_i a0_0
    cases h
    exact goodv_spec_l5Needs fu a0_0 y hy
  · cases h

/-! spec.l5Version -/
def F_spec_l5Version (fu : Nat) (v_0 : Int) : Option (Bool) :=
  ((F_spec_l1In fu v_0 0 1000000).bind fun y68 => (some y68))
def pc_spec_l5Version (fu : Nat) : Pc RT den := fun f xs => match f with | 29 => S_spec_l1In fu xs | _ => none
def msk_spec_l5Version (b : Nat) : List Nat := []
def lp_spec_l5Version (fu : Nat) : Lp RT den (Bool) := fun b s k => none
theorem ev_spec_l5Version (fu : Nat) (v_0 : Int) : evFun E (pc_spec_l5Version fu) msk_spec_l5Version (lp_spec_l5Version fu) out_b 51 [(.int .i64 v_0)] = F_spec_l5Version fu v_0 := by kernel_rfl
noncomputable def body_spec_l5Version : Code := Try.f51.body.getD .skip
theorem lpok_spec_l5Version (fu : Nat) : LpOk E (pc_spec_l5Version fu) msk_spec_l5Version (lp_spec_l5Version fu) (loops 0 body_spec_l5Version) := by
  have h : loops 0 body_spec_l5Version = [] := by kernel_rfl
  rw [h]; intro p hp; cases hp
def S_spec_l5Version (fu : Nat) (xs : List (D RT den)) : Option (Out RT den) := match xs with | [.int .i64 a0_0] => some ⟨Bool, F_spec_l5Version fu a0_0, enc_b, fun _ => true⟩ | _ => none
theorem hpc_spec_l5Version (fu : Nat) : ∀ f xs o, pc_spec_l5Version fu f xs = some o → ∀ y, o.x = some y → Good E Try.prog f xs (o.g y) := by
  intro f xs o h
  unfold pc_spec_l5Version at h
  split at h
  · exact good_spec_l1In fu xs o h
  · cases h
theorem goodv_spec_l5Version (fu : Nat) (v_0 : Int) (y : Bool) (hy : F_spec_l5Version fu v_0 = some y) : Good E Try.prog 51 [(.int .i64 v_0)] (enc_b y) :=
  fun_good E_ok (pc_good (hpc_spec_l5Version fu)) (fn := Try.f51) (c := body_spec_l5Version) (out := out_b) (y := y) (by kernel_rfl) (by kernel_rfl) (by kernel_rfl) (lpok_spec_l5Version fu) (fun d hd => out_b_enc d _ hd) ((ev_spec_l5Version fu v_0).trans hy)
theorem good_spec_l5Version (fu : Nat) : ∀ xs o, S_spec_l5Version fu xs = some o → ∀ y, o.x = some y → Good E Try.prog 51 xs (o.g y) := by
  intro xs o h y hy
  unfold S_spec_l5Version at h
  split at h
  · rename_i a0_0
    cases h
    exact goodv_spec_l5Version fu a0_0 y hy
  · cases h

/-! spec.l3Name -/
def F_spec_l3Name (fu : Nat) (name_0 : Int) : Option (Bool) :=
  ((F_spec_l1In fu name_0 1 999).bind fun y69 => (some y69))
def pc_spec_l3Name (fu : Nat) : Pc RT den := fun f xs => match f with | 29 => S_spec_l1In fu xs | _ => none
def msk_spec_l3Name (b : Nat) : List Nat := []
def lp_spec_l3Name (fu : Nat) : Lp RT den (Bool) := fun b s k => none
theorem ev_spec_l3Name (fu : Nat) (name_0 : Int) : evFun E (pc_spec_l3Name fu) msk_spec_l3Name (lp_spec_l3Name fu) out_b 52 [(.int .i64 name_0)] = F_spec_l3Name fu name_0 := by kernel_rfl
noncomputable def body_spec_l3Name : Code := Try.f52.body.getD .skip
theorem lpok_spec_l3Name (fu : Nat) : LpOk E (pc_spec_l3Name fu) msk_spec_l3Name (lp_spec_l3Name fu) (loops 0 body_spec_l3Name) := by
  have h : loops 0 body_spec_l3Name = [] := by kernel_rfl
  rw [h]; intro p hp; cases hp
def S_spec_l3Name (fu : Nat) (xs : List (D RT den)) : Option (Out RT den) := match xs with | [.int .i64 a0_0] => some ⟨Bool, F_spec_l3Name fu a0_0, enc_b, fun _ => true⟩ | _ => none
theorem hpc_spec_l3Name (fu : Nat) : ∀ f xs o, pc_spec_l3Name fu f xs = some o → ∀ y, o.x = some y → Good E Try.prog f xs (o.g y) := by
  intro f xs o h
  unfold pc_spec_l3Name at h
  split at h
  · exact good_spec_l1In fu xs o h
  · cases h
theorem goodv_spec_l3Name (fu : Nat) (name_0 : Int) (y : Bool) (hy : F_spec_l3Name fu name_0 = some y) : Good E Try.prog 52 [(.int .i64 name_0)] (enc_b y) :=
  fun_good E_ok (pc_good (hpc_spec_l3Name fu)) (fn := Try.f52) (c := body_spec_l3Name) (out := out_b) (y := y) (by kernel_rfl) (by kernel_rfl) (by kernel_rfl) (lpok_spec_l3Name fu) (fun d hd => out_b_enc d _ hd) ((ev_spec_l3Name fu name_0).trans hy)
theorem good_spec_l3Name (fu : Nat) : ∀ xs o, S_spec_l3Name fu xs = some o → ∀ y, o.x = some y → Good E Try.prog 52 xs (o.g y) := by
  intro xs o h y hy
  unfold S_spec_l3Name at h
  split at h
  · rename_i a0_0
    cases h
    exact goodv_spec_l3Name fu a0_0 y hy
  · cases h

/-! spec.l2Address -/
def F_spec_l2Address (fu : Nat) (a_0 : Int) : Option (Bool) :=
  ((F_spec_l1In fu a_0 0 4294967295).bind fun y70 => (some y70))
def pc_spec_l2Address (fu : Nat) : Pc RT den := fun f xs => match f with | 29 => S_spec_l1In fu xs | _ => none
def msk_spec_l2Address (b : Nat) : List Nat := []
def lp_spec_l2Address (fu : Nat) : Lp RT den (Bool) := fun b s k => none
theorem ev_spec_l2Address (fu : Nat) (a_0 : Int) : evFun E (pc_spec_l2Address fu) msk_spec_l2Address (lp_spec_l2Address fu) out_b 53 [(.int .i64 a_0)] = F_spec_l2Address fu a_0 := by kernel_rfl
noncomputable def body_spec_l2Address : Code := Try.f53.body.getD .skip
theorem lpok_spec_l2Address (fu : Nat) : LpOk E (pc_spec_l2Address fu) msk_spec_l2Address (lp_spec_l2Address fu) (loops 0 body_spec_l2Address) := by
  have h : loops 0 body_spec_l2Address = [] := by kernel_rfl
  rw [h]; intro p hp; cases hp
def S_spec_l2Address (fu : Nat) (xs : List (D RT den)) : Option (Out RT den) := match xs with | [.int .i64 a0_0] => some ⟨Bool, F_spec_l2Address fu a0_0, enc_b, fun _ => true⟩ | _ => none
theorem hpc_spec_l2Address (fu : Nat) : ∀ f xs o, pc_spec_l2Address fu f xs = some o → ∀ y, o.x = some y → Good E Try.prog f xs (o.g y) := by
  intro f xs o h
  unfold pc_spec_l2Address at h
  split at h
  · exact good_spec_l1In fu xs o h
  · cases h
theorem goodv_spec_l2Address (fu : Nat) (a_0 : Int) (y : Bool) (hy : F_spec_l2Address fu a_0 = some y) : Good E Try.prog 53 [(.int .i64 a_0)] (enc_b y) :=
  fun_good E_ok (pc_good (hpc_spec_l2Address fu)) (fn := Try.f53) (c := body_spec_l2Address) (out := out_b) (y := y) (by kernel_rfl) (by kernel_rfl) (by kernel_rfl) (lpok_spec_l2Address fu) (fun d hd => out_b_enc d _ hd) ((ev_spec_l2Address fu a_0).trans hy)
theorem good_spec_l2Address (fu : Nat) : ∀ xs o, S_spec_l2Address fu xs = some o → ∀ y, o.x = some y → Good E Try.prog 53 xs (o.g y) := by
  intro xs o h y hy
  unfold S_spec_l2Address at h
  split at h
  · rename_i a0_0
    cases h
    exact goodv_spec_l2Address fu a0_0 y hy
  · cases h

/-! spec.l2Port -/
def F_spec_l2Port (fu : Nat) (p_0 : Int) : Option (Bool) :=
  ((F_spec_l1In fu p_0 0 65535).bind fun y76 => (some y76))
def pc_spec_l2Port (fu : Nat) : Pc RT den := fun f xs => match f with | 29 => S_spec_l1In fu xs | _ => none
def msk_spec_l2Port (b : Nat) : List Nat := []
def lp_spec_l2Port (fu : Nat) : Lp RT den (Bool) := fun b s k => none
theorem ev_spec_l2Port (fu : Nat) (p_0 : Int) : evFun E (pc_spec_l2Port fu) msk_spec_l2Port (lp_spec_l2Port fu) out_b 65 [(.int .i64 p_0)] = F_spec_l2Port fu p_0 := by kernel_rfl
noncomputable def body_spec_l2Port : Code := Try.f65.body.getD .skip
theorem lpok_spec_l2Port (fu : Nat) : LpOk E (pc_spec_l2Port fu) msk_spec_l2Port (lp_spec_l2Port fu) (loops 0 body_spec_l2Port) := by
  have h : loops 0 body_spec_l2Port = [] := by kernel_rfl
  rw [h]; intro p hp; cases hp
def S_spec_l2Port (fu : Nat) (xs : List (D RT den)) : Option (Out RT den) := match xs with | [.int .i64 a0_0] => some ⟨Bool, F_spec_l2Port fu a0_0, enc_b, fun _ => true⟩ | _ => none
theorem hpc_spec_l2Port (fu : Nat) : ∀ f xs o, pc_spec_l2Port fu f xs = some o → ∀ y, o.x = some y → Good E Try.prog f xs (o.g y) := by
  intro f xs o h
  unfold pc_spec_l2Port at h
  split at h
  · exact good_spec_l1In fu xs o h
  · cases h
theorem goodv_spec_l2Port (fu : Nat) (p_0 : Int) (y : Bool) (hy : F_spec_l2Port fu p_0 = some y) : Good E Try.prog 65 [(.int .i64 p_0)] (enc_b y) :=
  fun_good E_ok (pc_good (hpc_spec_l2Port fu)) (fn := Try.f65) (c := body_spec_l2Port) (out := out_b) (y := y) (by kernel_rfl) (by kernel_rfl) (by kernel_rfl) (lpok_spec_l2Port fu) (fun d hd => out_b_enc d _ hd) ((ev_spec_l2Port fu p_0).trans hy)
theorem good_spec_l2Port (fu : Nat) : ∀ xs o, S_spec_l2Port fu xs = some o → ∀ y, o.x = some y → Good E Try.prog 65 xs (o.g y) := by
  intro xs o h y hy
  unfold S_spec_l2Port at h
  split at h
  · rename_i a0_0
    cases h
    exact goodv_spec_l2Port fu a0_0 y hy
  · cases h

/-! spec.l5Number -/
def F_spec_l5Number (fu : Nat) (x_0 : S_impl_Cmd) : Option (Bool) :=
  (bif (x_0.Kind == 1) then ((F_spec_l1In fu x_0.Number 0 9).bind fun y71 => (some y71)) else (bif (x_0.Kind == 2) then ((F_spec_l1In fu x_0.Number 0 9).bind fun y72 => (some y72)) else
    (bif (x_0.Kind == 3) then ((F_spec_l1In fu x_0.Number 1 3).bind fun y73 => (some y73)) else (bif (x_0.Kind == 9) then ((F_spec_l1In fu x_0.Number 0 1).bind fun y74 => (some y74)) else
    ((F_spec_l2Port fu x_0.Number).bind fun y75 => (some y75))))))
def pc_spec_l5Number (fu : Nat) : Pc RT den := fun f xs => match f with | 29 => S_spec_l1In fu xs | 65 => S_spec_l2Port fu xs | _ => none
def msk_spec_l5Number (b : Nat) : List Nat := []
def lp_spec_l5Number (fu : Nat) : Lp RT den (Bool) := fun b s k => none
theorem ev_spec_l5Number (fu : Nat) (x_0 : S_impl_Cmd) : evFun E (pc_spec_l5Number fu) msk_spec_l5Number (lp_spec_l5Number fu) out_b 54 [(.agg [(.int .i64 x_0.Kind), (.int .i64 x_0.Expect), (.int .i64 x_0.Name), (.int .i64 x_0.Addr), (.int .i64 x_0.Number), (.int .i64 x_0.Proto)])] = F_spec_l5Number fu x_0 := by kernel_rfl
noncomputable def body_spec_l5Number : Code := Try.f54.body.getD .skip
theorem lpok_spec_l5Number (fu : Nat) : LpOk E (pc_spec_l5Number fu) msk_spec_l5Number (lp_spec_l5Number fu) (loops 0 body_spec_l5Number) := by
  have h : loops 0 body_spec_l5Number = [] := by kernel_rfl
  rw [h]; intro p hp; cases hp
def S_spec_l5Number (fu : Nat) (xs : List (D RT den)) : Option (Out RT den) := match xs with | [.agg [.int .i64 a0_1, .int .i64 a0_2, .int .i64 a0_3, .int .i64 a0_4, .int .i64 a0_5, .int .i64 a0_6]] => some ⟨Bool, F_spec_l5Number fu (⟨a0_1, a0_2, a0_3, a0_4, a0_5, a0_6⟩ : S_impl_Cmd), enc_b, fun _ => true⟩ | _ => none
theorem hpc_spec_l5Number (fu : Nat) : ∀ f xs o, pc_spec_l5Number fu f xs = some o → ∀ y, o.x = some y → Good E Try.prog f xs (o.g y) := by
  intro f xs o h
  unfold pc_spec_l5Number at h
  split at h
  · exact good_spec_l1In fu xs o h
  · exact good_spec_l2Port fu xs o h
  · cases h
theorem goodv_spec_l5Number (fu : Nat) (x_0 : S_impl_Cmd) (y : Bool) (hy : F_spec_l5Number fu x_0 = some y) : Good E Try.prog 54 [(.agg [(.int .i64 x_0.Kind), (.int .i64 x_0.Expect), (.int .i64 x_0.Name), (.int .i64 x_0.Addr), (.int .i64 x_0.Number), (.int .i64 x_0.Proto)])] (enc_b y) :=
  fun_good E_ok (pc_good (hpc_spec_l5Number fu)) (fn := Try.f54) (c := body_spec_l5Number) (out := out_b) (y := y) (by kernel_rfl) (by kernel_rfl) (by kernel_rfl) (lpok_spec_l5Number fu) (fun d hd => out_b_enc d _ hd) ((ev_spec_l5Number fu x_0).trans hy)
theorem good_spec_l5Number (fu : Nat) : ∀ xs o, S_spec_l5Number fu xs = some o → ∀ y, o.x = some y → Good E Try.prog 54 xs (o.g y) := by
  intro xs o h y hy
  unfold S_spec_l5Number at h
  split at h
  · rename_i a0_1 a0_2 a0_3 a0_4 a0_5 a0_6
    cases h
    exact goodv_spec_l5Number fu (⟨a0_1, a0_2, a0_3, a0_4, a0_5, a0_6⟩ : S_impl_Cmd) y hy
  · cases h

/-! spec.l5Proto -/
def F_spec_l5Proto (fu : Nat) (p_0 : Int) : Option (Bool) :=
  (((bif (p_0 == 6) then (some true) else (some (p_0 == 17))) : Option Bool).bind fun m77 => (some m77))
def pc_spec_l5Proto (fu : Nat) : Pc RT den := fun f xs => none
def msk_spec_l5Proto (b : Nat) : List Nat := match b with | 200001 => [2] | _ => []
def lp_spec_l5Proto (fu : Nat) : Lp RT den (Bool) := fun b s k => none
theorem ev_spec_l5Proto (fu : Nat) (p_0 : Int) : evFun E (pc_spec_l5Proto fu) msk_spec_l5Proto (lp_spec_l5Proto fu) out_b 55 [(.int .i64 p_0)] = F_spec_l5Proto fu p_0 := by kernel_rfl
noncomputable def body_spec_l5Proto : Code := Try.f55.body.getD .skip
theorem lpok_spec_l5Proto (fu : Nat) : LpOk E (pc_spec_l5Proto fu) msk_spec_l5Proto (lp_spec_l5Proto fu) (loops 0 body_spec_l5Proto) := by
  have h : loops 0 body_spec_l5Proto = [] := by kernel_rfl
  rw [h]; intro p hp; cases hp
def S_spec_l5Proto (fu : Nat) (xs : List (D RT den)) : Option (Out RT den) := match xs with | [.int .i64 a0_0] => some ⟨Bool, F_spec_l5Proto fu a0_0, enc_b, fun _ => true⟩ | _ => none
theorem hpc_spec_l5Proto (fu : Nat) : ∀ f xs o, pc_spec_l5Proto fu f xs = some o → ∀ y, o.x = some y → Good E Try.prog f xs (o.g y) := by
  intro f xs o h
  cases h
theorem goodv_spec_l5Proto (fu : Nat) (p_0 : Int) (y : Bool) (hy : F_spec_l5Proto fu p_0 = some y) : Good E Try.prog 55 [(.int .i64 p_0)] (enc_b y) :=
  fun_good E_ok (pc_good (hpc_spec_l5Proto fu)) (fn := Try.f55) (c := body_spec_l5Proto) (out := out_b) (y := y) (by kernel_rfl) (by kernel_rfl) (by kernel_rfl) (lpok_spec_l5Proto fu) (fun d hd => out_b_enc d _ hd) ((ev_spec_l5Proto fu p_0).trans hy)
theorem good_spec_l5Proto (fu : Nat) : ∀ xs o, S_spec_l5Proto fu xs = some o → ∀ y, o.x = some y → Good E Try.prog 55 xs (o.g y) := by
  intro xs o h y hy
  unfold S_spec_l5Proto at h
  split at h
  · rename_i a0_0
    cases h
    exact goodv_spec_l5Proto fu a0_0 y hy
  · cases h

/-! spec.CmdFault -/
def F_spec_CmdFault (fu : Nat) (x_0 : S_impl_Cmd) : Option (Int) :=
  ((F_spec_l1In fu x_0.Kind 1 9).bind fun y32 => (bif (!y32) then (some 1) else ((F_spec_l5Needs fu x_0.Kind).bind fun y33 => (((bif (x_0.Expect != (-1)) then ((F_spec_l5Version fu x_0.Expect).bind fun y34 =>
    (bif (!y34) then (some true) else (bif y33.1 then ((F_spec_l3Name fu x_0.Name).bind fun y35 => (bif (!y35) then (some true) else (bif y33.2.1 then ((F_spec_l2Address fu x_0.Addr).bind fun y36 =>
    (bif (!y36) then (some true) else (bif y33.2.2.1 then ((F_spec_l5Number fu x_0).bind fun y37 => (bif (!y37) then (some true) else (bif y33.2.2.2 then ((F_spec_l5Proto fu x_0.Proto).bind fun y38 =>
    (some (!y38))) else (some false)))) else (bif y33.2.2.2 then ((F_spec_l5Proto fu x_0.Proto).bind fun y39 => (some (!y39))) else (some false))))) else (bif y33.2.2.1 then
    ((F_spec_l5Number fu x_0).bind fun y40 => (bif (!y40) then (some true) else (bif y33.2.2.2 then ((F_spec_l5Proto fu x_0.Proto).bind fun y41 => (some (!y41))) else (some false)))) else
    (bif y33.2.2.2 then ((F_spec_l5Proto fu x_0.Proto).bind fun y42 => (some (!y42))) else (some false)))))) else (bif y33.2.1 then ((F_spec_l2Address fu x_0.Addr).bind fun y43 =>
    (bif (!y43) then (some true) else (bif y33.2.2.1 then ((F_spec_l5Number fu x_0).bind fun y44 => (bif (!y44) then (some true) else (bif y33.2.2.2 then ((F_spec_l5Proto fu x_0.Proto).bind fun y45 =>
    (some (!y45))) else (some false)))) else (bif y33.2.2.2 then ((F_spec_l5Proto fu x_0.Proto).bind fun y46 => (some (!y46))) else (some false))))) else (bif y33.2.2.1 then
    ((F_spec_l5Number fu x_0).bind fun y47 => (bif (!y47) then (some true) else (bif y33.2.2.2 then ((F_spec_l5Proto fu x_0.Proto).bind fun y48 => (some (!y48))) else (some false)))) else
    (bif y33.2.2.2 then ((F_spec_l5Proto fu x_0.Proto).bind fun y49 => (some (!y49))) else (some false))))))) else (bif y33.1 then ((F_spec_l3Name fu x_0.Name).bind fun y50 => (bif (!y50) then
    (some true) else (bif y33.2.1 then ((F_spec_l2Address fu x_0.Addr).bind fun y51 => (bif (!y51) then (some true) else (bif y33.2.2.1 then ((F_spec_l5Number fu x_0).bind fun y52 =>
    (bif (!y52) then (some true) else (bif y33.2.2.2 then ((F_spec_l5Proto fu x_0.Proto).bind fun y53 => (some (!y53))) else (some false)))) else (bif y33.2.2.2 then
    ((F_spec_l5Proto fu x_0.Proto).bind fun y54 => (some (!y54))) else (some false))))) else (bif y33.2.2.1 then ((F_spec_l5Number fu x_0).bind fun y55 => (bif (!y55) then (some true) else
    (bif y33.2.2.2 then ((F_spec_l5Proto fu x_0.Proto).bind fun y56 => (some (!y56))) else (some false)))) else (bif y33.2.2.2 then ((F_spec_l5Proto fu x_0.Proto).bind fun y57 =>
    (some (!y57))) else (some false)))))) else (bif y33.2.1 then ((F_spec_l2Address fu x_0.Addr).bind fun y58 => (bif (!y58) then (some true) else (bif y33.2.2.1 then
    ((F_spec_l5Number fu x_0).bind fun y59 => (bif (!y59) then (some true) else (bif y33.2.2.2 then ((F_spec_l5Proto fu x_0.Proto).bind fun y60 => (some (!y60))) else (some false)))) else
    (bif y33.2.2.2 then ((F_spec_l5Proto fu x_0.Proto).bind fun y61 => (some (!y61))) else (some false))))) else (bif y33.2.2.1 then ((F_spec_l5Number fu x_0).bind fun y62 => (bif (!y62) then
    (some true) else (bif y33.2.2.2 then ((F_spec_l5Proto fu x_0.Proto).bind fun y63 => (some (!y63))) else (some false)))) else (bif y33.2.2.2 then ((F_spec_l5Proto fu x_0.Proto).bind fun y64 =>
    (some (!y64))) else (some false)))))) : Option Bool).bind fun m65 => (bif m65 then (some 3) else (((bif (!y33.1) then (bif (x_0.Name != 0) then (some true) else (bif (!y33.2.1) then
    (bif (x_0.Addr != 0) then (some true) else (bif (!y33.2.2.1) then (bif (x_0.Number != 0) then (some true) else (bif (!y33.2.2.2) then (some (x_0.Proto != 0)) else (some false))) else
    (bif (!y33.2.2.2) then (some (x_0.Proto != 0)) else (some false)))) else (bif (!y33.2.2.1) then (bif (x_0.Number != 0) then (some true) else (bif (!y33.2.2.2) then (some (x_0.Proto != 0)) else
    (some false))) else (bif (!y33.2.2.2) then (some (x_0.Proto != 0)) else (some false))))) else (bif (!y33.2.1) then (bif (x_0.Addr != 0) then (some true) else (bif (!y33.2.2.1) then
    (bif (x_0.Number != 0) then (some true) else (bif (!y33.2.2.2) then (some (x_0.Proto != 0)) else (some false))) else (bif (!y33.2.2.2) then (some (x_0.Proto != 0)) else (some false)))) else
    (bif (!y33.2.2.1) then (bif (x_0.Number != 0) then (some true) else (bif (!y33.2.2.2) then (some (x_0.Proto != 0)) else (some false))) else (bif (!y33.2.2.2) then (some (x_0.Proto != 0)) else
    (some false))))) : Option Bool).bind fun m66 => (bif m66 then (some 1) else (some 0))))))))
def pc_spec_CmdFault (fu : Nat) : Pc RT den := fun f xs => match f with | 29 => S_spec_l1In fu xs | 50 => S_spec_l5Needs fu xs | 51 => S_spec_l5Version fu xs | 52 => S_spec_l3Name fu xs | 53 => S_spec_l2Address fu xs | 54 => S_spec_l5Number fu xs | 55 => S_spec_l5Proto fu xs | _ => none
def msk_spec_CmdFault (b : Nat) : List Nat := match b with | 200004 => [62] | 200006 => [96] | _ => []
def lp_spec_CmdFault (fu : Nat) : Lp RT den (Int) := fun b s k => none
theorem ev_spec_CmdFault (fu : Nat) (x_0 : S_impl_Cmd) : evFun E (pc_spec_CmdFault fu) msk_spec_CmdFault (lp_spec_CmdFault fu) out_i64 30 [(.agg [(.int .i64 x_0.Kind), (.int .i64 x_0.Expect), (.int .i64 x_0.Name), (.int .i64 x_0.Addr), (.int .i64 x_0.Number), (.int .i64 x_0.Proto)])] = F_spec_CmdFault fu x_0 := by kernel_rfl
noncomputable def body_spec_CmdFault : Code := Try.f30.body.getD .skip
theorem lpok_spec_CmdFault (fu : Nat) : LpOk E (pc_spec_CmdFault fu) msk_spec_CmdFault (lp_spec_CmdFault fu) (loops 0 body_spec_CmdFault) := by
  have h : loops 0 body_spec_CmdFault = [] := by kernel_rfl
  rw [h]; intro p hp; cases hp
def S_spec_CmdFault (fu : Nat) (xs : List (D RT den)) : Option (Out RT den) := match xs with | [.agg [.int .i64 a0_1, .int .i64 a0_2, .int .i64 a0_3, .int .i64 a0_4, .int .i64 a0_5, .int .i64 a0_6]] => some ⟨Int, F_spec_CmdFault fu (⟨a0_1, a0_2, a0_3, a0_4, a0_5, a0_6⟩ : S_impl_Cmd), enc_i64, fun _ => true⟩ | _ => none
theorem hpc_spec_CmdFault (fu : Nat) : ∀ f xs o, pc_spec_CmdFault fu f xs = some o → ∀ y, o.x = some y → Good E Try.prog f xs (o.g y) := by
  intro f xs o h
  unfold pc_spec_CmdFault at h
  split at h
  · exact good_spec_l1In fu xs o h
  · exact good_spec_l5Needs fu xs o h
  · exact good_spec_l5Version fu xs o h
  · exact good_spec_l3Name fu xs o h
  · exact good_spec_l2Address fu xs o h
  · exact good_spec_l5Number fu xs o h
  · exact good_spec_l5Proto fu xs o h
  · cases h
theorem goodv_spec_CmdFault (fu : Nat) (x_0 : S_impl_Cmd) (y : Int) (hy : F_spec_CmdFault fu x_0 = some y) : Good E Try.prog 30 [(.agg [(.int .i64 x_0.Kind), (.int .i64 x_0.Expect), (.int .i64 x_0.Name), (.int .i64 x_0.Addr), (.int .i64 x_0.Number), (.int .i64 x_0.Proto)])] (enc_i64 y) :=
  fun_good E_ok (pc_good (hpc_spec_CmdFault fu)) (fn := Try.f30) (c := body_spec_CmdFault) (out := out_i64) (y := y) (by kernel_rfl) (by kernel_rfl) (by kernel_rfl) (lpok_spec_CmdFault fu) (fun d hd => out_i64_enc d _ hd) ((ev_spec_CmdFault fu x_0).trans hy)
theorem good_spec_CmdFault (fu : Nat) : ∀ xs o, S_spec_CmdFault fu xs = some o → ∀ y, o.x = some y → Good E Try.prog 30 xs (o.g y) := by
  intro xs o h y hy
  unfold S_spec_CmdFault at h
  split at h
  · rename_i a0_1 a0_2 a0_3 a0_4 a0_5 a0_6
    cases h
    exact goodv_spec_CmdFault fu (⟨a0_1, a0_2, a0_3, a0_4, a0_5, a0_6⟩ : S_impl_Cmd) y hy
  · cases h

/-! spec.EntryFault -/
def F_spec_EntryFault (fu : Nat) (x_0 : S_impl_Entry) : Option (Int) :=
  ((((F_spec_l1In fu x_0.Term 1 100000).bind fun y26 => (bif (!y26) then (some true) else ((F_spec_l1In fu x_0.Client 0 999).bind fun y27 => (bif (!y27) then (some true) else
    ((F_spec_l1In fu x_0.Seq 0 1000000).bind fun y28 => (some (!y28))))))) : Option Bool).bind fun m29 => (bif m29 then (some 3) else (bif (!((x_0.Client == 0) == (x_0.Seq == 0))) then
    (some 1) else (bif (x_0.Client != 0) then ((F_spec_CmdFault fu x_0.Cmd).bind fun y30 => (some y30)) else (bif (!((x_0.Cmd.Kind == 0) && ((x_0.Cmd.Expect == 0) && ((x_0.Cmd.Name == 0) &&
    ((x_0.Cmd.Addr == 0) && ((x_0.Cmd.Number == 0) && ((x_0.Cmd.Proto == 0) && true))))))) then (some 1) else (some 0))))))
def pc_spec_EntryFault (fu : Nat) : Pc RT den := fun f xs => match f with | 29 => S_spec_l1In fu xs | 30 => S_spec_CmdFault fu xs | _ => none
def msk_spec_EntryFault (b : Nat) : List Nat := match b with | 200001 => [19] | _ => []
def lp_spec_EntryFault (fu : Nat) : Lp RT den (Int) := fun b s k => none
theorem ev_spec_EntryFault (fu : Nat) (x_0 : S_impl_Entry) : evFun E (pc_spec_EntryFault fu) msk_spec_EntryFault (lp_spec_EntryFault fu) out_i64 14 [(.agg [(.int .i64 x_0.Term), (.int .i64 x_0.Client), (.int .i64 x_0.Seq), (.int .i64 x_0.Cmd.Kind), (.int .i64 x_0.Cmd.Expect), (.int .i64 x_0.Cmd.Name), (.int .i64 x_0.Cmd.Addr), (.int .i64 x_0.Cmd.Number), (.int .i64 x_0.Cmd.Proto)])] = F_spec_EntryFault fu x_0 := by kernel_rfl
noncomputable def body_spec_EntryFault : Code := Try.f14.body.getD .skip
theorem lpok_spec_EntryFault (fu : Nat) : LpOk E (pc_spec_EntryFault fu) msk_spec_EntryFault (lp_spec_EntryFault fu) (loops 0 body_spec_EntryFault) := by
  have h : loops 0 body_spec_EntryFault = [] := by kernel_rfl
  rw [h]; intro p hp; cases hp
def S_spec_EntryFault (fu : Nat) (xs : List (D RT den)) : Option (Out RT den) := match xs with | [.agg [.int .i64 a0_1, .int .i64 a0_2, .int .i64 a0_3, .int .i64 a0_5, .int .i64 a0_6, .int .i64 a0_7, .int .i64 a0_8, .int .i64 a0_9, .int .i64 a0_10]] => some ⟨Int, F_spec_EntryFault fu (⟨a0_1, a0_2, a0_3, (⟨a0_5, a0_6, a0_7, a0_8, a0_9, a0_10⟩ : S_impl_Cmd)⟩ : S_impl_Entry), enc_i64, fun _ => true⟩ | _ => none
theorem hpc_spec_EntryFault (fu : Nat) : ∀ f xs o, pc_spec_EntryFault fu f xs = some o → ∀ y, o.x = some y → Good E Try.prog f xs (o.g y) := by
  intro f xs o h
  unfold pc_spec_EntryFault at h
  split at h
  · exact good_spec_l1In fu xs o h
  · exact good_spec_CmdFault fu xs o h
  · cases h
theorem goodv_spec_EntryFault (fu : Nat) (x_0 : S_impl_Entry) (y : Int) (hy : F_spec_EntryFault fu x_0 = some y) : Good E Try.prog 14 [(.agg [(.int .i64 x_0.Term), (.int .i64 x_0.Client), (.int .i64 x_0.Seq), (.int .i64 x_0.Cmd.Kind), (.int .i64 x_0.Cmd.Expect), (.int .i64 x_0.Cmd.Name), (.int .i64 x_0.Cmd.Addr), (.int .i64 x_0.Cmd.Number), (.int .i64 x_0.Cmd.Proto)])] (enc_i64 y) :=
  fun_good E_ok (pc_good (hpc_spec_EntryFault fu)) (fn := Try.f14) (c := body_spec_EntryFault) (out := out_i64) (y := y) (by kernel_rfl) (by kernel_rfl) (by kernel_rfl) (lpok_spec_EntryFault fu) (fun d hd => out_i64_enc d _ hd) ((ev_spec_EntryFault fu x_0).trans hy)
theorem good_spec_EntryFault (fu : Nat) : ∀ xs o, S_spec_EntryFault fu xs = some o → ∀ y, o.x = some y → Good E Try.prog 14 xs (o.g y) := by
  intro xs o h y hy
  unfold S_spec_EntryFault at h
  split at h
  · rename_i a0_1 a0_2 a0_3 a0_5 a0_6 a0_7 a0_8 a0_9 a0_10
    cases h
    exact goodv_spec_EntryFault fu (⟨a0_1, a0_2, a0_3, (⟨a0_5, a0_6, a0_7, a0_8, a0_9, a0_10⟩ : S_impl_Cmd)⟩ : S_impl_Entry) y hy
  · cases h

/-! impl.in -/
def F_impl_in (fu : Nat) (n_0 : Int) (low_1 : Int) (high_2 : Int) : Option (Bool) :=
  (((bif (decide (n_0 ≥ low_1)) then (some (decide (n_0 ≤ high_2))) else (some false)) : Option Bool).bind fun m83 => (some m83))
def pc_impl_in (fu : Nat) : Pc RT den := fun f xs => none
def msk_impl_in (b : Nat) : List Nat := match b with | 200001 => [6] | _ => []
def lp_impl_in (fu : Nat) : Lp RT den (Bool) := fun b s k => none
theorem ev_impl_in (fu : Nat) (n_0 : Int) (low_1 : Int) (high_2 : Int) : evFun E (pc_impl_in fu) msk_impl_in (lp_impl_in fu) out_b 32 [(.int .i64 n_0), (.int .i64 low_1), (.int .i64 high_2)] = F_impl_in fu n_0 low_1 high_2 := by kernel_rfl
noncomputable def body_impl_in : Code := Try.f32.body.getD .skip
theorem lpok_impl_in (fu : Nat) : LpOk E (pc_impl_in fu) msk_impl_in (lp_impl_in fu) (loops 0 body_impl_in) := by
  have h : loops 0 body_impl_in = [] := by kernel_rfl
  rw [h]; intro p hp; cases hp
def S_impl_in (fu : Nat) (xs : List (D RT den)) : Option (Out RT den) := match xs with | [.int .i64 a0_0, .int .i64 a1_0, .int .i64 a2_0] => some ⟨Bool, F_impl_in fu a0_0 a1_0 a2_0, enc_b, fun _ => true⟩ | _ => none
theorem hpc_impl_in (fu : Nat) : ∀ f xs o, pc_impl_in fu f xs = some o → ∀ y, o.x = some y → Good E Try.prog f xs (o.g y) := by
  intro f xs o h
  cases h
theorem goodv_impl_in (fu : Nat) (n_0 : Int) (low_1 : Int) (high_2 : Int) (y : Bool) (hy : F_impl_in fu n_0 low_1 high_2 = some y) : Good E Try.prog 32 [(.int .i64 n_0), (.int .i64 low_1), (.int .i64 high_2)] (enc_b y) :=
  fun_good E_ok (pc_good (hpc_impl_in fu)) (fn := Try.f32) (c := body_impl_in) (out := out_b) (y := y) (by kernel_rfl) (by kernel_rfl) (by kernel_rfl) (lpok_impl_in fu) (fun d hd => out_b_enc d _ hd) ((ev_impl_in fu n_0 low_1 high_2).trans hy)
theorem good_impl_in (fu : Nat) : ∀ xs o, S_impl_in fu xs = some o → ∀ y, o.x = some y → Good E Try.prog 32 xs (o.g y) := by
  intro xs o h y hy
  unfold S_impl_in at h
  split at h
  · rename_i a0_0 a1_0 a2_0
    cases h
    exact goodv_impl_in fu a0_0 a1_0 a2_0 y hy
  · cases h

/-! impl.needs -/
def F_impl_needs (fu : Nat) (kind_0 : Int) : Option (Bool × Bool × Bool × Bool) :=
  ((F_impl_in fu kind_0 5 8).bind fun y104 => ((F_impl_in fu kind_0 5 6).bind fun y105 => (bif (kind_0 == 1) then (some ((!y105), true, (kind_0 != 4), y104)) else (some ((!y105),
    y104, (kind_0 != 4), y104)))))
def pc_impl_needs (fu : Nat) : Pc RT den := fun f xs => match f with | 32 => S_impl_in fu xs | _ => none
def msk_impl_needs (b : Nat) : List Nat := []
def lp_impl_needs (fu : Nat) : Lp RT den (Bool × Bool × Bool × Bool) := fun b s k => none
theorem ev_impl_needs (fu : Nat) (kind_0 : Int) : evFun E (pc_impl_needs fu) msk_impl_needs (lp_impl_needs fu) out_b_b_b_b 56 [(.int .i64 kind_0)] = F_impl_needs fu kind_0 := by kernel_rfl
noncomputable def body_impl_needs : Code := Try.f56.body.getD .skip
theorem lpok_impl_needs (fu : Nat) : LpOk E (pc_impl_needs fu) msk_impl_needs (lp_impl_needs fu) (loops 0 body_impl_needs) := by
  have h : loops 0 body_impl_needs = [] := by kernel_rfl
  rw [h]; intro p hp; cases hp
def S_impl_needs (fu : Nat) (xs : List (D RT den)) : Option (Out RT den) := match xs with | [.int .i64 a0_0] => some ⟨Bool × Bool × Bool × Bool, F_impl_needs fu a0_0, enc_b_b_b_b, fun _ => true⟩ | _ => none
theorem hpc_impl_needs (fu : Nat) : ∀ f xs o, pc_impl_needs fu f xs = some o → ∀ y, o.x = some y → Good E Try.prog f xs (o.g y) := by
  intro f xs o h
  unfold pc_impl_needs at h
  split at h
  · exact good_impl_in fu xs o h
  · cases h
theorem goodv_impl_needs (fu : Nat) (kind_0 : Int) (y : Bool × Bool × Bool × Bool) (hy : F_impl_needs fu kind_0 = some y) : Good E Try.prog 56 [(.int .i64 kind_0)] (enc_b_b_b_b y) :=
  fun_good E_ok (pc_good (hpc_impl_needs fu)) (fn := Try.f56) (c := body_impl_needs) (out := out_b_b_b_b) (y := y) (by kernel_rfl) (by kernel_rfl) (by kernel_rfl) (lpok_impl_needs fu) (fun d hd => out_b_b_b_b_enc d _ hd) ((ev_impl_needs fu kind_0).trans hy)
theorem good_impl_needs (fu : Nat) : ∀ xs o, S_impl_needs fu xs = some o → ∀ y, o.x = some y → Good E Try.prog 56 xs (o.g y) := by
  intro xs o h y hy
  unfold S_impl_needs at h
  split at h
  · rename_i a0_0
    cases h
    exact goodv_impl_needs fu a0_0 y hy
  · cases h

/-! impl.isName -/
def F_impl_isName (fu : Nat) (name_0 : Int) : Option (Bool) :=
  ((F_impl_in fu name_0 1 999).bind fun y106 => (some y106))
def pc_impl_isName (fu : Nat) : Pc RT den := fun f xs => match f with | 32 => S_impl_in fu xs | _ => none
def msk_impl_isName (b : Nat) : List Nat := []
def lp_impl_isName (fu : Nat) : Lp RT den (Bool) := fun b s k => none
theorem ev_impl_isName (fu : Nat) (name_0 : Int) : evFun E (pc_impl_isName fu) msk_impl_isName (lp_impl_isName fu) out_b 57 [(.int .i64 name_0)] = F_impl_isName fu name_0 := by kernel_rfl
noncomputable def body_impl_isName : Code := Try.f57.body.getD .skip
theorem lpok_impl_isName (fu : Nat) : LpOk E (pc_impl_isName fu) msk_impl_isName (lp_impl_isName fu) (loops 0 body_impl_isName) := by
  have h : loops 0 body_impl_isName = [] := by kernel_rfl
  rw [h]; intro p hp; cases hp
def S_impl_isName (fu : Nat) (xs : List (D RT den)) : Option (Out RT den) := match xs with | [.int .i64 a0_0] => some ⟨Bool, F_impl_isName fu a0_0, enc_b, fun _ => true⟩ | _ => none
theorem hpc_impl_isName (fu : Nat) : ∀ f xs o, pc_impl_isName fu f xs = some o → ∀ y, o.x = some y → Good E Try.prog f xs (o.g y) := by
  intro f xs o h
  unfold pc_impl_isName at h
  split at h
  · exact good_impl_in fu xs o h
  · cases h
theorem goodv_impl_isName (fu : Nat) (name_0 : Int) (y : Bool) (hy : F_impl_isName fu name_0 = some y) : Good E Try.prog 57 [(.int .i64 name_0)] (enc_b y) :=
  fun_good E_ok (pc_good (hpc_impl_isName fu)) (fn := Try.f57) (c := body_impl_isName) (out := out_b) (y := y) (by kernel_rfl) (by kernel_rfl) (by kernel_rfl) (lpok_impl_isName fu) (fun d hd => out_b_enc d _ hd) ((ev_impl_isName fu name_0).trans hy)
theorem good_impl_isName (fu : Nat) : ∀ xs o, S_impl_isName fu xs = some o → ∀ y, o.x = some y → Good E Try.prog 57 xs (o.g y) := by
  intro xs o h y hy
  unfold S_impl_isName at h
  split at h
  · rename_i a0_0
    cases h
    exact goodv_impl_isName fu a0_0 y hy
  · cases h

/-! impl.isAddress -/
def F_impl_isAddress (fu : Nat) (a_0 : Int) : Option (Bool) :=
  ((F_impl_in fu a_0 0 4294967295).bind fun y107 => (some y107))
def pc_impl_isAddress (fu : Nat) : Pc RT den := fun f xs => match f with | 32 => S_impl_in fu xs | _ => none
def msk_impl_isAddress (b : Nat) : List Nat := []
def lp_impl_isAddress (fu : Nat) : Lp RT den (Bool) := fun b s k => none
theorem ev_impl_isAddress (fu : Nat) (a_0 : Int) : evFun E (pc_impl_isAddress fu) msk_impl_isAddress (lp_impl_isAddress fu) out_b 58 [(.int .i64 a_0)] = F_impl_isAddress fu a_0 := by kernel_rfl
noncomputable def body_impl_isAddress : Code := Try.f58.body.getD .skip
theorem lpok_impl_isAddress (fu : Nat) : LpOk E (pc_impl_isAddress fu) msk_impl_isAddress (lp_impl_isAddress fu) (loops 0 body_impl_isAddress) := by
  have h : loops 0 body_impl_isAddress = [] := by kernel_rfl
  rw [h]; intro p hp; cases hp
def S_impl_isAddress (fu : Nat) (xs : List (D RT den)) : Option (Out RT den) := match xs with | [.int .i64 a0_0] => some ⟨Bool, F_impl_isAddress fu a0_0, enc_b, fun _ => true⟩ | _ => none
theorem hpc_impl_isAddress (fu : Nat) : ∀ f xs o, pc_impl_isAddress fu f xs = some o → ∀ y, o.x = some y → Good E Try.prog f xs (o.g y) := by
  intro f xs o h
  unfold pc_impl_isAddress at h
  split at h
  · exact good_impl_in fu xs o h
  · cases h
theorem goodv_impl_isAddress (fu : Nat) (a_0 : Int) (y : Bool) (hy : F_impl_isAddress fu a_0 = some y) : Good E Try.prog 58 [(.int .i64 a_0)] (enc_b y) :=
  fun_good E_ok (pc_good (hpc_impl_isAddress fu)) (fn := Try.f58) (c := body_impl_isAddress) (out := out_b) (y := y) (by kernel_rfl) (by kernel_rfl) (by kernel_rfl) (lpok_impl_isAddress fu) (fun d hd => out_b_enc d _ hd) ((ev_impl_isAddress fu a_0).trans hy)
theorem good_impl_isAddress (fu : Nat) : ∀ xs o, S_impl_isAddress fu xs = some o → ∀ y, o.x = some y → Good E Try.prog 58 xs (o.g y) := by
  intro xs o h y hy
  unfold S_impl_isAddress at h
  split at h
  · rename_i a0_0
    cases h
    exact goodv_impl_isAddress fu a0_0 y hy
  · cases h

/-! impl.isPort -/
def F_impl_isPort (fu : Nat) (n_0 : Int) : Option (Bool) :=
  ((F_impl_in fu n_0 0 65535).bind fun y113 => (some y113))
def pc_impl_isPort (fu : Nat) : Pc RT den := fun f xs => match f with | 32 => S_impl_in fu xs | _ => none
def msk_impl_isPort (b : Nat) : List Nat := []
def lp_impl_isPort (fu : Nat) : Lp RT den (Bool) := fun b s k => none
theorem ev_impl_isPort (fu : Nat) (n_0 : Int) : evFun E (pc_impl_isPort fu) msk_impl_isPort (lp_impl_isPort fu) out_b 66 [(.int .i64 n_0)] = F_impl_isPort fu n_0 := by kernel_rfl
noncomputable def body_impl_isPort : Code := Try.f66.body.getD .skip
theorem lpok_impl_isPort (fu : Nat) : LpOk E (pc_impl_isPort fu) msk_impl_isPort (lp_impl_isPort fu) (loops 0 body_impl_isPort) := by
  have h : loops 0 body_impl_isPort = [] := by kernel_rfl
  rw [h]; intro p hp; cases hp
def S_impl_isPort (fu : Nat) (xs : List (D RT den)) : Option (Out RT den) := match xs with | [.int .i64 a0_0] => some ⟨Bool, F_impl_isPort fu a0_0, enc_b, fun _ => true⟩ | _ => none
theorem hpc_impl_isPort (fu : Nat) : ∀ f xs o, pc_impl_isPort fu f xs = some o → ∀ y, o.x = some y → Good E Try.prog f xs (o.g y) := by
  intro f xs o h
  unfold pc_impl_isPort at h
  split at h
  · exact good_impl_in fu xs o h
  · cases h
theorem goodv_impl_isPort (fu : Nat) (n_0 : Int) (y : Bool) (hy : F_impl_isPort fu n_0 = some y) : Good E Try.prog 66 [(.int .i64 n_0)] (enc_b y) :=
  fun_good E_ok (pc_good (hpc_impl_isPort fu)) (fn := Try.f66) (c := body_impl_isPort) (out := out_b) (y := y) (by kernel_rfl) (by kernel_rfl) (by kernel_rfl) (lpok_impl_isPort fu) (fun d hd => out_b_enc d _ hd) ((ev_impl_isPort fu n_0).trans hy)
theorem good_impl_isPort (fu : Nat) : ∀ xs o, S_impl_isPort fu xs = some o → ∀ y, o.x = some y → Good E Try.prog 66 xs (o.g y) := by
  intro xs o h y hy
  unfold S_impl_isPort at h
  split at h
  · rename_i a0_0
    cases h
    exact goodv_impl_isPort fu a0_0 y hy
  · cases h

/-! impl.isNumber -/
def F_impl_isNumber (fu : Nat) (x_0 : S_impl_Cmd) : Option (Bool) :=
  (bif (x_0.Kind == 1) then ((F_impl_in fu x_0.Number 0 9).bind fun y108 => (some y108)) else (bif (x_0.Kind == 2) then ((F_impl_in fu x_0.Number 0 9).bind fun y109 => (some y109)) else
    (bif (x_0.Kind == 3) then ((F_impl_in fu x_0.Number 1 3).bind fun y110 => (some y110)) else (bif (x_0.Kind == 9) then ((F_impl_in fu x_0.Number 0 1).bind fun y111 => (some y111)) else
    ((F_impl_isPort fu x_0.Number).bind fun y112 => (some y112))))))
def pc_impl_isNumber (fu : Nat) : Pc RT den := fun f xs => match f with | 32 => S_impl_in fu xs | 66 => S_impl_isPort fu xs | _ => none
def msk_impl_isNumber (b : Nat) : List Nat := []
def lp_impl_isNumber (fu : Nat) : Lp RT den (Bool) := fun b s k => none
theorem ev_impl_isNumber (fu : Nat) (x_0 : S_impl_Cmd) : evFun E (pc_impl_isNumber fu) msk_impl_isNumber (lp_impl_isNumber fu) out_b 59 [(.agg [(.int .i64 x_0.Kind), (.int .i64 x_0.Expect), (.int .i64 x_0.Name), (.int .i64 x_0.Addr), (.int .i64 x_0.Number), (.int .i64 x_0.Proto)])] = F_impl_isNumber fu x_0 := by kernel_rfl
noncomputable def body_impl_isNumber : Code := Try.f59.body.getD .skip
theorem lpok_impl_isNumber (fu : Nat) : LpOk E (pc_impl_isNumber fu) msk_impl_isNumber (lp_impl_isNumber fu) (loops 0 body_impl_isNumber) := by
  have h : loops 0 body_impl_isNumber = [] := by kernel_rfl
  rw [h]; intro p hp; cases hp
def S_impl_isNumber (fu : Nat) (xs : List (D RT den)) : Option (Out RT den) := match xs with | [.agg [.int .i64 a0_1, .int .i64 a0_2, .int .i64 a0_3, .int .i64 a0_4, .int .i64 a0_5, .int .i64 a0_6]] => some ⟨Bool, F_impl_isNumber fu (⟨a0_1, a0_2, a0_3, a0_4, a0_5, a0_6⟩ : S_impl_Cmd), enc_b, fun _ => true⟩ | _ => none
theorem hpc_impl_isNumber (fu : Nat) : ∀ f xs o, pc_impl_isNumber fu f xs = some o → ∀ y, o.x = some y → Good E Try.prog f xs (o.g y) := by
  intro f xs o h
  unfold pc_impl_isNumber at h
  split at h
  · exact good_impl_in fu xs o h
  · exact good_impl_isPort fu xs o h
  · cases h
theorem goodv_impl_isNumber (fu : Nat) (x_0 : S_impl_Cmd) (y : Bool) (hy : F_impl_isNumber fu x_0 = some y) : Good E Try.prog 59 [(.agg [(.int .i64 x_0.Kind), (.int .i64 x_0.Expect), (.int .i64 x_0.Name), (.int .i64 x_0.Addr), (.int .i64 x_0.Number), (.int .i64 x_0.Proto)])] (enc_b y) :=
  fun_good E_ok (pc_good (hpc_impl_isNumber fu)) (fn := Try.f59) (c := body_impl_isNumber) (out := out_b) (y := y) (by kernel_rfl) (by kernel_rfl) (by kernel_rfl) (lpok_impl_isNumber fu) (fun d hd => out_b_enc d _ hd) ((ev_impl_isNumber fu x_0).trans hy)
theorem good_impl_isNumber (fu : Nat) : ∀ xs o, S_impl_isNumber fu xs = some o → ∀ y, o.x = some y → Good E Try.prog 59 xs (o.g y) := by
  intro xs o h y hy
  unfold S_impl_isNumber at h
  split at h
  · rename_i a0_1 a0_2 a0_3 a0_4 a0_5 a0_6
    cases h
    exact goodv_impl_isNumber fu (⟨a0_1, a0_2, a0_3, a0_4, a0_5, a0_6⟩ : S_impl_Cmd) y hy
  · cases h

/-! impl.isProto -/
def F_impl_isProto (fu : Nat) (n_0 : Int) : Option (Bool) :=
  (((bif (n_0 == 6) then (some true) else (some (n_0 == 17))) : Option Bool).bind fun m114 => (some m114))
def pc_impl_isProto (fu : Nat) : Pc RT den := fun f xs => none
def msk_impl_isProto (b : Nat) : List Nat := match b with | 200001 => [2] | _ => []
def lp_impl_isProto (fu : Nat) : Lp RT den (Bool) := fun b s k => none
theorem ev_impl_isProto (fu : Nat) (n_0 : Int) : evFun E (pc_impl_isProto fu) msk_impl_isProto (lp_impl_isProto fu) out_b 60 [(.int .i64 n_0)] = F_impl_isProto fu n_0 := by kernel_rfl
noncomputable def body_impl_isProto : Code := Try.f60.body.getD .skip
theorem lpok_impl_isProto (fu : Nat) : LpOk E (pc_impl_isProto fu) msk_impl_isProto (lp_impl_isProto fu) (loops 0 body_impl_isProto) := by
  have h : loops 0 body_impl_isProto = [] := by kernel_rfl
  rw [h]; intro p hp; cases hp
def S_impl_isProto (fu : Nat) (xs : List (D RT den)) : Option (Out RT den) := match xs with | [.int .i64 a0_0] => some ⟨Bool, F_impl_isProto fu a0_0, enc_b, fun _ => true⟩ | _ => none
theorem hpc_impl_isProto (fu : Nat) : ∀ f xs o, pc_impl_isProto fu f xs = some o → ∀ y, o.x = some y → Good E Try.prog f xs (o.g y) := by
  intro f xs o h
  cases h
theorem goodv_impl_isProto (fu : Nat) (n_0 : Int) (y : Bool) (hy : F_impl_isProto fu n_0 = some y) : Good E Try.prog 60 [(.int .i64 n_0)] (enc_b y) :=
  fun_good E_ok (pc_good (hpc_impl_isProto fu)) (fn := Try.f60) (c := body_impl_isProto) (out := out_b) (y := y) (by kernel_rfl) (by kernel_rfl) (by kernel_rfl) (lpok_impl_isProto fu) (fun d hd => out_b_enc d _ hd) ((ev_impl_isProto fu n_0).trans hy)
theorem good_impl_isProto (fu : Nat) : ∀ xs o, S_impl_isProto fu xs = some o → ∀ y, o.x = some y → Good E Try.prog 60 xs (o.g y) := by
  intro xs o h y hy
  unfold S_impl_isProto at h
  split at h
  · rename_i a0_0
    cases h
    exact goodv_impl_isProto fu a0_0 y hy
  · cases h
end Go.Proofs.Ytbcggnoogkfgkaa.Pc
