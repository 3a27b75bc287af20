/- The functions' evaluated forms, each a proved summary. Conditions: none. -/
import Derived.Test.YtbcggnoogkfgkaaPcF0
namespace Go.Proofs.Ytbcggnoogkfgkaa.Pc
open Go Go.RowKit Go.Proofs Vm
set_option linter.unusedVariables false
set_option linter.unusedSimpArgs false
set_option maxRecDepth 100000
/-! impl.CmdFault -/
def F_impl_CmdFault (fu : Nat) (x_0 : S_impl_Cmd) : Option (Int) :=
  ((F_impl_in fu x_0.Kind 1 9).bind fun y84 => (bif (!y84) then (some 1) else ((F_impl_needs fu x_0.Kind).bind fun y85 => ((((F_impl_in fu x_0.Expect (-1) 1000000).bind fun y86 =>
    (bif (!y86) then (some true) else (bif y85.1 then ((F_impl_isName fu x_0.Name).bind fun y87 => (bif (!y87) then (some true) else (bif y85.2.1 then ((F_impl_isAddress fu x_0.Addr).bind fun y88 =>
    (bif (!y88) then (some true) else (bif y85.2.2.1 then ((F_impl_isNumber fu x_0).bind fun y89 => (bif (!y89) then (some true) else (bif y85.2.2.2 then ((F_impl_isProto fu x_0.Proto).bind fun y90 =>
    (some (!y90))) else (some false)))) else (bif y85.2.2.2 then ((F_impl_isProto fu x_0.Proto).bind fun y91 => (some (!y91))) else (some false))))) else (bif y85.2.2.1 then
    ((F_impl_isNumber fu x_0).bind fun y92 => (bif (!y92) then (some true) else (bif y85.2.2.2 then ((F_impl_isProto fu x_0.Proto).bind fun y93 => (some (!y93))) else (some false)))) else
    (bif y85.2.2.2 then ((F_impl_isProto fu x_0.Proto).bind fun y94 => (some (!y94))) else (some false)))))) else (bif y85.2.1 then ((F_impl_isAddress fu x_0.Addr).bind fun y95 =>
    (bif (!y95) then (some true) else (bif y85.2.2.1 then ((F_impl_isNumber fu x_0).bind fun y96 => (bif (!y96) then (some true) else (bif y85.2.2.2 then ((F_impl_isProto fu x_0.Proto).bind fun y97 =>
    (some (!y97))) else (some false)))) else (bif y85.2.2.2 then ((F_impl_isProto fu x_0.Proto).bind fun y98 => (some (!y98))) else (some false))))) else (bif y85.2.2.1 then
    ((F_impl_isNumber fu x_0).bind fun y99 => (bif (!y99) then (some true) else (bif y85.2.2.2 then ((F_impl_isProto fu x_0.Proto).bind fun y100 => (some (!y100))) else (some false)))) else
    (bif y85.2.2.2 then ((F_impl_isProto fu x_0.Proto).bind fun y101 => (some (!y101))) else (some false))))))) : Option Bool).bind fun m102 => (bif m102 then (some 3) else (((bif (!y85.1) then
    (bif (x_0.Name != 0) then (some true) else (bif (!y85.2.1) then (bif (x_0.Addr != 0) then (some true) else (bif (!y85.2.2.1) then (bif (x_0.Number != 0) then (some true) else
    (bif (!y85.2.2.2) then (some (x_0.Proto != 0)) else (some false))) else (bif (!y85.2.2.2) then (some (x_0.Proto != 0)) else (some false)))) else (bif (!y85.2.2.1) then (bif (x_0.Number != 0) then
    (some true) else (bif (!y85.2.2.2) then (some (x_0.Proto != 0)) else (some false))) else (bif (!y85.2.2.2) then (some (x_0.Proto != 0)) else (some false))))) else (bif (!y85.2.1) then
    (bif (x_0.Addr != 0) then (some true) else (bif (!y85.2.2.1) then (bif (x_0.Number != 0) then (some true) else (bif (!y85.2.2.2) then (some (x_0.Proto != 0)) else (some false))) else
    (bif (!y85.2.2.2) then (some (x_0.Proto != 0)) else (some false)))) else (bif (!y85.2.2.1) then (bif (x_0.Number != 0) then (some true) else (bif (!y85.2.2.2) then (some (x_0.Proto != 0)) else
    (some false))) else (bif (!y85.2.2.2) then (some (x_0.Proto != 0)) else (some false))))) : Option Bool).bind fun m103 => (bif m103 then (some 1) else (some 0))))))))
def pc_impl_CmdFault (fu : Nat) : Pc RT den := fun f xs => match f with | 32 => S_impl_in fu xs | 56 => S_impl_needs fu xs | 57 => S_impl_isName fu xs | 58 => S_impl_isAddress fu xs | 59 => S_impl_isNumber fu xs | 60 => S_impl_isProto fu xs | _ => none
def msk_impl_CmdFault (b : Nat) : List Nat := match b with | 200004 => [19] | 200006 => [59] | _ => []
def lp_impl_CmdFault (fu : Nat) : Lp RT den (Int) := fun b s k => none
theorem ev_impl_CmdFault (fu : Nat) (x_0 : S_impl_Cmd) : evFun E (pc_impl_CmdFault fu) msk_impl_CmdFault (lp_impl_CmdFault fu) out_i64 33 [(.agg [(.int .i64 x_0.Kind), (.int .i64 x_0.Expect), (.int .i64 x_0.Name), (.int .i64 x_0.Addr), (.int .i64 x_0.Number), (.int .i64 x_0.Proto)])] = F_impl_CmdFault fu x_0 := by kernel_rfl
noncomputable def body_impl_CmdFault : Code := Try.f33.body.getD .skip
theorem lpok_impl_CmdFault (fu : Nat) : LpOk E (pc_impl_CmdFault fu) msk_impl_CmdFault (lp_impl_CmdFault fu) (loops 0 body_impl_CmdFault) := by
  have h : loops 0 body_impl_CmdFault = [] := by kernel_rfl
  rw [h]; intro p hp; cases hp
def S_impl_CmdFault (fu : Nat) (xs : List (D RT den)) : Option (Out RT den) := match xs with | [.agg [.int .i64 a0_1, .int .i64 a0_2, .int .i64 a0_3, .int .i64 a0_4, .int .i64 a0_5, .int .i64 a0_6]] => some ⟨Int, F_impl_CmdFault fu (⟨a0_1, a0_2, a0_3, a0_4, a0_5, a0_6⟩ : S_impl_Cmd), enc_i64, fun _ => true⟩ | _ => none
theorem hpc_impl_CmdFault (fu : Nat) : ∀ f xs o, pc_impl_CmdFault fu f xs = some o → ∀ y, o.x = some y → Good E Try.prog f xs (o.g y) := by
  intro f xs o h
  unfold pc_impl_CmdFault at h
  split at h
  · exact good_impl_in fu xs o h
  · exact good_impl_needs fu xs o h
  · exact good_impl_isName fu xs o h
  · exact good_impl_isAddress fu xs o h
  · exact good_impl_isNumber fu xs o h
  · exact good_impl_isProto fu xs o h
  · cases h
theorem goodv_impl_CmdFault (fu : Nat) (x_0 : S_impl_Cmd) (y : Int) (hy : F_impl_CmdFault fu x_0 = some y) : Good E Try.prog 33 [(.agg [(.int .i64 x_0.Kind), (.int .i64 x_0.Expect), (.int .i64 x_0.Name), (.int .i64 x_0.Addr), (.int .i64 x_0.Number), (.int .i64 x_0.Proto)])] (enc_i64 y) :=
  fun_good E_ok (pc_good (hpc_impl_CmdFault fu)) (fn := Try.f33) (c := body_impl_CmdFault) (out := out_i64) (y := y) (by kernel_rfl) (by kernel_rfl) (by kernel_rfl) (lpok_impl_CmdFault fu) (fun d hd => out_i64_enc d _ hd) ((ev_impl_CmdFault fu x_0).trans hy)
theorem good_impl_CmdFault (fu : Nat) : ∀ xs o, S_impl_CmdFault fu xs = some o → ∀ y, o.x = some y → Good E Try.prog 33 xs (o.g y) := by
  intro xs o h y hy
  unfold S_impl_CmdFault at h
  split at h
  · rename_i a0_1 a0_2 a0_3 a0_4 a0_5 a0_6
    cases h
    exact goodv_impl_CmdFault fu (⟨a0_1, a0_2, a0_3, a0_4, a0_5, a0_6⟩ : S_impl_Cmd) y hy
  · cases h

/-! impl.EntryFault -/
def F_impl_EntryFault (fu : Nat) (x_0 : S_impl_Entry) : Option (Int) :=
  ((((F_impl_in fu x_0.Term 1 100000).bind fun y78 => (bif (!y78) then (some true) else ((F_impl_in fu x_0.Client 0 999).bind fun y79 => (bif (!y79) then (some true) else
    ((F_impl_in fu x_0.Seq 0 1000000).bind fun y80 => (some (!y80))))))) : Option Bool).bind fun m81 => (bif m81 then (some 3) else (bif (!((x_0.Client == 0) == (x_0.Seq == 0))) then
    (some 1) else (bif (x_0.Client != 0) then ((F_impl_CmdFault fu x_0.Cmd).bind fun y82 => (some y82)) else (bif (!((x_0.Cmd.Kind == 0) && ((x_0.Cmd.Expect == 0) && ((x_0.Cmd.Name == 0) &&
    ((x_0.Cmd.Addr == 0) && ((x_0.Cmd.Number == 0) && ((x_0.Cmd.Proto == 0) && true))))))) then (some 1) else (some 0))))))
def pc_impl_EntryFault (fu : Nat) : Pc RT den := fun f xs => match f with | 32 => S_impl_in fu xs | 33 => S_impl_CmdFault fu xs | _ => none
def msk_impl_EntryFault (b : Nat) : List Nat := match b with | 200001 => [3] | _ => []
def lp_impl_EntryFault (fu : Nat) : Lp RT den (Int) := fun b s k => none
theorem ev_impl_EntryFault (fu : Nat) (x_0 : S_impl_Entry) : evFun E (pc_impl_EntryFault fu) msk_impl_EntryFault (lp_impl_EntryFault fu) out_i64 16 [(.agg [(.int .i64 x_0.Term), (.int .i64 x_0.Client), (.int .i64 x_0.Seq), (.int .i64 x_0.Cmd.Kind), (.int .i64 x_0.Cmd.Expect), (.int .i64 x_0.Cmd.Name), (.int .i64 x_0.Cmd.Addr), (.int .i64 x_0.Cmd.Number), (.int .i64 x_0.Cmd.Proto)])] = F_impl_EntryFault fu x_0 := by kernel_rfl
noncomputable def body_impl_EntryFault : Code := Try.f16.body.getD .skip
theorem lpok_impl_EntryFault (fu : Nat) : LpOk E (pc_impl_EntryFault fu) msk_impl_EntryFault (lp_impl_EntryFault fu) (loops 0 body_impl_EntryFault) := by
  have h : loops 0 body_impl_EntryFault = [] := by kernel_rfl
  rw [h]; intro p hp; cases hp
def S_impl_EntryFault (fu : Nat) (xs : List (D RT den)) : Option (Out RT den) := match xs with | [.agg [.int .i64 a0_1, .int .i64 a0_2, .int .i64 a0_3, .int .i64 a0_5, .int .i64 a0_6, .int .i64 a0_7, .int .i64 a0_8, .int .i64 a0_9, .int .i64 a0_10]] => some ⟨Int, F_impl_EntryFault fu (⟨a0_1, a0_2, a0_3, (⟨a0_5, a0_6, a0_7, a0_8, a0_9, a0_10⟩ : S_impl_Cmd)⟩ : S_impl_Entry), enc_i64, fun _ => true⟩ | _ => none
theorem hpc_impl_EntryFault (fu : Nat) : ∀ f xs o, pc_impl_EntryFault fu f xs = some o → ∀ y, o.x = some y → Good E Try.prog f xs (o.g y) := by
  intro f xs o h
  unfold pc_impl_EntryFault at h
  split at h
  · exact good_impl_in fu xs o h
  · exact good_impl_CmdFault fu xs o h
  · cases h
theorem goodv_impl_EntryFault (fu : Nat) (x_0 : S_impl_Entry) (y : Int) (hy : F_impl_EntryFault fu x_0 = some y) : Good E Try.prog 16 [(.agg [(.int .i64 x_0.Term), (.int .i64 x_0.Client), (.int .i64 x_0.Seq), (.int .i64 x_0.Cmd.Kind), (.int .i64 x_0.Cmd.Expect), (.int .i64 x_0.Cmd.Name), (.int .i64 x_0.Cmd.Addr), (.int .i64 x_0.Cmd.Number), (.int .i64 x_0.Cmd.Proto)])] (enc_i64 y) :=
  fun_good E_ok (pc_good (hpc_impl_EntryFault fu)) (fn := Try.f16) (c := body_impl_EntryFault) (out := out_i64) (y := y) (by kernel_rfl) (by kernel_rfl) (by kernel_rfl) (lpok_impl_EntryFault fu) (fun d hd => out_i64_enc d _ hd) ((ev_impl_EntryFault fu x_0).trans hy)
theorem good_impl_EntryFault (fu : Nat) : ∀ xs o, S_impl_EntryFault fu xs = some o → ∀ y, o.x = some y → Good E Try.prog 16 xs (o.g y) := by
  intro xs o h y hy
  unfold S_impl_EntryFault at h
  split at h
  · rename_i a0_1 a0_2 a0_3 a0_5 a0_6 a0_7 a0_8 a0_9 a0_10
    cases h
    exact goodv_impl_EntryFault fu (⟨a0_1, a0_2, a0_3, (⟨a0_5, a0_6, a0_7, a0_8, a0_9, a0_10⟩ : S_impl_Cmd)⟩ : S_impl_Entry) y hy
  · cases h

/-! laws.FnExactEntryFault -/
def F_laws_FnExactEntryFault (fu : Nat) (aX_0 : S_laws_Entry) : Option (Bool) :=
  ((F_laws_toEntry fu aX_0).bind fun y22 => ((F_spec_EntryFault fu y22).bind fun y23 => ((F_laws_toEntry fu aX_0).bind fun y24 => ((F_impl_EntryFault fu y24).bind fun y25 => (bif (y25 != y23) then
    (some false) else (some true))))))
def pc_laws_FnExactEntryFault (fu : Nat) : Pc RT den := fun f xs => match f with | 14 => S_spec_EntryFault fu xs | 15 => S_laws_toEntry fu xs | 16 => S_impl_EntryFault fu xs | _ => none
def msk_laws_FnExactEntryFault (b : Nat) : List Nat := []
def lp_laws_FnExactEntryFault (fu : Nat) : Lp RT den (Bool) := fun b s k => none
theorem ev_laws_FnExactEntryFault (fu : Nat) (aX_0 : S_laws_Entry) : evFun E (pc_laws_FnExactEntryFault fu) msk_laws_FnExactEntryFault (lp_laws_FnExactEntryFault fu) out_b 4 [(.agg [(.int .i64 aX_0.Term), (.int .i64 aX_0.Client), (.int .i64 aX_0.Seq), (.int .i64 aX_0.Cmd.Kind), (.int .i64 aX_0.Cmd.Expect), (.int .i64 aX_0.Cmd.Name), (.int .i64 aX_0.Cmd.Addr), (.int .i64 aX_0.Cmd.Number), (.int .i64 aX_0.Cmd.Proto)])] = F_laws_FnExactEntryFault fu aX_0 := by kernel_rfl
noncomputable def body_laws_FnExactEntryFault : Code := Try.f4.body.getD .skip
theorem lpok_laws_FnExactEntryFault (fu : Nat) : LpOk E (pc_laws_FnExactEntryFault fu) msk_laws_FnExactEntryFault (lp_laws_FnExactEntryFault fu) (loops 0 body_laws_FnExactEntryFault) := by
  have h : loops 0 body_laws_FnExactEntryFault = [] := by kernel_rfl
  rw [h]; intro p hp; cases hp
def S_laws_FnExactEntryFault (fu : Nat) (xs : List (D RT den)) : Option (Out RT den) := match xs with | [.agg [.int .i64 a0_1, .int .i64 a0_2, .int .i64 a0_3, .int .i64 a0_5, .int .i64 a0_6, .int .i64 a0_7, .int .i64 a0_8, .int .i64 a0_9, .int .i64 a0_10]] => some ⟨Bool, F_laws_FnExactEntryFault fu (⟨a0_1, a0_2, a0_3, (⟨a0_5, a0_6, a0_7, a0_8, a0_9, a0_10⟩ : S_impl_Cmd)⟩ : S_laws_Entry), enc_b, fun _ => true⟩ | _ => none
theorem hpc_laws_FnExactEntryFault (fu : Nat) : ∀ f xs o, pc_laws_FnExactEntryFault fu f xs = some o → ∀ y, o.x = some y → Good E Try.prog f xs (o.g y) := by
  intro f xs o h
  unfold pc_laws_FnExactEntryFault at h
  split at h
  · exact good_spec_EntryFault fu xs o h
  · exact good_laws_toEntry fu xs o h
  · exact good_impl_EntryFault fu xs o h
  · cases h
theorem goodv_laws_FnExactEntryFault (fu : Nat) (aX_0 : S_laws_Entry) (y : Bool) (hy : F_laws_FnExactEntryFault fu aX_0 = some y) : Good E Try.prog 4 [(.agg [(.int .i64 aX_0.Term), (.int .i64 aX_0.Client), (.int .i64 aX_0.Seq), (.int .i64 aX_0.Cmd.Kind), (.int .i64 aX_0.Cmd.Expect), (.int .i64 aX_0.Cmd.Name), (.int .i64 aX_0.Cmd.Addr), (.int .i64 aX_0.Cmd.Number), (.int .i64 aX_0.Cmd.Proto)])] (enc_b y) :=
  fun_good E_ok (pc_good (hpc_laws_FnExactEntryFault fu)) (fn := Try.f4) (c := body_laws_FnExactEntryFault) (out := out_b) (y := y) (by kernel_rfl) (by kernel_rfl) (by kernel_rfl) (lpok_laws_FnExactEntryFault fu) (fun d hd => out_b_enc d _ hd) ((ev_laws_FnExactEntryFault fu aX_0).trans hy)
theorem good_laws_FnExactEntryFault (fu : Nat) : ∀ xs o, S_laws_FnExactEntryFault fu xs = some o → ∀ y, o.x = some y → Good E Try.prog 4 xs (o.g y) := by
  intro xs o h y hy
  unfold S_laws_FnExactEntryFault at h
  split at h
  · rename_i a0_1 a0_2 a0_3 a0_5 a0_6 a0_7 a0_8 a0_9 a0_10
    cases h
    exact goodv_laws_FnExactEntryFault fu (⟨a0_1, a0_2, a0_3, (⟨a0_5, a0_6, a0_7, a0_8, a0_9, a0_10⟩ : S_impl_Cmd)⟩ : S_laws_Entry) y hy
  · cases h

/-! spec.LogFault -/
def F_spec_LogFault_B0 {ρ : Type} (fu : Nat) (log0_0 : (Sl S_impl_Entry)) (k0 : Int → Option ρ) (k1 : Option ρ) (k2 : Option ρ) (i3_1 : Int) (go : Int → Option ρ) : Option ρ :=
  (bif (decide (i3_1 < ((log0_0.n : Nat) : Int))) then ((bif (decide (0 ≤ i3_1) && decide ((Int.toNat i3_1) < log0_0.n)) then some () else none : Option Unit).bind fun _ =>
    ((F_spec_EntryFault fu (log0_0.f (Int.toNat i3_1))).bind fun y122 => (bif (y122 != 0) then (k0 y122) else (((bif (decide (i3_1 > 0)) then ((bif (decide (0 ≤ i3_1) && decide ((Int.toNat i3_1) < log0_0.n)) then
    some () else none : Option Unit).bind fun _ => ((bif (decide (0 ≤ (IntKind.wrap .i64 (i3_1 - 1))) && decide ((Int.toNat (IntKind.wrap .i64 (i3_1 - 1))) < log0_0.n)) then some () else
    none : Option Unit).bind fun _ => (some (decide ((log0_0.f (Int.toNat i3_1)).Term < (log0_0.f (Int.toNat (IntKind.wrap .i64 (i3_1 - 1)))).Term))))) else (some false)) : Option Bool).bind fun m123 =>
    (bif m123 then k1 else (go (IntKind.wrap .i64 (i3_1 + 1)))))))) else k2)
def F_spec_LogFault (fu : Nat) (log_0 : (Sl S_impl_Entry)) : Option (Int) :=
  (bif (decide (((log_0.n : Nat) : Int) > 40)) then (some 2) else (L (fun w0 go0 => F_spec_LogFault_B0 fu log_0 (fun z124 => (some z124)) (some 1) (some 0) w0 go0) fu (0 : Int)))
def pc_spec_LogFault (fu : Nat) : Pc RT den := fun f xs => match f with | 14 => S_spec_EntryFault fu xs | _ => none
def msk_spec_LogFault (b : Nat) : List Nat := match b with | 0 => [1, 2, 4, 5, 6, 7, 8, 9, 10, 11, 12, 13, 14, 15, 16, 17, 18, 19, 20, 21, 22, 23, 24, 25, 26, 27, 28, 29, 30, 31, 32, 33, 34, 35, 36, 37] | 100000 => [0, 1, 3, 4, 5, 6, 7, 8, 9, 10, 11, 12, 13, 14, 15, 16, 17, 18, 19, 20, 21, 22, 23, 24, 25, 26, 27, 28, 29, 30, 31, 32, 33, 34, 35, 36, 37] | 200009 => [37] | _ => []
def ps_spec_LogFault_0 : List (Pat RT) := [.flat (.rs .impl_Entry), .flat .dead, .flat .dead, .flat (.int .i64), .flat .dead, .flat .dead, .flat .dead, .flat .dead, .flat .dead, .flat .dead, .flat .dead, .flat .dead, .flat .dead, .flat .dead, .flat .dead, .flat .dead, .flat .dead, .flat .dead, .flat .dead, .flat .dead, .flat .dead, .flat .dead, .flat .dead, .flat .dead, .flat .dead, .flat .dead, .flat .dead, .flat .dead, .flat .dead, .flat .dead, .flat .dead, .flat .dead, .flat .dead, .flat .dead, .flat .dead, .flat .dead, .flat .dead, .flat .dead]
def os_spec_LogFault_0 : List (OP RT) := []
def conv_spec_LogFault_0 (r : Raw den ps_spec_LogFault_0 os_spec_LogFault_0) : ((Sl S_impl_Entry)) × (Int) := (r.1.1, r.1.2.2.2.1)
def back_spec_LogFault_0 (c : (Sl S_impl_Entry)) (w : Int) : St RT den := ⟨[(.rs c.z .impl_Entry c.n c.f), .dead, .dead, (.int .i64 w), .dead, .dead, .dead, .dead, .dead, .dead, .dead, .dead, .dead, .dead, .dead, .dead, .dead, .dead, .dead, .dead, .dead, .dead, .dead, .dead, .dead, .dead, .dead, .dead, .dead, .dead, .dead, .dead, .dead, .dead, .dead, .dead, .dead, .dead], []⟩
def Bk_spec_LogFault_0 {ρ : Type} (fu : Nat) (c : (Sl S_impl_Entry)) (k : Ex → St RT den → Option ρ) (w : Int) (go : (Int) → Option ρ) : Option ρ := F_spec_LogFault_B0 fu c (fun a0 => k .ret ⟨[.dead, .dead, (.int .i64 a0), .dead, .dead, .dead, .dead, .dead, .dead, .dead, .dead, .dead, .dead, .dead, .dead, .dead, .dead, .dead, .dead, .dead, .dead, .dead, .dead, .dead, .dead, .dead, .dead, .dead, .dead, .dead, .dead, .dead, .dead, .dead, .dead, .dead, .dead, .dead], []⟩) (k .ret ⟨[.dead, .dead, (.int .i64 1), .dead, .dead, .dead, .dead, .dead, .dead, .dead, .dead, .dead, .dead, .dead, .dead, .dead, .dead, .dead, .dead, .dead, .dead, .dead, .dead, .dead, .dead, .dead, .dead, .dead, .dead, .dead, .dead, .dead, .dead, .dead, .dead, .dead, .dead, .dead], []⟩) (k (.exit 0) ⟨[.dead, .dead, .dead, .dead, .dead, .dead, .dead, .dead, .dead, .dead, .dead, .dead, .dead, .dead, .dead, .dead, .dead, .dead, .dead, .dead, .dead, .dead, .dead, .dead, .dead, .dead, .dead, .dead, .dead, .dead, .dead, .dead, .dead, .dead, .dead, .dead, .dead, .dead], []⟩) w go
def lp_spec_LogFault (fu : Nat) : Lp RT den (Int) := fun b s k => match b with | 0 => handle ps_spec_LogFault_0 os_spec_LogFault_0 conv_spec_LogFault_0 (Bk_spec_LogFault_0 fu) fu s k | _ => none
theorem ev_spec_LogFault (fu : Nat) (log_0 : (Sl S_impl_Entry)) : evFun E (pc_spec_LogFault fu) msk_spec_LogFault (lp_spec_LogFault fu) out_i64 17 [(.rs log_0.z .impl_Entry log_0.n log_0.f)] = F_spec_LogFault fu log_0 := by kernel_rfl
noncomputable def body_spec_LogFault : Code := Try.f17.body.getD .skip
noncomputable def lc_spec_LogFault_0 : Code := ((loops 0 body_spec_LogFault).getD 0 (0, .skip)).2
theorem round_spec_LogFault_0 (fu : Nat) (it : St RT den → Option (Int)) (k : Ex → St RT den → Option (Int)) c w : evCode E (pc_spec_LogFault fu) msk_spec_LogFault (lp_spec_LogFault fu) 0 lc_spec_LogFault_0 (back_spec_LogFault_0 c w) (after (msk_spec_LogFault 0) (msk_spec_LogFault 100000) 0 it k) = Bk_spec_LogFault_0 fu c k w (fun w => it (back_spec_LogFault_0 c w)) := by kernel_rfl
theorem lpok_spec_LogFault_0 (fu : Nat) : ∀ s k r, lp_spec_LogFault fu 0 s k = some r → ∃ fuel, iter (msk_spec_LogFault 0) (msk_spec_LogFault 100000) s.objs.length (evCode E (pc_spec_LogFault fu) msk_spec_LogFault (lp_spec_LogFault fu) 0 lc_spec_LogFault_0) fuel s k = some r :=
  handle_ok (ps := ps_spec_LogFault_0) (os := os_spec_LogFault_0) (conv := conv_spec_LogFault_0) (B := Bk_spec_LogFault_0 fu) (fu := fu) back_spec_LogFault_0 (fun raw => by kernel_rfl) 0 (fun c w => by kernel_rfl) (round_spec_LogFault_0 fu)
theorem lpok_spec_LogFault (fu : Nat) : LpOk E (pc_spec_LogFault fu) msk_spec_LogFault (lp_spec_LogFault fu) (loops 0 body_spec_LogFault) := loop_all 1 (by kernel_rfl) fun i hi => match i, hi with
  | 0, _ => by
    have h : (loops 0 body_spec_LogFault).getD 0 (0, .skip) = (0, lc_spec_LogFault_0) := by kernel_rfl
    rw [h]; exact lpok_spec_LogFault_0 fu
  | i + 1, hi => absurd hi (by omega)
def S_spec_LogFault (fu : Nat) (xs : List (D RT den)) : Option (Out RT den) := match xs with | [.rs za0_0 .impl_Entry na0_0 fa0_0] => some ⟨Int, F_spec_LogFault fu (⟨za0_0, na0_0, fa0_0⟩ : (Sl S_impl_Entry)), enc_i64, fun _ => true⟩ | _ => none
theorem hpc_spec_LogFault (fu : Nat) : ∀ f xs o, pc_spec_LogFault fu f xs = some o → ∀ y, o.x = some y → Good E Try.prog f xs (o.g y) := by
  intro f xs o h
  unfold pc_spec_LogFault at h
  split at h
  · exact good_spec_EntryFault fu xs o h
  · cases h
theorem goodv_spec_LogFault (fu : Nat) (log_0 : (Sl S_impl_Entry)) (y : Int) (hy : F_spec_LogFault fu log_0 = some y) : Good E Try.prog 17 [(.rs log_0.z .impl_Entry log_0.n log_0.f)] (enc_i64 y) :=
  fun_good E_ok (pc_good (hpc_spec_LogFault fu)) (fn := Try.f17) (c := body_spec_LogFault) (out := out_i64) (y := y) (by kernel_rfl) (by kernel_rfl) (by kernel_rfl) (lpok_spec_LogFault fu) (fun d hd => out_i64_enc d _ hd) ((ev_spec_LogFault fu log_0).trans hy)
theorem good_spec_LogFault (fu : Nat) : ∀ xs o, S_spec_LogFault fu xs = some o → ∀ y, o.x = some y → Good E Try.prog 17 xs (o.g y) := by
  intro xs o h y hy
  unfold S_spec_LogFault at h
  split at h
  · rename_i za0_0 na0_0 fa0_0
    cases h
    exact goodv_spec_LogFault fu (⟨za0_0, na0_0, fa0_0⟩ : (Sl S_impl_Entry)) y hy
  · cases h

/-! impl.LogFault -/
def F_impl_LogFault_B0 {ρ : Type} (fu : Nat) (log0_0 : (Sl S_impl_Entry)) (t9_1 : (Sl S_impl_Entry)) (t10_2 : Int) (k0 : Int → Int → Int → Int → Int → Int → Int → Int → Int → Int → Option ρ) (k1 : Int → Int → Int → Int → Int → Int → Int → Int → Int → Option ρ) (k2 : Option ρ) (t11_3 : Int) (go : Int → Option ρ) : Option ρ :=
  (bif (decide (t11_3 < t10_2)) then ((bif (decide (0 ≤ t11_3) && decide ((Int.toNat t11_3) < t9_1.n)) then some () else none : Option Unit).bind fun _ => ((F_impl_EntryFault fu (t9_1.f (Int.toNat t11_3))).bind fun y125 =>
    (bif (y125 != 0) then (k0 y125 (t9_1.f (Int.toNat t11_3)).Term (t9_1.f (Int.toNat t11_3)).Client (t9_1.f (Int.toNat t11_3)).Seq (t9_1.f (Int.toNat t11_3)).Cmd.Kind (t9_1.f (Int.toNat t11_3)).Cmd.Expect (t9_1.f (Int.toNat t11_3)).Cmd.Name (t9_1.f (Int.toNat t11_3)).Cmd.Addr (t9_1.f (Int.toNat t11_3)).Cmd.Number (t9_1.f (Int.toNat t11_3)).Cmd.Proto) else
    (((bif (decide (t11_3 > 0)) then ((bif (decide (0 ≤ (IntKind.wrap .i64 (t11_3 - 1))) && decide ((Int.toNat (IntKind.wrap .i64 (t11_3 - 1))) < log0_0.n)) then some () else none : Option Unit).bind fun _ =>
    (some (decide ((t9_1.f (Int.toNat t11_3)).Term < (log0_0.f (Int.toNat (IntKind.wrap .i64 (t11_3 - 1)))).Term)))) else (some false)) : Option Bool).bind fun m126 => (bif m126 then
    (k1 (t9_1.f (Int.toNat t11_3)).Term (t9_1.f (Int.toNat t11_3)).Client (t9_1.f (Int.toNat t11_3)).Seq (t9_1.f (Int.toNat t11_3)).Cmd.Kind (t9_1.f (Int.toNat t11_3)).Cmd.Expect (t9_1.f (Int.toNat t11_3)).Cmd.Name (t9_1.f (Int.toNat t11_3)).Cmd.Addr (t9_1.f (Int.toNat t11_3)).Cmd.Number (t9_1.f (Int.toNat t11_3)).Cmd.Proto) else
    (go (IntKind.wrap .i64 (t11_3 + 1)))))))) else k2)
def F_impl_LogFault (fu : Nat) (log_0 : (Sl S_impl_Entry)) : Option (Int) :=
  (bif (decide (((log_0.n : Nat) : Int) > 40)) then (some 2) else (L (fun w0 go0 => F_impl_LogFault_B0 fu log_0 log_0 ((log_0.n : Nat) : Int) (fun z127 z128 z129 z130 z131 z132 z133 z134 z135 z136 =>
    (some z127)) (fun z137 z138 z139 z140 z141 z142 z143 z144 z145 => (some 1)) (some 0) w0 go0) fu (0 : Int)))
def pc_impl_LogFault (fu : Nat) : Pc RT den := fun f xs => match f with | 16 => S_impl_EntryFault fu xs | _ => none
def msk_impl_LogFault (b : Nat) : List Nat := match b with | 0 => [1, 2, 3, 4, 5, 6, 7, 8, 12, 13, 14, 15, 16, 17, 18, 19, 20, 21, 22, 23, 24, 25, 26, 27, 28, 29, 30, 31, 32, 33, 34] | 100000 => [0, 1, 3, 4, 5, 6, 7, 8, 9, 10, 11, 12, 13, 14, 15, 16, 17, 18, 19, 20, 21, 22, 23, 24, 25, 26, 27, 28, 29, 30, 31, 32, 33, 34] | 200009 => [33] | _ => []
def ps_impl_LogFault_0 : List (Pat RT) := [.flat (.rs .impl_Entry), .flat .dead, .flat .dead, .flat .dead, .flat .dead, .flat .dead, .flat .dead, .flat .dead, .flat .dead, .flat (.rs .impl_Entry), .flat (.int .i64), .flat (.int .i64), .flat .dead, .flat .dead, .flat .dead, .flat .dead, .flat .dead, .flat .dead, .flat .dead, .flat .dead, .flat .dead, .flat .dead, .flat .dead, .flat .dead, .flat .dead, .flat .dead, .flat .dead, .flat .dead, .flat .dead, .flat .dead, .flat .dead, .flat .dead, .flat .dead, .flat .dead, .flat .dead]
def os_impl_LogFault_0 : List (OP RT) := []
def conv_impl_LogFault_0 (r : Raw den ps_impl_LogFault_0 os_impl_LogFault_0) : ((Sl S_impl_Entry) × (Sl S_impl_Entry) × Int) × (Int) := ((r.1.1, r.1.2.2.2.2.2.2.2.2.2.1, r.1.2.2.2.2.2.2.2.2.2.2.1), r.1.2.2.2.2.2.2.2.2.2.2.2.1)
def back_impl_LogFault_0 (c : (Sl S_impl_Entry) × (Sl S_impl_Entry) × Int) (w : Int) : St RT den := ⟨[(.rs c.1.z .impl_Entry c.1.n c.1.f), .dead, .dead, .dead, .dead, .dead, .dead, .dead, .dead, (.rs c.2.1.z .impl_Entry c.2.1.n c.2.1.f), (.int .i64 c.2.2), (.int .i64 w), .dead, .dead, .dead, .dead, .dead, .dead, .dead, .dead, .dead, .dead, .dead, .dead, .dead, .dead, .dead, .dead, .dead, .dead, .dead, .dead, .dead, .dead, .dead], []⟩
def Bk_impl_LogFault_0 {ρ : Type} (fu : Nat) (c : (Sl S_impl_Entry) × (Sl S_impl_Entry) × Int) (k : Ex → St RT den → Option ρ) (w : Int) (go : (Int) → Option ρ) : Option ρ := F_impl_LogFault_B0 fu c.1 c.2.1 c.2.2 (fun a0 a1 a2 a3 a4 a5 a6 a7 a8 a9 => k .ret ⟨[.dead, .dead, (.int .i64 a0), .dead, .dead, .dead, .dead, .dead, .dead, .dead, .dead, .dead, .dead, .dead, .dead, .dead, .dead, .dead, .dead, .dead, .dead, .dead, .dead, .dead, .dead, .dead, .dead, .dead, .dead, .dead, .dead, .dead, .dead, .dead, .dead], [(.box [(.int .i64 a1), (.int .i64 a2), (.int .i64 a3), (.int .i64 a4), (.int .i64 a5), (.int .i64 a6), (.int .i64 a7), (.int .i64 a8), (.int .i64 a9)])]⟩) (fun a0 a1 a2 a3 a4 a5 a6 a7 a8 => k .ret ⟨[.dead, .dead, (.int .i64 1), .dead, .dead, .dead, .dead, .dead, .dead, .dead, .dead, .dead, .dead, .dead, .dead, .dead, .dead, .dead, .dead, .dead, .dead, .dead, .dead, .dead, .dead, .dead, .dead, .dead, .dead, .dead, .dead, .dead, .dead, .dead, .dead], [(.box [(.int .i64 a0), (.int .i64 a1), (.int .i64 a2), (.int .i64 a3), (.int .i64 a4), (.int .i64 a5), (.int .i64 a6), (.int .i64 a7), (.int .i64 a8)])]⟩) (k (.exit 0) ⟨[.dead, .dead, .dead, .dead, .dead, .dead, .dead, .dead, .dead, .dead, .dead, .dead, .dead, .dead, .dead, .dead, .dead, .dead, .dead, .dead, .dead, .dead, .dead, .dead, .dead, .dead, .dead, .dead, .dead, .dead, .dead, .dead, .dead, .dead, .dead], []⟩) w go
def lp_impl_LogFault (fu : Nat) : Lp RT den (Int) := fun b s k => match b with | 0 => handle ps_impl_LogFault_0 os_impl_LogFault_0 conv_impl_LogFault_0 (Bk_impl_LogFault_0 fu) fu s k | _ => none
theorem ev_impl_LogFault (fu : Nat) (log_0 : (Sl S_impl_Entry)) : evFun E (pc_impl_LogFault fu) msk_impl_LogFault (lp_impl_LogFault fu) out_i64 18 [(.rs log_0.z .impl_Entry log_0.n log_0.f)] = F_impl_LogFault fu log_0 := by kernel_rfl
noncomputable def body_impl_LogFault : Code := Try.f18.body.getD .skip
noncomputable def lc_impl_LogFault_0 : Code := ((loops 0 body_impl_LogFault).getD 0 (0, .skip)).2
theorem round_impl_LogFault_0 (fu : Nat) (it : St RT den → Option (Int)) (k : Ex → St RT den → Option (Int)) c w : evCode E (pc_impl_LogFault fu) msk_impl_LogFault (lp_impl_LogFault fu) 0 lc_impl_LogFault_0 (back_impl_LogFault_0 c w) (after (msk_impl_LogFault 0) (msk_impl_LogFault 100000) 0 it k) = Bk_impl_LogFault_0 fu c k w (fun w => it (back_impl_LogFault_0 c w)) := by kernel_rfl
theorem lpok_impl_LogFault_0 (fu : Nat) : ∀ s k r, lp_impl_LogFault fu 0 s k = some r → ∃ fuel, iter (msk_impl_LogFault 0) (msk_impl_LogFault 100000) s.objs.length (evCode E (pc_impl_LogFault fu) msk_impl_LogFault (lp_impl_LogFault fu) 0 lc_impl_LogFault_0) fuel s k = some r :=
  handle_ok (ps := ps_impl_LogFault_0) (os := os_impl_LogFault_0) (conv := conv_impl_LogFault_0) (B := Bk_impl_LogFault_0 fu) (fu := fu) back_impl_LogFault_0 (fun raw => by kernel_rfl) 0 (fun c w => by kernel_rfl) (round_impl_LogFault_0 fu)
theorem lpok_impl_LogFault (fu : Nat) : LpOk E (pc_impl_LogFault fu) msk_impl_LogFault (lp_impl_LogFault fu) (loops 0 body_impl_LogFault) := loop_all 1 (by kernel_rfl) fun i hi => match i, hi with
  | 0, _ => by
    have h : (loops 0 body_impl_LogFault).getD 0 (0, .skip) = (0, lc_impl_LogFault_0) := by kernel_rfl
    rw [h]; exact lpok_impl_LogFault_0 fu
  | i + 1, hi => absurd hi (by omega)
def S_impl_LogFault (fu : Nat) (xs : List (D RT den)) : Option (Out RT den) := match xs with | [.rs za0_0 .impl_Entry na0_0 fa0_0] => some ⟨Int, F_impl_LogFault fu (⟨za0_0, na0_0, fa0_0⟩ : (Sl S_impl_Entry)), enc_i64, fun _ => true⟩ | _ => none
theorem hpc_impl_LogFault (fu : Nat) : ∀ f xs o, pc_impl_LogFault fu f xs = some o → ∀ y, o.x = some y → Good E Try.prog f xs (o.g y) := by
  intro f xs o h
  unfold pc_impl_LogFault at h
  split at h
  · exact good_impl_EntryFault fu xs o h
  · cases h
theorem goodv_impl_LogFault (fu : Nat) (log_0 : (Sl S_impl_Entry)) (y : Int) (hy : F_impl_LogFault fu log_0 = some y) : Good E Try.prog 18 [(.rs log_0.z .impl_Entry log_0.n log_0.f)] (enc_i64 y) :=
  fun_good E_ok (pc_good (hpc_impl_LogFault fu)) (fn := Try.f18) (c := body_impl_LogFault) (out := out_i64) (y := y) (by kernel_rfl) (by kernel_rfl) (by kernel_rfl) (lpok_impl_LogFault fu) (fun d hd => out_i64_enc d _ hd) ((ev_impl_LogFault fu log_0).trans hy)
theorem good_impl_LogFault (fu : Nat) : ∀ xs o, S_impl_LogFault fu xs = some o → ∀ y, o.x = some y → Good E Try.prog 18 xs (o.g y) := by
  intro xs o h y hy
  unfold S_impl_LogFault at h
  split at h
  · rename_i za0_0 na0_0 fa0_0
    cases h
    exact goodv_impl_LogFault fu (⟨za0_0, na0_0, fa0_0⟩ : (Sl S_impl_Entry)) y hy
  · cases h

/-! laws.FnExactLogFault -/
def F_laws_FnExactLogFault (fu : Nat) (aLog_0 : (Sl S_laws_Entry)) : Option (Bool) :=
  ((F_laws_szEntryS fu aLog_0 1048576).bind fun y115 => (bif (decide (y115 < 0)) then (some true) else ((F_laws_toEntryS fu aLog_0).bind fun y116 => ((F_spec_LogFault fu y116).bind fun y117 =>
    ((F_laws_toEntryS fu aLog_0).bind fun y118 => ((F_impl_LogFault fu y118).bind fun y119 => (bif (y119 != y117) then (some false) else ((F_laws_toEntryS fu aLog_0).bind fun y120 =>
    ((F_laws_eqEntryS fu y118 y120).bind fun y121 => (bif (!y121) then (some false) else (some true)))))))))))
def pc_laws_FnExactLogFault (fu : Nat) : Pc RT den := fun f xs => match f with | 9 => S_laws_szEntryS fu xs | 11 => S_laws_toEntryS fu xs | 13 => S_laws_eqEntryS fu xs | 17 => S_spec_LogFault fu xs | 18 => S_impl_LogFault fu xs | _ => none
def msk_laws_FnExactLogFault (b : Nat) : List Nat := []
def lp_laws_FnExactLogFault (fu : Nat) : Lp RT den (Bool) := fun b s k => none
theorem ev_laws_FnExactLogFault (fu : Nat) (aLog_0 : (Sl S_laws_Entry)) : evFun E (pc_laws_FnExactLogFault fu) msk_laws_FnExactLogFault (lp_laws_FnExactLogFault fu) out_b 5 [(.rs aLog_0.z .laws_Entry aLog_0.n aLog_0.f)] = F_laws_FnExactLogFault fu aLog_0 := by kernel_rfl
noncomputable def body_laws_FnExactLogFault : Code := Try.f5.body.getD .skip
theorem lpok_laws_FnExactLogFault (fu : Nat) : LpOk E (pc_laws_FnExactLogFault fu) msk_laws_FnExactLogFault (lp_laws_FnExactLogFault fu) (loops 0 body_laws_FnExactLogFault) := by
  have h : loops 0 body_laws_FnExactLogFault = [] := by kernel_rfl
  rw [h]; intro p hp; cases hp
def S_laws_FnExactLogFault (fu : Nat) (xs : List (D RT den)) : Option (Out RT den) := match xs with | [.rs za0_0 .laws_Entry na0_0 fa0_0] => some ⟨Bool, F_laws_FnExactLogFault fu (⟨za0_0, na0_0, fa0_0⟩ : (Sl S_laws_Entry)), enc_b, fun _ => true⟩ | _ => none
theorem hpc_laws_FnExactLogFault (fu : Nat) : ∀ f xs o, pc_laws_FnExactLogFault fu f xs = some o → ∀ y, o.x = some y → Good E Try.prog f xs (o.g y) := by
  intro f xs o h
  unfold pc_laws_FnExactLogFault at h
  split at h
  · exact good_laws_szEntryS fu xs o h
  · exact good_laws_toEntryS fu xs o h
  · exact good_laws_eqEntryS fu xs o h
  · exact good_spec_LogFault fu xs o h
  · exact good_impl_LogFault fu xs o h
  · cases h
theorem goodv_laws_FnExactLogFault (fu : Nat) (aLog_0 : (Sl S_laws_Entry)) (y : Bool) (hy : F_laws_FnExactLogFault fu aLog_0 = some y) : Good E Try.prog 5 [(.rs aLog_0.z .laws_Entry aLog_0.n aLog_0.f)] (enc_b y) :=
  fun_good E_ok (pc_good (hpc_laws_FnExactLogFault fu)) (fn := Try.f5) (c := body_laws_FnExactLogFault) (out := out_b) (y := y) (by kernel_rfl) (by kernel_rfl) (by kernel_rfl) (lpok_laws_FnExactLogFault fu) (fun d hd => out_b_enc d _ hd) ((ev_laws_FnExactLogFault fu aLog_0).trans hy)
theorem good_laws_FnExactLogFault (fu : Nat) : ∀ xs o, S_laws_FnExactLogFault fu xs = some o → ∀ y, o.x = some y → Good E Try.prog 5 xs (o.g y) := by
  intro xs o h y hy
  unfold S_laws_FnExactLogFault at h
  split at h
  · rename_i za0_0 na0_0 fa0_0
    cases h
    exact goodv_laws_FnExactLogFault fu (⟨za0_0, na0_0, fa0_0⟩ : (Sl S_laws_Entry)) y hy
  · cases h

/-! spec.l7Fits -/
def F_spec_l7Fits (fu : Nat) (log_0 : (Sl S_impl_Entry)) (index_1 : Int) (term_2 : Int) : Option (Bool) :=
  (bif (index_1 == 0) then (some (term_2 == 0)) else ((((F_spec_l1In fu index_1 1 ((log_0.n : Nat) : Int)).bind fun y156 => (bif y156 then ((bif (decide (0 ≤ (IntKind.wrap .i64 (index_1 - 1))) &&
    decide ((Int.toNat (IntKind.wrap .i64 (index_1 - 1))) < log_0.n)) then some () else none : Option Unit).bind fun _ => (some ((log_0.f (Int.toNat (IntKind.wrap .i64 (index_1 - 1)))).Term == term_2))) else
    (some false))) : Option Bool).bind fun m157 => (some m157)))
def pc_spec_l7Fits (fu : Nat) : Pc RT den := fun f xs => match f with | 29 => S_spec_l1In fu xs | _ => none
def msk_spec_l7Fits (b : Nat) : List Nat := match b with | 200003 => [6] | _ => []
def lp_spec_l7Fits (fu : Nat) : Lp RT den (Bool) := fun b s k => none
theorem ev_spec_l7Fits (fu : Nat) (log_0 : (Sl S_impl_Entry)) (index_1 : Int) (term_2 : Int) : evFun E (pc_spec_l7Fits fu) msk_spec_l7Fits (lp_spec_l7Fits fu) out_b 34 [(.rs log_0.z .impl_Entry log_0.n log_0.f), (.int .i64 index_1), (.int .i64 term_2)] = F_spec_l7Fits fu log_0 index_1 term_2 := by kernel_rfl
noncomputable def body_spec_l7Fits : Code := Try.f34.body.getD .skip
theorem lpok_spec_l7Fits (fu : Nat) : LpOk E (pc_spec_l7Fits fu) msk_spec_l7Fits (lp_spec_l7Fits fu) (loops 0 body_spec_l7Fits) := by
  have h : loops 0 body_spec_l7Fits = [] := by kernel_rfl
  rw [h]; intro p hp; cases hp
def S_spec_l7Fits (fu : Nat) (xs : List (D RT den)) : Option (Out RT den) := match xs with | [.rs za0_0 .impl_Entry na0_0 fa0_0, .int .i64 a1_0, .int .i64 a2_0] => some ⟨Bool, F_spec_l7Fits fu (⟨za0_0, na0_0, fa0_0⟩ : (Sl S_impl_Entry)) a1_0 a2_0, enc_b, fun _ => true⟩ | _ => none
theorem hpc_spec_l7Fits (fu : Nat) : ∀ f xs o, pc_spec_l7Fits fu f xs = some o → ∀ y, o.x = some y → Good E Try.prog f xs (o.g y) := by
  intro f xs o h
  unfold pc_spec_l7Fits at h
  split at h
  · exact good_spec_l1In fu xs o h
  · cases h
theorem goodv_spec_l7Fits (fu : Nat) (log_0 : (Sl S_impl_Entry)) (index_1 : Int) (term_2 : Int) (y : Bool) (hy : F_spec_l7Fits fu log_0 index_1 term_2 = some y) : Good E Try.prog 34 [(.rs log_0.z .impl_Entry log_0.n log_0.f), (.int .i64 index_1), (.int .i64 term_2)] (enc_b y) :=
  fun_good E_ok (pc_good (hpc_spec_l7Fits fu)) (fn := Try.f34) (c := body_spec_l7Fits) (out := out_b) (y := y) (by kernel_rfl) (by kernel_rfl) (by kernel_rfl) (lpok_spec_l7Fits fu) (fun d hd => out_b_enc d _ hd) ((ev_spec_l7Fits fu log_0 index_1 term_2).trans hy)
theorem good_spec_l7Fits (fu : Nat) : ∀ xs o, S_spec_l7Fits fu xs = some o → ∀ y, o.x = some y → Good E Try.prog 34 xs (o.g y) := by
  intro xs o h y hy
  unfold S_spec_l7Fits at h
  split at h
  · rename_i za0_0 na0_0 fa0_0 a1_0 a2_0
    cases h
    exact goodv_spec_l7Fits fu (⟨za0_0, na0_0, fa0_0⟩ : (Sl S_impl_Entry)) a1_0 a2_0 y hy
  · cases h

/-! spec.FitsAt -/
def F_spec_FitsAt (fu : Nat) (log_0 : (Sl S_impl_Entry)) (index_1 : Int) (term_2 : Int) : Option (Bool) :=
  ((((F_spec_LogFault fu log_0).bind fun y153 => (bif (y153 == 0) then ((F_spec_l7Fits fu log_0 index_1 term_2).bind fun y154 => (some y154)) else (some false))) : Option Bool).bind fun m155 =>
    (some m155))
def pc_spec_FitsAt (fu : Nat) : Pc RT den := fun f xs => match f with | 17 => S_spec_LogFault fu xs | 34 => S_spec_l7Fits fu xs | _ => none
def msk_spec_FitsAt (b : Nat) : List Nat := match b with | 200001 => [6] | _ => []
def lp_spec_FitsAt (fu : Nat) : Lp RT den (Bool) := fun b s k => none
theorem ev_spec_FitsAt (fu : Nat) (log_0 : (Sl S_impl_Entry)) (index_1 : Int) (term_2 : Int) : evFun E (pc_spec_FitsAt fu) msk_spec_FitsAt (lp_spec_FitsAt fu) out_b 19 [(.rs log_0.z .impl_Entry log_0.n log_0.f), (.int .i64 index_1), (.int .i64 term_2)] = F_spec_FitsAt fu log_0 index_1 term_2 := by kernel_rfl
noncomputable def body_spec_FitsAt : Code := Try.f19.body.getD .skip
theorem lpok_spec_FitsAt (fu : Nat) : LpOk E (pc_spec_FitsAt fu) msk_spec_FitsAt (lp_spec_FitsAt fu) (loops 0 body_spec_FitsAt) := by
  have h : loops 0 body_spec_FitsAt = [] := by kernel_rfl
  rw [h]; intro p hp; cases hp
def S_spec_FitsAt (fu : Nat) (xs : List (D RT den)) : Option (Out RT den) := match xs with | [.rs za0_0 .impl_Entry na0_0 fa0_0, .int .i64 a1_0, .int .i64 a2_0] => some ⟨Bool, F_spec_FitsAt fu (⟨za0_0, na0_0, fa0_0⟩ : (Sl S_impl_Entry)) a1_0 a2_0, enc_b, fun _ => true⟩ | _ => none
theorem hpc_spec_FitsAt (fu : Nat) : ∀ f xs o, pc_spec_FitsAt fu f xs = some o → ∀ y, o.x = some y → Good E Try.prog f xs (o.g y) := by
  intro f xs o h
  unfold pc_spec_FitsAt at h
  split at h
  · exact good_spec_LogFault fu xs o h
  · exact good_spec_l7Fits fu xs o h
  · cases h
theorem goodv_spec_FitsAt (fu : Nat) (log_0 : (Sl S_impl_Entry)) (index_1 : Int) (term_2 : Int) (y : Bool) (hy : F_spec_FitsAt fu log_0 index_1 term_2 = some y) : Good E Try.prog 19 [(.rs log_0.z .impl_Entry log_0.n log_0.f), (.int .i64 index_1), (.int .i64 term_2)] (enc_b y) :=
  fun_good E_ok (pc_good (hpc_spec_FitsAt fu)) (fn := Try.f19) (c := body_spec_FitsAt) (out := out_b) (y := y) (by kernel_rfl) (by kernel_rfl) (by kernel_rfl) (lpok_spec_FitsAt fu) (fun d hd => out_b_enc d _ hd) ((ev_spec_FitsAt fu log_0 index_1 term_2).trans hy)
theorem good_spec_FitsAt (fu : Nat) : ∀ xs o, S_spec_FitsAt fu xs = some o → ∀ y, o.x = some y → Good E Try.prog 19 xs (o.g y) := by
  intro xs o h y hy
  unfold S_spec_FitsAt at h
  split at h
  · rename_i za0_0 na0_0 fa0_0 a1_0 a2_0
    cases h
    exact goodv_spec_FitsAt fu (⟨za0_0, na0_0, fa0_0⟩ : (Sl S_impl_Entry)) a1_0 a2_0 y hy
  · cases h

/-! impl.size[impl.Entry] -/
def F_impl_size_impl_Entry (fu : Nat) (list_0 : (Sl S_impl_Entry)) : Option (Int) :=
  (some ((list_0.n : Nat) : Int))
def pc_impl_size_impl_Entry (fu : Nat) : Pc RT den := fun f xs => none
def msk_impl_size_impl_Entry (b : Nat) : List Nat := []
def lp_impl_size_impl_Entry (fu : Nat) : Lp RT den (Int) := fun b s k => none
theorem ev_impl_size_impl_Entry (fu : Nat) (list_0 : (Sl S_impl_Entry)) : evFun E (pc_impl_size_impl_Entry fu) msk_impl_size_impl_Entry (lp_impl_size_impl_Entry fu) out_i64 42 [(.rs list_0.z .impl_Entry list_0.n list_0.f)] = F_impl_size_impl_Entry fu list_0 := by kernel_rfl
noncomputable def body_impl_size_impl_Entry : Code := Try.f42.body.getD .skip
theorem lpok_impl_size_impl_Entry (fu : Nat) : LpOk E (pc_impl_size_impl_Entry fu) msk_impl_size_impl_Entry (lp_impl_size_impl_Entry fu) (loops 0 body_impl_size_impl_Entry) := by
  have h : loops 0 body_impl_size_impl_Entry = [] := by kernel_rfl
  rw [h]; intro p hp; cases hp
def S_impl_size_impl_Entry (fu : Nat) (xs : List (D RT den)) : Option (Out RT den) := match xs with | [.rs za0_0 .impl_Entry na0_0 fa0_0] => some ⟨Int, F_impl_size_impl_Entry fu (⟨za0_0, na0_0, fa0_0⟩ : (Sl S_impl_Entry)), enc_i64, fun _ => true⟩ | _ => none
theorem hpc_impl_size_impl_Entry (fu : Nat) : ∀ f xs o, pc_impl_size_impl_Entry fu f xs = some o → ∀ y, o.x = some y → Good E Try.prog f xs (o.g y) := by
  intro f xs o h
  cases h
theorem goodv_impl_size_impl_Entry (fu : Nat) (list_0 : (Sl S_impl_Entry)) (y : Int) (hy : F_impl_size_impl_Entry fu list_0 = some y) : Good E Try.prog 42 [(.rs list_0.z .impl_Entry list_0.n list_0.f)] (enc_i64 y) :=
  fun_good E_ok (pc_good (hpc_impl_size_impl_Entry fu)) (fn := Try.f42) (c := body_impl_size_impl_Entry) (out := out_i64) (y := y) (by kernel_rfl) (by kernel_rfl) (by kernel_rfl) (lpok_impl_size_impl_Entry fu) (fun d hd => out_i64_enc d _ hd) ((ev_impl_size_impl_Entry fu list_0).trans hy)
theorem good_impl_size_impl_Entry (fu : Nat) : ∀ xs o, S_impl_size_impl_Entry fu xs = some o → ∀ y, o.x = some y → Good E Try.prog 42 xs (o.g y) := by
  intro xs o h y hy
  unfold S_impl_size_impl_Entry at h
  split at h
  · rename_i za0_0 na0_0 fa0_0
    cases h
    exact goodv_impl_size_impl_Entry fu (⟨za0_0, na0_0, fa0_0⟩ : (Sl S_impl_Entry)) y hy
  · cases h

/-! impl.fits -/
def F_impl_fits (fu : Nat) (log_0 : (Sl S_impl_Entry)) (index_1 : Int) (term_2 : Int) : Option (Bool) :=
  (bif (index_1 == 0) then (some (term_2 == 0)) else ((((F_impl_size_impl_Entry fu log_0).bind fun y161 => ((F_impl_in fu index_1 1 y161).bind fun y162 => (bif y162 then ((bif (decide (0 ≤ (IntKind.wrap .i64 (index_1 - 1))) &&
    decide ((Int.toNat (IntKind.wrap .i64 (index_1 - 1))) < log_0.n)) then some () else none : Option Unit).bind fun _ => (some ((log_0.f (Int.toNat (IntKind.wrap .i64 (index_1 - 1)))).Term == term_2))) else
    (some false)))) : Option Bool).bind fun m163 => (some m163)))
def pc_impl_fits (fu : Nat) : Pc RT den := fun f xs => match f with | 32 => S_impl_in fu xs | 42 => S_impl_size_impl_Entry fu xs | _ => none
def msk_impl_fits (b : Nat) : List Nat := match b with | 200003 => [6] | _ => []
def lp_impl_fits (fu : Nat) : Lp RT den (Bool) := fun b s k => none
theorem ev_impl_fits (fu : Nat) (log_0 : (Sl S_impl_Entry)) (index_1 : Int) (term_2 : Int) : evFun E (pc_impl_fits fu) msk_impl_fits (lp_impl_fits fu) out_b 35 [(.rs log_0.z .impl_Entry log_0.n log_0.f), (.int .i64 index_1), (.int .i64 term_2)] = F_impl_fits fu log_0 index_1 term_2 := by kernel_rfl
noncomputable def body_impl_fits : Code := Try.f35.body.getD .skip
theorem lpok_impl_fits (fu : Nat) : LpOk E (pc_impl_fits fu) msk_impl_fits (lp_impl_fits fu) (loops 0 body_impl_fits) := by
  have h : loops 0 body_impl_fits = [] := by kernel_rfl
  rw [h]; intro p hp; cases hp
def S_impl_fits (fu : Nat) (xs : List (D RT den)) : Option (Out RT den) := match xs with | [.rs za0_0 .impl_Entry na0_0 fa0_0, .int .i64 a1_0, .int .i64 a2_0] => some ⟨Bool, F_impl_fits fu (⟨za0_0, na0_0, fa0_0⟩ : (Sl S_impl_Entry)) a1_0 a2_0, enc_b, fun _ => true⟩ | _ => none
theorem hpc_impl_fits (fu : Nat) : ∀ f xs o, pc_impl_fits fu f xs = some o → ∀ y, o.x = some y → Good E Try.prog f xs (o.g y) := by
  intro f xs o h
  unfold pc_impl_fits at h
  split at h
  · exact good_impl_in fu xs o h
  · exact good_impl_size_impl_Entry fu xs o h
  · cases h
theorem goodv_impl_fits (fu : Nat) (log_0 : (Sl S_impl_Entry)) (index_1 : Int) (term_2 : Int) (y : Bool) (hy : F_impl_fits fu log_0 index_1 term_2 = some y) : Good E Try.prog 35 [(.rs log_0.z .impl_Entry log_0.n log_0.f), (.int .i64 index_1), (.int .i64 term_2)] (enc_b y) :=
  fun_good E_ok (pc_good (hpc_impl_fits fu)) (fn := Try.f35) (c := body_impl_fits) (out := out_b) (y := y) (by kernel_rfl) (by kernel_rfl) (by kernel_rfl) (lpok_impl_fits fu) (fun d hd => out_b_enc d _ hd) ((ev_impl_fits fu log_0 index_1 term_2).trans hy)
theorem good_impl_fits (fu : Nat) : ∀ xs o, S_impl_fits fu xs = some o → ∀ y, o.x = some y → Good E Try.prog 35 xs (o.g y) := by
  intro xs o h y hy
  unfold S_impl_fits at h
  split at h
  · rename_i za0_0 na0_0 fa0_0 a1_0 a2_0
    cases h
    exact goodv_impl_fits fu (⟨za0_0, na0_0, fa0_0⟩ : (Sl S_impl_Entry)) a1_0 a2_0 y hy
  · cases h

/-! impl.FitsAt -/
def F_impl_FitsAt (fu : Nat) (log_0 : (Sl S_impl_Entry)) (index_1 : Int) (term_2 : Int) : Option (Bool) :=
  ((((F_impl_LogFault fu log_0).bind fun y158 => (bif (y158 == 0) then ((F_impl_fits fu log_0 index_1 term_2).bind fun y159 => (some y159)) else (some false))) : Option Bool).bind fun m160 =>
    (some m160))
def pc_impl_FitsAt (fu : Nat) : Pc RT den := fun f xs => match f with | 18 => S_impl_LogFault fu xs | 35 => S_impl_fits fu xs | _ => none
def msk_impl_FitsAt (b : Nat) : List Nat := match b with | 200001 => [6] | _ => []
def lp_impl_FitsAt (fu : Nat) : Lp RT den (Bool) := fun b s k => none
theorem ev_impl_FitsAt (fu : Nat) (log_0 : (Sl S_impl_Entry)) (index_1 : Int) (term_2 : Int) : evFun E (pc_impl_FitsAt fu) msk_impl_FitsAt (lp_impl_FitsAt fu) out_b 20 [(.rs log_0.z .impl_Entry log_0.n log_0.f), (.int .i64 index_1), (.int .i64 term_2)] = F_impl_FitsAt fu log_0 index_1 term_2 := by kernel_rfl
noncomputable def body_impl_FitsAt : Code := Try.f20.body.getD .skip
theorem lpok_impl_FitsAt (fu : Nat) : LpOk E (pc_impl_FitsAt fu) msk_impl_FitsAt (lp_impl_FitsAt fu) (loops 0 body_impl_FitsAt) := by
  have h : loops 0 body_impl_FitsAt = [] := by kernel_rfl
  rw [h]; intro p hp; cases hp
def S_impl_FitsAt (fu : Nat) (xs : List (D RT den)) : Option (Out RT den) := match xs with | [.rs za0_0 .impl_Entry na0_0 fa0_0, .int .i64 a1_0, .int .i64 a2_0] => some ⟨Bool, F_impl_FitsAt fu (⟨za0_0, na0_0, fa0_0⟩ : (Sl S_impl_Entry)) a1_0 a2_0, enc_b, fun _ => true⟩ | _ => none
theorem hpc_impl_FitsAt (fu : Nat) : ∀ f xs o, pc_impl_FitsAt fu f xs = some o → ∀ y, o.x = some y → Good E Try.prog f xs (o.g y) := by
  intro f xs o h
  unfold pc_impl_FitsAt at h
  split at h
  · exact good_impl_LogFault fu xs o h
  · exact good_impl_fits fu xs o h
  · cases h
theorem goodv_impl_FitsAt (fu : Nat) (log_0 : (Sl S_impl_Entry)) (index_1 : Int) (term_2 : Int) (y : Bool) (hy : F_impl_FitsAt fu log_0 index_1 term_2 = some y) : Good E Try.prog 20 [(.rs log_0.z .impl_Entry log_0.n log_0.f), (.int .i64 index_1), (.int .i64 term_2)] (enc_b y) :=
  fun_good E_ok (pc_good (hpc_impl_FitsAt fu)) (fn := Try.f20) (c := body_impl_FitsAt) (out := out_b) (y := y) (by kernel_rfl) (by kernel_rfl) (by kernel_rfl) (lpok_impl_FitsAt fu) (fun d hd => out_b_enc d _ hd) ((ev_impl_FitsAt fu log_0 index_1 term_2).trans hy)
theorem good_impl_FitsAt (fu : Nat) : ∀ xs o, S_impl_FitsAt fu xs = some o → ∀ y, o.x = some y → Good E Try.prog 20 xs (o.g y) := by
  intro xs o h y hy
  unfold S_impl_FitsAt at h
  split at h
  · rename_i za0_0 na0_0 fa0_0 a1_0 a2_0
    cases h
    exact goodv_impl_FitsAt fu (⟨za0_0, na0_0, fa0_0⟩ : (Sl S_impl_Entry)) a1_0 a2_0 y hy
  · cases h

/-! laws.FnExactFitsAt -/
def F_laws_FnExactFitsAt (fu : Nat) (aLog_0 : (Sl S_laws_Entry)) (aIndex_1 : Int) (aTerm_2 : Int) : Option (Bool) :=
  ((F_laws_szEntryS fu aLog_0 1048576).bind fun y146 => (bif (decide (y146 < 0)) then (some true) else ((F_laws_toEntryS fu aLog_0).bind fun y147 => ((F_spec_FitsAt fu y147 aIndex_1 aTerm_2).bind fun y148 =>
    ((F_laws_toEntryS fu aLog_0).bind fun y149 => ((F_impl_FitsAt fu y149 aIndex_1 aTerm_2).bind fun y150 => (bif (!(y150 == y148)) then (some false) else ((F_laws_toEntryS fu aLog_0).bind fun y151 =>
    ((F_laws_eqEntryS fu y149 y151).bind fun y152 => (bif (!y152) then (some false) else (some true)))))))))))
def pc_laws_FnExactFitsAt (fu : Nat) : Pc RT den := fun f xs => match f with | 9 => S_laws_szEntryS fu xs | 11 => S_laws_toEntryS fu xs | 13 => S_laws_eqEntryS fu xs | 19 => S_spec_FitsAt fu xs | 20 => S_impl_FitsAt fu xs | _ => none
def msk_laws_FnExactFitsAt (b : Nat) : List Nat := []
def lp_laws_FnExactFitsAt (fu : Nat) : Lp RT den (Bool) := fun b s k => none
theorem ev_laws_FnExactFitsAt (fu : Nat) (aLog_0 : (Sl S_laws_Entry)) (aIndex_1 : Int) (aTerm_2 : Int) : evFun E (pc_laws_FnExactFitsAt fu) msk_laws_FnExactFitsAt (lp_laws_FnExactFitsAt fu) out_b 6 [(.rs aLog_0.z .laws_Entry aLog_0.n aLog_0.f), (.int .i64 aIndex_1), (.int .i64 aTerm_2)] = F_laws_FnExactFitsAt fu aLog_0 aIndex_1 aTerm_2 := by kernel_rfl
noncomputable def body_laws_FnExactFitsAt : Code := Try.f6.body.getD .skip
theorem lpok_laws_FnExactFitsAt (fu : Nat) : LpOk E (pc_laws_FnExactFitsAt fu) msk_laws_FnExactFitsAt (lp_laws_FnExactFitsAt fu) (loops 0 body_laws_FnExactFitsAt) := by
  have h : loops 0 body_laws_FnExactFitsAt = [] := by kernel_rfl
  rw [h]; intro p hp; cases hp
def S_laws_FnExactFitsAt (fu : Nat) (xs : List (D RT den)) : Option (Out RT den) := match xs with | [.rs za0_0 .laws_Entry na0_0 fa0_0, .int .i64 a1_0, .int .i64 a2_0] => some ⟨Bool, F_laws_FnExactFitsAt fu (⟨za0_0, na0_0, fa0_0⟩ : (Sl S_laws_Entry)) a1_0 a2_0, enc_b, fun _ => true⟩ | _ => none
theorem hpc_laws_FnExactFitsAt (fu : Nat) : ∀ f xs o, pc_laws_FnExactFitsAt fu f xs = some o → ∀ y, o.x = some y → Good E Try.prog f xs (o.g y) := by
  intro f xs o h
  unfold pc_laws_FnExactFitsAt at h
  split at h
  · exact good_laws_szEntryS fu xs o h
  · exact good_laws_toEntryS fu xs o h
  · exact good_laws_eqEntryS fu xs o h
  · exact good_spec_FitsAt fu xs o h
  · exact good_impl_FitsAt fu xs o h
  · cases h
theorem goodv_laws_FnExactFitsAt (fu : Nat) (aLog_0 : (Sl S_laws_Entry)) (aIndex_1 : Int) (aTerm_2 : Int) (y : Bool) (hy : F_laws_FnExactFitsAt fu aLog_0 aIndex_1 aTerm_2 = some y) : Good E Try.prog 6 [(.rs aLog_0.z .laws_Entry aLog_0.n aLog_0.f), (.int .i64 aIndex_1), (.int .i64 aTerm_2)] (enc_b y) :=
  fun_good E_ok (pc_good (hpc_laws_FnExactFitsAt fu)) (fn := Try.f6) (c := body_laws_FnExactFitsAt) (out := out_b) (y := y) (by kernel_rfl) (by kernel_rfl) (by kernel_rfl) (lpok_laws_FnExactFitsAt fu) (fun d hd => out_b_enc d _ hd) ((ev_laws_FnExactFitsAt fu aLog_0 aIndex_1 aTerm_2).trans hy)
theorem good_laws_FnExactFitsAt (fu : Nat) : ∀ xs o, S_laws_FnExactFitsAt fu xs = some o → ∀ y, o.x = some y → Good E Try.prog 6 xs (o.g y) := by
  intro xs o h y hy
  unfold S_laws_FnExactFitsAt at h
  split at h
  · rename_i za0_0 na0_0 fa0_0 a1_0 a2_0
    cases h
    exact goodv_laws_FnExactFitsAt fu (⟨za0_0, na0_0, fa0_0⟩ : (Sl S_laws_Entry)) a1_0 a2_0 y hy
  · cases h

/-! spec.LastOf -/
def F_spec_LastOf (fu : Nat) (log_0 : (Sl S_impl_Entry)) : Option (S_impl_Entry) :=
  (bif (((log_0.n : Nat) : Int) == 0) then (some (⟨0, 0, 0, (⟨0, 0, 0, 0, 0, 0⟩ : S_impl_Cmd)⟩ : S_impl_Entry)) else ((bif (decide (0 ≤ (IntKind.wrap .i64 (((log_0.n : Nat) : Int) - 1))) &&
    decide ((Int.toNat (IntKind.wrap .i64 (((log_0.n : Nat) : Int) - 1))) < log_0.n)) then some () else none : Option Unit).bind fun _ => (some (log_0.f (Int.toNat (IntKind.wrap .i64 (((log_0.n : Nat) : Int) - 1)))))))
def pc_spec_LastOf (fu : Nat) : Pc RT den := fun f xs => none
def msk_spec_LastOf (b : Nat) : List Nat := []
def lp_spec_LastOf (fu : Nat) : Lp RT den (S_impl_Entry) := fun b s k => none
theorem ev_spec_LastOf (fu : Nat) (log_0 : (Sl S_impl_Entry)) : evFun E (pc_spec_LastOf fu) msk_spec_LastOf (lp_spec_LastOf fu) out_impl_Entry 61 [(.rs log_0.z .impl_Entry log_0.n log_0.f)] = F_spec_LastOf fu log_0 := by kernel_rfl
noncomputable def body_spec_LastOf : Code := Try.f61.body.getD .skip
theorem lpok_spec_LastOf (fu : Nat) : LpOk E (pc_spec_LastOf fu) msk_spec_LastOf (lp_spec_LastOf fu) (loops 0 body_spec_LastOf) := by
  have h : loops 0 body_spec_LastOf = [] := by kernel_rfl
  rw [h]; intro p hp; cases hp
def S_spec_LastOf (fu : Nat) (xs : List (D RT den)) : Option (Out RT den) := match xs with | [.rs za0_0 .impl_Entry na0_0 fa0_0] => some ⟨S_impl_Entry, F_spec_LastOf fu (⟨za0_0, na0_0, fa0_0⟩ : (Sl S_impl_Entry)), enc_impl_Entry, fun _ => true⟩ | _ => none
theorem hpc_spec_LastOf (fu : Nat) : ∀ f xs o, pc_spec_LastOf fu f xs = some o → ∀ y, o.x = some y → Good E Try.prog f xs (o.g y) := by
  intro f xs o h
  cases h
theorem goodv_spec_LastOf (fu : Nat) (log_0 : (Sl S_impl_Entry)) (y : S_impl_Entry) (hy : F_spec_LastOf fu log_0 = some y) : Good E Try.prog 61 [(.rs log_0.z .impl_Entry log_0.n log_0.f)] (enc_impl_Entry y) :=
  fun_good E_ok (pc_good (hpc_spec_LastOf fu)) (fn := Try.f61) (c := body_spec_LastOf) (out := out_impl_Entry) (y := y) (by kernel_rfl) (by kernel_rfl) (by kernel_rfl) (lpok_spec_LastOf fu) (fun d hd => out_impl_Entry_enc d _ hd) ((ev_spec_LastOf fu log_0).trans hy)
theorem good_spec_LastOf (fu : Nat) : ∀ xs o, S_spec_LastOf fu xs = some o → ∀ y, o.x = some y → Good E Try.prog 61 xs (o.g y) := by
  intro xs o h y hy
  unfold S_spec_LastOf at h
  split at h
  · rename_i za0_0 na0_0 fa0_0
    cases h
    exact goodv_spec_LastOf fu (⟨za0_0, na0_0, fa0_0⟩ : (Sl S_impl_Entry)) y hy
  · cases h

/-! spec.l7UpToDate -/
def F_spec_l7UpToDate (fu : Nat) (log_0 : (Sl S_impl_Entry)) (index_1 : Int) (term_2 : Int) : Option (Bool) :=
  ((F_spec_LastOf fu log_0).bind fun y174 => (((bif (decide (term_2 > y174.Term)) then (some true) else (bif (term_2 == y174.Term) then (some (decide (index_1 ≥ ((log_0.n : Nat) : Int)))) else
    (some false))) : Option Bool).bind fun m175 => (some m175)))
def pc_spec_l7UpToDate (fu : Nat) : Pc RT den := fun f xs => match f with | 61 => S_spec_LastOf fu xs | _ => none
def msk_spec_l7UpToDate (b : Nat) : List Nat := match b with | 200002 => [6] | _ => []
def lp_spec_l7UpToDate (fu : Nat) : Lp RT den (Bool) := fun b s k => none
theorem ev_spec_l7UpToDate (fu : Nat) (log_0 : (Sl S_impl_Entry)) (index_1 : Int) (term_2 : Int) : evFun E (pc_spec_l7UpToDate fu) msk_spec_l7UpToDate (lp_spec_l7UpToDate fu) out_b 36 [(.rs log_0.z .impl_Entry log_0.n log_0.f), (.int .i64 index_1), (.int .i64 term_2)] = F_spec_l7UpToDate fu log_0 index_1 term_2 := by kernel_rfl
noncomputable def body_spec_l7UpToDate : Code := Try.f36.body.getD .skip
theorem lpok_spec_l7UpToDate (fu : Nat) : LpOk E (pc_spec_l7UpToDate fu) msk_spec_l7UpToDate (lp_spec_l7UpToDate fu) (loops 0 body_spec_l7UpToDate) := by
  have h : loops 0 body_spec_l7UpToDate = [] := by kernel_rfl
  rw [h]; intro p hp; cases hp
def S_spec_l7UpToDate (fu : Nat) (xs : List (D RT den)) : Option (Out RT den) := match xs with | [.rs za0_0 .impl_Entry na0_0 fa0_0, .int .i64 a1_0, .int .i64 a2_0] => some ⟨Bool, F_spec_l7UpToDate fu (⟨za0_0, na0_0, fa0_0⟩ : (Sl S_impl_Entry)) a1_0 a2_0, enc_b, fun _ => true⟩ | _ => none
theorem hpc_spec_l7UpToDate (fu : Nat) : ∀ f xs o, pc_spec_l7UpToDate fu f xs = some o → ∀ y, o.x = some y → Good E Try.prog f xs (o.g y) := by
  intro f xs o h
  unfold pc_spec_l7UpToDate at h
  split at h
  · exact good_spec_LastOf fu xs o h
  · cases h
theorem goodv_spec_l7UpToDate (fu : Nat) (log_0 : (Sl S_impl_Entry)) (index_1 : Int) (term_2 : Int) (y : Bool) (hy : F_spec_l7UpToDate fu log_0 index_1 term_2 = some y) : Good E Try.prog 36 [(.rs log_0.z .impl_Entry log_0.n log_0.f), (.int .i64 index_1), (.int .i64 term_2)] (enc_b y) :=
  fun_good E_ok (pc_good (hpc_spec_l7UpToDate fu)) (fn := Try.f36) (c := body_spec_l7UpToDate) (out := out_b) (y := y) (by kernel_rfl) (by kernel_rfl) (by kernel_rfl) (lpok_spec_l7UpToDate fu) (fun d hd => out_b_enc d _ hd) ((ev_spec_l7UpToDate fu log_0 index_1 term_2).trans hy)
theorem good_spec_l7UpToDate (fu : Nat) : ∀ xs o, S_spec_l7UpToDate fu xs = some o → ∀ y, o.x = some y → Good E Try.prog 36 xs (o.g y) := by
  intro xs o h y hy
  unfold S_spec_l7UpToDate at h
  split at h
  · rename_i za0_0 na0_0 fa0_0 a1_0 a2_0
    cases h
    exact goodv_spec_l7UpToDate fu (⟨za0_0, na0_0, fa0_0⟩ : (Sl S_impl_Entry)) a1_0 a2_0 y hy
  · cases h

/-! spec.UpToDate -/
def F_spec_UpToDate (fu : Nat) (log_0 : (Sl S_impl_Entry)) (index_1 : Int) (term_2 : Int) : Option (Bool) :=
  ((((F_spec_LogFault fu log_0).bind fun y171 => (bif (y171 == 0) then ((F_spec_l7UpToDate fu log_0 index_1 term_2).bind fun y172 => (some y172)) else (some false))) : Option Bool).bind fun m173 =>
    (some m173))
def pc_spec_UpToDate (fu : Nat) : Pc RT den := fun f xs => match f with | 17 => S_spec_LogFault fu xs | 36 => S_spec_l7UpToDate fu xs | _ => none
def msk_spec_UpToDate (b : Nat) : List Nat := match b with | 200001 => [6] | _ => []
def lp_spec_UpToDate (fu : Nat) : Lp RT den (Bool) := fun b s k => none
theorem ev_spec_UpToDate (fu : Nat) (log_0 : (Sl S_impl_Entry)) (index_1 : Int) (term_2 : Int) : evFun E (pc_spec_UpToDate fu) msk_spec_UpToDate (lp_spec_UpToDate fu) out_b 21 [(.rs log_0.z .impl_Entry log_0.n log_0.f), (.int .i64 index_1), (.int .i64 term_2)] = F_spec_UpToDate fu log_0 index_1 term_2 := by kernel_rfl
noncomputable def body_spec_UpToDate : Code := Try.f21.body.getD .skip
theorem lpok_spec_UpToDate (fu : Nat) : LpOk E (pc_spec_UpToDate fu) msk_spec_UpToDate (lp_spec_UpToDate fu) (loops 0 body_spec_UpToDate) := by
  have h : loops 0 body_spec_UpToDate = [] := by kernel_rfl
  rw [h]; intro p hp; cases hp
def S_spec_UpToDate (fu : Nat) (xs : List (D RT den)) : Option (Out RT den) := match xs with | [.rs za0_0 .impl_Entry na0_0 fa0_0, .int .i64 a1_0, .int .i64 a2_0] => some ⟨Bool, F_spec_UpToDate fu (⟨za0_0, na0_0, fa0_0⟩ : (Sl S_impl_Entry)) a1_0 a2_0, enc_b, fun _ => true⟩ | _ => none
theorem hpc_spec_UpToDate (fu : Nat) : ∀ f xs o, pc_spec_UpToDate fu f xs = some o → ∀ y, o.x = some y → Good E Try.prog f xs (o.g y) := by
  intro f xs o h
  unfold pc_spec_UpToDate at h
  split at h
  · exact good_spec_LogFault fu xs o h
  · exact good_spec_l7UpToDate fu xs o h
  · cases h
theorem goodv_spec_UpToDate (fu : Nat) (log_0 : (Sl S_impl_Entry)) (index_1 : Int) (term_2 : Int) (y : Bool) (hy : F_spec_UpToDate fu log_0 index_1 term_2 = some y) : Good E Try.prog 21 [(.rs log_0.z .impl_Entry log_0.n log_0.f), (.int .i64 index_1), (.int .i64 term_2)] (enc_b y) :=
  fun_good E_ok (pc_good (hpc_spec_UpToDate fu)) (fn := Try.f21) (c := body_spec_UpToDate) (out := out_b) (y := y) (by kernel_rfl) (by kernel_rfl) (by kernel_rfl) (lpok_spec_UpToDate fu) (fun d hd => out_b_enc d _ hd) ((ev_spec_UpToDate fu log_0 index_1 term_2).trans hy)
theorem good_spec_UpToDate (fu : Nat) : ∀ xs o, S_spec_UpToDate fu xs = some o → ∀ y, o.x = some y → Good E Try.prog 21 xs (o.g y) := by
  intro xs o h y hy
  unfold S_spec_UpToDate at h
  split at h
  · rename_i za0_0 na0_0 fa0_0 a1_0 a2_0
    cases h
    exact goodv_spec_UpToDate fu (⟨za0_0, na0_0, fa0_0⟩ : (Sl S_impl_Entry)) a1_0 a2_0 y hy
  · cases h

/-! impl.last -/
def F_impl_last (fu : Nat) (log_0 : (Sl S_impl_Entry)) : Option (S_impl_Entry) :=
  (bif (((log_0.n : Nat) : Int) == 0) then (some (⟨0, 0, 0, (⟨0, 0, 0, 0, 0, 0⟩ : S_impl_Cmd)⟩ : S_impl_Entry)) else ((bif (decide (0 ≤ (IntKind.wrap .i64 (((log_0.n : Nat) : Int) - 1))) &&
    decide ((Int.toNat (IntKind.wrap .i64 (((log_0.n : Nat) : Int) - 1))) < log_0.n)) then some () else none : Option Unit).bind fun _ => (some (log_0.f (Int.toNat (IntKind.wrap .i64 (((log_0.n : Nat) : Int) - 1)))))))
def pc_impl_last (fu : Nat) : Pc RT den := fun f xs => none
def msk_impl_last (b : Nat) : List Nat := []
def lp_impl_last (fu : Nat) : Lp RT den (S_impl_Entry) := fun b s k => none
theorem ev_impl_last (fu : Nat) (log_0 : (Sl S_impl_Entry)) : evFun E (pc_impl_last fu) msk_impl_last (lp_impl_last fu) out_impl_Entry 43 [(.rs log_0.z .impl_Entry log_0.n log_0.f)] = F_impl_last fu log_0 := by kernel_rfl
noncomputable def body_impl_last : Code := Try.f43.body.getD .skip
theorem lpok_impl_last (fu : Nat) : LpOk E (pc_impl_last fu) msk_impl_last (lp_impl_last fu) (loops 0 body_impl_last) := by
  have h : loops 0 body_impl_last = [] := by kernel_rfl
  rw [h]; intro p hp; cases hp
def S_impl_last (fu : Nat) (xs : List (D RT den)) : Option (Out RT den) := match xs with | [.rs za0_0 .impl_Entry na0_0 fa0_0] => some ⟨S_impl_Entry, F_impl_last fu (⟨za0_0, na0_0, fa0_0⟩ : (Sl S_impl_Entry)), enc_impl_Entry, fun _ => true⟩ | _ => none
theorem hpc_impl_last (fu : Nat) : ∀ f xs o, pc_impl_last fu f xs = some o → ∀ y, o.x = some y → Good E Try.prog f xs (o.g y) := by
  intro f xs o h
  cases h
theorem goodv_impl_last (fu : Nat) (log_0 : (Sl S_impl_Entry)) (y : S_impl_Entry) (hy : F_impl_last fu log_0 = some y) : Good E Try.prog 43 [(.rs log_0.z .impl_Entry log_0.n log_0.f)] (enc_impl_Entry y) :=
  fun_good E_ok (pc_good (hpc_impl_last fu)) (fn := Try.f43) (c := body_impl_last) (out := out_impl_Entry) (y := y) (by kernel_rfl) (by kernel_rfl) (by kernel_rfl) (lpok_impl_last fu) (fun d hd => out_impl_Entry_enc d _ hd) ((ev_impl_last fu log_0).trans hy)
theorem good_impl_last (fu : Nat) : ∀ xs o, S_impl_last fu xs = some o → ∀ y, o.x = some y → Good E Try.prog 43 xs (o.g y) := by
  intro xs o h y hy
  unfold S_impl_last at h
  split at h
  · rename_i za0_0 na0_0 fa0_0
    cases h
    exact goodv_impl_last fu (⟨za0_0, na0_0, fa0_0⟩ : (Sl S_impl_Entry)) y hy
  · cases h

/-! impl.upToDate -/
def F_impl_upToDate (fu : Nat) (log_0 : (Sl S_impl_Entry)) (index_1 : Int) (term_2 : Int) : Option (Bool) :=
  ((F_impl_last fu log_0).bind fun y179 => (((bif (decide (term_2 > y179.Term)) then (some true) else (bif (term_2 == y179.Term) then ((F_impl_size_impl_Entry fu log_0).bind fun y180 =>
    (some (decide (index_1 ≥ y180)))) else (some false))) : Option Bool).bind fun m181 => (some m181)))
def pc_impl_upToDate (fu : Nat) : Pc RT den := fun f xs => match f with | 42 => S_impl_size_impl_Entry fu xs | 43 => S_impl_last fu xs | _ => none
def msk_impl_upToDate (b : Nat) : List Nat := match b with | 200002 => [6] | _ => []
def lp_impl_upToDate (fu : Nat) : Lp RT den (Bool) := fun b s k => none
theorem ev_impl_upToDate (fu : Nat) (log_0 : (Sl S_impl_Entry)) (index_1 : Int) (term_2 : Int) : evFun E (pc_impl_upToDate fu) msk_impl_upToDate (lp_impl_upToDate fu) out_b 37 [(.rs log_0.z .impl_Entry log_0.n log_0.f), (.int .i64 index_1), (.int .i64 term_2)] = F_impl_upToDate fu log_0 index_1 term_2 := by kernel_rfl
noncomputable def body_impl_upToDate : Code := Try.f37.body.getD .skip
theorem lpok_impl_upToDate (fu : Nat) : LpOk E (pc_impl_upToDate fu) msk_impl_upToDate (lp_impl_upToDate fu) (loops 0 body_impl_upToDate) := by
  have h : loops 0 body_impl_upToDate = [] := by kernel_rfl
  rw [h]; intro p hp; cases hp
def S_impl_upToDate (fu : Nat) (xs : List (D RT den)) : Option (Out RT den) := match xs with | [.rs za0_0 .impl_Entry na0_0 fa0_0, .int .i64 a1_0, .int .i64 a2_0] => some ⟨Bool, F_impl_upToDate fu (⟨za0_0, na0_0, fa0_0⟩ : (Sl S_impl_Entry)) a1_0 a2_0, enc_b, fun _ => true⟩ | _ => none
theorem hpc_impl_upToDate (fu : Nat) : ∀ f xs o, pc_impl_upToDate fu f xs = some o → ∀ y, o.x = some y → Good E Try.prog f xs (o.g y) := by
  intro f xs o h
  unfold pc_impl_upToDate at h
  split at h
  · exact good_impl_size_impl_Entry fu xs o h
  · exact good_impl_last fu xs o h
  · cases h
theorem goodv_impl_upToDate (fu : Nat) (log_0 : (Sl S_impl_Entry)) (index_1 : Int) (term_2 : Int) (y : Bool) (hy : F_impl_upToDate fu log_0 index_1 term_2 = some y) : Good E Try.prog 37 [(.rs log_0.z .impl_Entry log_0.n log_0.f), (.int .i64 index_1), (.int .i64 term_2)] (enc_b y) :=
  fun_good E_ok (pc_good (hpc_impl_upToDate fu)) (fn := Try.f37) (c := body_impl_upToDate) (out := out_b) (y := y) (by kernel_rfl) (by kernel_rfl) (by kernel_rfl) (lpok_impl_upToDate fu) (fun d hd => out_b_enc d _ hd) ((ev_impl_upToDate fu log_0 index_1 term_2).trans hy)
theorem good_impl_upToDate (fu : Nat) : ∀ xs o, S_impl_upToDate fu xs = some o → ∀ y, o.x = some y → Good E Try.prog 37 xs (o.g y) := by
  intro xs o h y hy
  unfold S_impl_upToDate at h
  split at h
  · rename_i za0_0 na0_0 fa0_0 a1_0 a2_0
    cases h
    exact goodv_impl_upToDate fu (⟨za0_0, na0_0, fa0_0⟩ : (Sl S_impl_Entry)) a1_0 a2_0 y hy
  · cases h

/-! impl.UpToDate -/
def F_impl_UpToDate (fu : Nat) (log_0 : (Sl S_impl_Entry)) (index_1 : Int) (term_2 : Int) : Option (Bool) :=
  ((((F_impl_LogFault fu log_0).bind fun y176 => (bif (y176 == 0) then ((F_impl_upToDate fu log_0 index_1 term_2).bind fun y177 => (some y177)) else (some false))) : Option Bool).bind fun m178 =>
    (some m178))
def pc_impl_UpToDate (fu : Nat) : Pc RT den := fun f xs => match f with | 18 => S_impl_LogFault fu xs | 37 => S_impl_upToDate fu xs | _ => none
def msk_impl_UpToDate (b : Nat) : List Nat := match b with | 200001 => [6] | _ => []
def lp_impl_UpToDate (fu : Nat) : Lp RT den (Bool) := fun b s k => none
theorem ev_impl_UpToDate (fu : Nat) (log_0 : (Sl S_impl_Entry)) (index_1 : Int) (term_2 : Int) : evFun E (pc_impl_UpToDate fu) msk_impl_UpToDate (lp_impl_UpToDate fu) out_b 22 [(.rs log_0.z .impl_Entry log_0.n log_0.f), (.int .i64 index_1), (.int .i64 term_2)] = F_impl_UpToDate fu log_0 index_1 term_2 := by kernel_rfl
noncomputable def body_impl_UpToDate : Code := Try.f22.body.getD .skip
theorem lpok_impl_UpToDate (fu : Nat) : LpOk E (pc_impl_UpToDate fu) msk_impl_UpToDate (lp_impl_UpToDate fu) (loops 0 body_impl_UpToDate) := by
  have h : loops 0 body_impl_UpToDate = [] := by kernel_rfl
  rw [h]; intro p hp; cases hp
def S_impl_UpToDate (fu : Nat) (xs : List (D RT den)) : Option (Out RT den) := match xs with | [.rs za0_0 .impl_Entry na0_0 fa0_0, .int .i64 a1_0, .int .i64 a2_0] => some ⟨Bool, F_impl_UpToDate fu (⟨za0_0, na0_0, fa0_0⟩ : (Sl S_impl_Entry)) a1_0 a2_0, enc_b, fun _ => true⟩ | _ => none
theorem hpc_impl_UpToDate (fu : Nat) : ∀ f xs o, pc_impl_UpToDate fu f xs = some o → ∀ y, o.x = some y → Good E Try.prog f xs (o.g y) := by
  intro f xs o h
  unfold pc_impl_UpToDate at h
  split at h
  · exact good_impl_LogFault fu xs o h
  · exact good_impl_upToDate fu xs o h
  · cases h
theorem goodv_impl_UpToDate (fu : Nat) (log_0 : (Sl S_impl_Entry)) (index_1 : Int) (term_2 : Int) (y : Bool) (hy : F_impl_UpToDate fu log_0 index_1 term_2 = some y) : Good E Try.prog 22 [(.rs log_0.z .impl_Entry log_0.n log_0.f), (.int .i64 index_1), (.int .i64 term_2)] (enc_b y) :=
  fun_good E_ok (pc_good (hpc_impl_UpToDate fu)) (fn := Try.f22) (c := body_impl_UpToDate) (out := out_b) (y := y) (by kernel_rfl) (by kernel_rfl) (by kernel_rfl) (lpok_impl_UpToDate fu) (fun d hd => out_b_enc d _ hd) ((ev_impl_UpToDate fu log_0 index_1 term_2).trans hy)
theorem good_impl_UpToDate (fu : Nat) : ∀ xs o, S_impl_UpToDate fu xs = some o → ∀ y, o.x = some y → Good E Try.prog 22 xs (o.g y) := by
  intro xs o h y hy
  unfold S_impl_UpToDate at h
  split at h
  · rename_i za0_0 na0_0 fa0_0 a1_0 a2_0
    cases h
    exact goodv_impl_UpToDate fu (⟨za0_0, na0_0, fa0_0⟩ : (Sl S_impl_Entry)) a1_0 a2_0 y hy
  · cases h

/-! laws.FnExactUpToDate -/
def F_laws_FnExactUpToDate (fu : Nat) (aLog_0 : (Sl S_laws_Entry)) (aIndex_1 : Int) (aTerm_2 : Int) : Option (Bool) :=
  ((F_laws_szEntryS fu aLog_0 1048576).bind fun y164 => (bif (decide (y164 < 0)) then (some true) else ((F_laws_toEntryS fu aLog_0).bind fun y165 => ((F_spec_UpToDate fu y165 aIndex_1 aTerm_2).bind fun y166 =>
    ((F_laws_toEntryS fu aLog_0).bind fun y167 => ((F_impl_UpToDate fu y167 aIndex_1 aTerm_2).bind fun y168 => (bif (!(y168 == y166)) then (some false) else ((F_laws_toEntryS fu aLog_0).bind fun y169 =>
    ((F_laws_eqEntryS fu y167 y169).bind fun y170 => (bif (!y170) then (some false) else (some true)))))))))))
def pc_laws_FnExactUpToDate (fu : Nat) : Pc RT den := fun f xs => match f with | 9 => S_laws_szEntryS fu xs | 11 => S_laws_toEntryS fu xs | 13 => S_laws_eqEntryS fu xs | 21 => S_spec_UpToDate fu xs | 22 => S_impl_UpToDate fu xs | _ => none
def msk_laws_FnExactUpToDate (b : Nat) : List Nat := []
def lp_laws_FnExactUpToDate (fu : Nat) : Lp RT den (Bool) := fun b s k => none
theorem ev_laws_FnExactUpToDate (fu : Nat) (aLog_0 : (Sl S_laws_Entry)) (aIndex_1 : Int) (aTerm_2 : Int) : evFun E (pc_laws_FnExactUpToDate fu) msk_laws_FnExactUpToDate (lp_laws_FnExactUpToDate fu) out_b 7 [(.rs aLog_0.z .laws_Entry aLog_0.n aLog_0.f), (.int .i64 aIndex_1), (.int .i64 aTerm_2)] = F_laws_FnExactUpToDate fu aLog_0 aIndex_1 aTerm_2 := by kernel_rfl
noncomputable def body_laws_FnExactUpToDate : Code := Try.f7.body.getD .skip
theorem lpok_laws_FnExactUpToDate (fu : Nat) : LpOk E (pc_laws_FnExactUpToDate fu) msk_laws_FnExactUpToDate (lp_laws_FnExactUpToDate fu) (loops 0 body_laws_FnExactUpToDate) := by
  have h : loops 0 body_laws_FnExactUpToDate = [] := by kernel_rfl
  rw [h]; intro p hp; cases hp
def S_laws_FnExactUpToDate (fu : Nat) (xs : List (D RT den)) : Option (Out RT den) := match xs with | [.rs za0_0 .laws_Entry na0_0 fa0_0, .int .i64 a1_0, .int .i64 a2_0] => some ⟨Bool, F_laws_FnExactUpToDate fu (⟨za0_0, na0_0, fa0_0⟩ : (Sl S_laws_Entry)) a1_0 a2_0, enc_b, fun _ => true⟩ | _ => none
theorem hpc_laws_FnExactUpToDate (fu : Nat) : ∀ f xs o, pc_laws_FnExactUpToDate fu f xs = some o → ∀ y, o.x = some y → Good E Try.prog f xs (o.g y) := by
  intro f xs o h
  unfold pc_laws_FnExactUpToDate at h
  split at h
  · exact good_laws_szEntryS fu xs o h
  · exact good_laws_toEntryS fu xs o h
  · exact good_laws_eqEntryS fu xs o h
  · exact good_spec_UpToDate fu xs o h
  · exact good_impl_UpToDate fu xs o h
  · cases h
theorem goodv_laws_FnExactUpToDate (fu : Nat) (aLog_0 : (Sl S_laws_Entry)) (aIndex_1 : Int) (aTerm_2 : Int) (y : Bool) (hy : F_laws_FnExactUpToDate fu aLog_0 aIndex_1 aTerm_2 = some y) : Good E Try.prog 7 [(.rs aLog_0.z .laws_Entry aLog_0.n aLog_0.f), (.int .i64 aIndex_1), (.int .i64 aTerm_2)] (enc_b y) :=
  fun_good E_ok (pc_good (hpc_laws_FnExactUpToDate fu)) (fn := Try.f7) (c := body_laws_FnExactUpToDate) (out := out_b) (y := y) (by kernel_rfl) (by kernel_rfl) (by kernel_rfl) (lpok_laws_FnExactUpToDate fu) (fun d hd => out_b_enc d _ hd) ((ev_laws_FnExactUpToDate fu aLog_0 aIndex_1 aTerm_2).trans hy)
theorem good_laws_FnExactUpToDate (fu : Nat) : ∀ xs o, S_laws_FnExactUpToDate fu xs = some o → ∀ y, o.x = some y → Good E Try.prog 7 xs (o.g y) := by
  intro xs o h y hy
  unfold S_laws_FnExactUpToDate at h
  split at h
  · rename_i za0_0 na0_0 fa0_0 a1_0 a2_0
    cases h
    exact goodv_laws_FnExactUpToDate fu (⟨za0_0, na0_0, fa0_0⟩ : (Sl S_laws_Entry)) a1_0 a2_0 y hy
  · cases h

/-! laws.szInt64S -/
def F_laws_szInt64S (fu : Nat) (a_0 : (Sl Int)) (left_1 : Int) : Option (Int) :=
  (bif (decide ((IntKind.wrap .i64 (left_1 - ((a_0.n : Nat) : Int))) < 0)) then (some (-1)) else (some (IntKind.wrap .i64 (left_1 - ((a_0.n : Nat) : Int)))))
def pc_laws_szInt64S (fu : Nat) : Pc RT den := fun f xs => none
def msk_laws_szInt64S (b : Nat) : List Nat := []
def lp_laws_szInt64S (fu : Nat) : Lp RT den (Int) := fun b s k => none
theorem ev_laws_szInt64S (fu : Nat) (a_0 : (Sl Int)) (left_1 : Int) : evFun E (pc_laws_szInt64S fu) msk_laws_szInt64S (lp_laws_szInt64S fu) out_i64 38 [(.rs a_0.z .i64 a_0.n a_0.f), (.int .i64 left_1)] = F_laws_szInt64S fu a_0 left_1 := by kernel_rfl
noncomputable def body_laws_szInt64S : Code := Try.f38.body.getD .skip
theorem lpok_laws_szInt64S (fu : Nat) : LpOk E (pc_laws_szInt64S fu) msk_laws_szInt64S (lp_laws_szInt64S fu) (loops 0 body_laws_szInt64S) := by
  have h : loops 0 body_laws_szInt64S = [] := by kernel_rfl
  rw [h]; intro p hp; cases hp
def S_laws_szInt64S (fu : Nat) (xs : List (D RT den)) : Option (Out RT den) := match xs with | [.rs za0_0 .i64 na0_0 fa0_0, .int .i64 a1_0] => some ⟨Int, F_laws_szInt64S fu (⟨za0_0, na0_0, fa0_0⟩ : (Sl Int)) a1_0, enc_i64, fun _ => true⟩ | _ => none
theorem hpc_laws_szInt64S (fu : Nat) : ∀ f xs o, pc_laws_szInt64S fu f xs = some o → ∀ y, o.x = some y → Good E Try.prog f xs (o.g y) := by
  intro f xs o h
  cases h
theorem goodv_laws_szInt64S (fu : Nat) (a_0 : (Sl Int)) (left_1 : Int) (y : Int) (hy : F_laws_szInt64S fu a_0 left_1 = some y) : Good E Try.prog 38 [(.rs a_0.z .i64 a_0.n a_0.f), (.int .i64 left_1)] (enc_i64 y) :=
  fun_good E_ok (pc_good (hpc_laws_szInt64S fu)) (fn := Try.f38) (c := body_laws_szInt64S) (out := out_i64) (y := y) (by kernel_rfl) (by kernel_rfl) (by kernel_rfl) (lpok_laws_szInt64S fu) (fun d hd => out_i64_enc d _ hd) ((ev_laws_szInt64S fu a_0 left_1).trans hy)
theorem good_laws_szInt64S (fu : Nat) : ∀ xs o, S_laws_szInt64S fu xs = some o → ∀ y, o.x = some y → Good E Try.prog 38 xs (o.g y) := by
  intro xs o h y hy
  unfold S_laws_szInt64S at h
  split at h
  · rename_i za0_0 na0_0 fa0_0 a1_0
    cases h
    exact goodv_laws_szInt64S fu (⟨za0_0, na0_0, fa0_0⟩ : (Sl Int)) a1_0 y hy
  · cases h

/-! laws.szNode -/
def F_laws_szNode (fu : Nat) (a_0 : S_laws_Node) (left_1 : Int) : Option (Int) :=
  ((F_laws_szEntryS fu a_0.Log left_1).bind fun y189 => (bif (decide (y189 < 0)) then (some (-1)) else ((F_laws_szInt64S fu a_0.Votes y189).bind fun y190 => (bif (decide (y190 < 0)) then
    (some (-1)) else ((F_laws_szInt64S fu a_0.Next y190).bind fun y191 => (bif (decide (y191 < 0)) then (some (-1)) else ((F_laws_szInt64S fu a_0.Match y191).bind fun y192 => (bif (decide (y192 < 0)) then
    (some (-1)) else (some y192)))))))))
def pc_laws_szNode (fu : Nat) : Pc RT den := fun f xs => match f with | 9 => S_laws_szEntryS fu xs | 38 => S_laws_szInt64S fu xs | _ => none
def msk_laws_szNode (b : Nat) : List Nat := []
def lp_laws_szNode (fu : Nat) : Lp RT den (Int) := fun b s k => none
theorem ev_laws_szNode (fu : Nat) (a_0 : S_laws_Node) (left_1 : Int) : evFun E (pc_laws_szNode fu) msk_laws_szNode (lp_laws_szNode fu) out_i64 23 [(.agg [(.int .i64 a_0.Id), (.int .i64 a_0.Peers), (.int .i64 a_0.Term), (.int .i64 a_0.Voted), (.rs a_0.Log.z .laws_Entry a_0.Log.n a_0.Log.f), (.int .i64 a_0.Role), (.int .i64 a_0.Commit), (.rs a_0.Votes.z .i64 a_0.Votes.n a_0.Votes.f), (.rs a_0.Next.z .i64 a_0.Next.n a_0.Next.f), (.rs a_0.Match.z .i64 a_0.Match.n a_0.Match.f)]), (.int .i64 left_1)] = F_laws_szNode fu a_0 left_1 := by kernel_rfl
noncomputable def body_laws_szNode : Code := Try.f23.body.getD .skip
theorem lpok_laws_szNode (fu : Nat) : LpOk E (pc_laws_szNode fu) msk_laws_szNode (lp_laws_szNode fu) (loops 0 body_laws_szNode) := by
  have h : loops 0 body_laws_szNode = [] := by kernel_rfl
  rw [h]; intro p hp; cases hp
def S_laws_szNode (fu : Nat) (xs : List (D RT den)) : Option (Out RT den) := match xs with | [.agg [.int .i64 a0_1, .int .i64 a0_2, .int .i64 a0_3, .int .i64 a0_4, .rs za0_5 .laws_Entry na0_5 fa0_5, .int .i64 a0_6, .int .i64 a0_7, .rs za0_8 .i64 na0_8 fa0_8, .rs za0_9 .i64 na0_9 fa0_9, .rs za0_10 .i64 na0_10 fa0_10], .int .i64 a1_0] => some ⟨Int, F_laws_szNode fu (⟨a0_1, a0_2, a0_3, a0_4, (⟨za0_5, na0_5, fa0_5⟩ : (Sl S_laws_Entry)), a0_6, a0_7, (⟨za0_8, na0_8, fa0_8⟩ : (Sl Int)), (⟨za0_9, na0_9, fa0_9⟩ : (Sl Int)), (⟨za0_10, na0_10, fa0_10⟩ : (Sl Int))⟩ : S_laws_Node) a1_0, enc_i64, fun _ => true⟩ | _ => none
theorem hpc_laws_szNode (fu : Nat) : ∀ f xs o, pc_laws_szNode fu f xs = some o → ∀ y, o.x = some y → Good E Try.prog f xs (o.g y) := by
  intro f xs o h
  unfold pc_laws_szNode at h
  split at h
  · exact good_laws_szEntryS fu xs o h
  · exact good_laws_szInt64S fu xs o h
  · cases h
theorem goodv_laws_szNode (fu : Nat) (a_0 : S_laws_Node) (left_1 : Int) (y : Int) (hy : F_laws_szNode fu a_0 left_1 = some y) : Good E Try.prog 23 [(.agg [(.int .i64 a_0.Id), (.int .i64 a_0.Peers), (.int .i64 a_0.Term), (.int .i64 a_0.Voted), (.rs a_0.Log.z .laws_Entry a_0.Log.n a_0.Log.f), (.int .i64 a_0.Role), (.int .i64 a_0.Commit), (.rs a_0.Votes.z .i64 a_0.Votes.n a_0.Votes.f), (.rs a_0.Next.z .i64 a_0.Next.n a_0.Next.f), (.rs a_0.Match.z .i64 a_0.Match.n a_0.Match.f)]), (.int .i64 left_1)] (enc_i64 y) :=
  fun_good E_ok (pc_good (hpc_laws_szNode fu)) (fn := Try.f23) (c := body_laws_szNode) (out := out_i64) (y := y) (by kernel_rfl) (by kernel_rfl) (by kernel_rfl) (lpok_laws_szNode fu) (fun d hd => out_i64_enc d _ hd) ((ev_laws_szNode fu a_0 left_1).trans hy)
theorem good_laws_szNode (fu : Nat) : ∀ xs o, S_laws_szNode fu xs = some o → ∀ y, o.x = some y → Good E Try.prog 23 xs (o.g y) := by
  intro xs o h y hy
  unfold S_laws_szNode at h
  split at h
  · rename_i a0_1 a0_2 a0_3 a0_4 za0_5 na0_5 fa0_5 a0_6 a0_7 za0_8 na0_8 fa0_8 za0_9 na0_9 fa0_9 za0_10 na0_10 fa0_10 a1_0
    cases h
    exact goodv_laws_szNode fu (⟨a0_1, a0_2, a0_3, a0_4, (⟨za0_5, na0_5, fa0_5⟩ : (Sl S_laws_Entry)), a0_6, a0_7, (⟨za0_8, na0_8, fa0_8⟩ : (Sl Int)), (⟨za0_9, na0_9, fa0_9⟩ : (Sl Int)), (⟨za0_10, na0_10, fa0_10⟩ : (Sl Int))⟩ : S_laws_Node) a1_0 y hy
  · cases h

/-! laws.toInt64S -/
def F_laws_toInt64S_B0 {ρ : Type} (fu : Nat) (a0_0 : (Sl Int)) (out3_1 : Nat) (on0_3 : Nat) (k0 : (Nat → Int) → Option ρ) (i4_2 : Int) (of0_4 : (Nat → Int)) (go : Int → (Nat → Int) → Option ρ) : Option ρ :=
  (bif (decide (i4_2 < ((a0_0.n : Nat) : Int))) then ((bif (decide (0 ≤ i4_2) && decide ((Int.toNat i4_2) < a0_0.n)) then some () else none : Option Unit).bind fun _ => ((bif (decide (0 ≤ i4_2) &&
    decide ((Int.toNat i4_2) < out3_1)) then some () else none : Option Unit).bind fun _ => (go (IntKind.wrap .i64 (i4_2 + 1)) (fun j => if j = (Int.toNat i4_2) then (a0_0.f (Int.toNat i4_2)) else
    of0_4 j)))) else (k0 of0_4))
def F_laws_toInt64S (fu : Nat) (a_0 : (Sl Int)) : Option ((Sl Int)) :=
  (bif (decide (0 ≤ ((a_0.n : Nat) : Int)) && (decide (((a_0.n : Nat) : Int) = ((a_0.n : Nat) : Int)) && (decide ((8 : Int) * ((a_0.n : Nat) : Int) ≤ 281474976710656) && decide (((a_0.n : Nat) : Int) ≤ 9223372036854775807)))) then
    (L (fun w0 go0 => F_laws_toInt64S_B0 fu a_0 (Int.toNat ((a_0.n : Nat) : Int)) (Int.toNat ((a_0.n : Nat) : Int)) (fun z197 => (some (⟨none, (Int.toNat ((a_0.n : Nat) : Int)),
    z197⟩ : (Sl Int)))) w0.1 w0.2 (fun q0 q1 => go0 (q0, q1))) fu ((0, (fun _ => 0)) : Int × (Nat → Int))) else none)
def pc_laws_toInt64S (fu : Nat) : Pc RT den := fun f xs => none
def msk_laws_toInt64S (b : Nat) : List Nat := match b with | 0 => [1, 2, 5, 6, 7, 8, 9, 10, 11, 12, 13, 14, 15, 16, 17, 18, 19, 20, 21] | 100000 => [0, 1, 4, 5, 6, 7, 8, 9, 10, 11, 12, 13, 14, 15, 16, 17, 18, 19, 20, 21] | _ => []
def ps_laws_toInt64S_0 : List (Pat RT) := [.flat (.rs .i64), .flat .dead, .flat .dead, .flat (.os 0), .flat (.int .i64), .flat .dead, .flat .dead, .flat .dead, .flat .dead, .flat .dead, .flat .dead, .flat .dead, .flat .dead, .flat .dead, .flat .dead, .flat .dead, .flat .dead, .flat .dead, .flat .dead, .flat .dead, .flat .dead, .flat .dead]
def os_laws_toInt64S_0 : List (OP RT) := [.row .i64]
def conv_laws_toInt64S_0 (r : Raw den ps_laws_toInt64S_0 os_laws_toInt64S_0) : ((Sl Int) × Nat × Nat) × (Int × (Nat → Int)) := ((r.1.1, r.1.2.2.2.1, r.2.1.1), (r.1.2.2.2.2.1, r.2.1.2))
def back_laws_toInt64S_0 (c : (Sl Int) × Nat × Nat) (w : Int × (Nat → Int)) : St RT den := ⟨[(.rs c.1.z .i64 c.1.n c.1.f), .dead, .dead, (.os 0 c.2.1), (.int .i64 w.1), .dead, .dead, .dead, .dead, .dead, .dead, .dead, .dead, .dead, .dead, .dead, .dead, .dead, .dead, .dead, .dead, .dead], [(.row .i64 c.2.2 w.2)]⟩
def Bk_laws_toInt64S_0 {ρ : Type} (fu : Nat) (c : (Sl Int) × Nat × Nat) (k : Ex → St RT den → Option ρ) (w : Int × (Nat → Int)) (go : (Int × (Nat → Int)) → Option ρ) : Option ρ := F_laws_toInt64S_B0 fu c.1 c.2.1 c.2.2 (fun a0 => k (.exit 0) ⟨[.dead, .dead, .dead, (.os 0 c.2.1), .dead, .dead, .dead, .dead, .dead, .dead, .dead, .dead, .dead, .dead, .dead, .dead, .dead, .dead, .dead, .dead, .dead, .dead], [(.row .i64 c.2.2 a0)]⟩) w.1 w.2 (fun q0 q1 => go (q0, q1))
def lp_laws_toInt64S (fu : Nat) : Lp RT den ((Sl Int)) := fun b s k => match b with | 0 => handle ps_laws_toInt64S_0 os_laws_toInt64S_0 conv_laws_toInt64S_0 (Bk_laws_toInt64S_0 fu) fu s k | _ => none
theorem ev_laws_toInt64S (fu : Nat) (a_0 : (Sl Int)) : evFun E (pc_laws_toInt64S fu) msk_laws_toInt64S (lp_laws_toInt64S fu) out_sl_i64 40 [(.rs a_0.z .i64 a_0.n a_0.f)] = F_laws_toInt64S fu a_0 := by kernel_rfl
noncomputable def body_laws_toInt64S : Code := Try.f40.body.getD .skip
noncomputable def lc_laws_toInt64S_0 : Code := ((loops 0 body_laws_toInt64S).getD 0 (0, .skip)).2
theorem round_laws_toInt64S_0 (fu : Nat) (it : St RT den → Option ((Sl Int))) (k : Ex → St RT den → Option ((Sl Int))) c w : evCode E (pc_laws_toInt64S fu) msk_laws_toInt64S (lp_laws_toInt64S fu) 0 lc_laws_toInt64S_0 (back_laws_toInt64S_0 c w) (after (msk_laws_toInt64S 0) (msk_laws_toInt64S 100000) 1 it k) = Bk_laws_toInt64S_0 fu c k w (fun w => it (back_laws_toInt64S_0 c w)) := by kernel_rfl
theorem lpok_laws_toInt64S_0 (fu : Nat) : ∀ s k r, lp_laws_toInt64S fu 0 s k = some r → ∃ fuel, iter (msk_laws_toInt64S 0) (msk_laws_toInt64S 100000) s.objs.length (evCode E (pc_laws_toInt64S fu) msk_laws_toInt64S (lp_laws_toInt64S fu) 0 lc_laws_toInt64S_0) fuel s k = some r :=
  handle_ok (ps := ps_laws_toInt64S_0) (os := os_laws_toInt64S_0) (conv := conv_laws_toInt64S_0) (B := Bk_laws_toInt64S_0 fu) (fu := fu) back_laws_toInt64S_0 (fun raw => by kernel_rfl) 1 (fun c w => by kernel_rfl) (round_laws_toInt64S_0 fu)
theorem lpok_laws_toInt64S (fu : Nat) : LpOk E (pc_laws_toInt64S fu) msk_laws_toInt64S (lp_laws_toInt64S fu) (loops 0 body_laws_toInt64S) := loop_all 1 (by kernel_rfl) fun i hi => match i, hi with
  | 0, _ => by
    have h : (loops 0 body_laws_toInt64S).getD 0 (0, .skip) = (0, lc_laws_toInt64S_0) := by kernel_rfl
    rw [h]; exact lpok_laws_toInt64S_0 fu
  | i + 1, hi => absurd hi (by omega)
def S_laws_toInt64S (fu : Nat) (xs : List (D RT den)) : Option (Out RT den) := match xs with | [.rs za0_0 .i64 na0_0 fa0_0] => some ⟨(Sl Int), F_laws_toInt64S fu (⟨za0_0, na0_0, fa0_0⟩ : (Sl Int)), enc_sl_i64, fun _ => true⟩ | _ => none
theorem hpc_laws_toInt64S (fu : Nat) : ∀ f xs o, pc_laws_toInt64S fu f xs = some o → ∀ y, o.x = some y → Good E Try.prog f xs (o.g y) := by
  intro f xs o h
  cases h
theorem goodv_laws_toInt64S (fu : Nat) (a_0 : (Sl Int)) (y : (Sl Int)) (hy : F_laws_toInt64S fu a_0 = some y) : Good E Try.prog 40 [(.rs a_0.z .i64 a_0.n a_0.f)] (enc_sl_i64 y) :=
  fun_good E_ok (pc_good (hpc_laws_toInt64S fu)) (fn := Try.f40) (c := body_laws_toInt64S) (out := out_sl_i64) (y := y) (by kernel_rfl) (by kernel_rfl) (by kernel_rfl) (lpok_laws_toInt64S fu) (fun d hd => out_sl_i64_enc d _ hd) ((ev_laws_toInt64S fu a_0).trans hy)
theorem good_laws_toInt64S (fu : Nat) : ∀ xs o, S_laws_toInt64S fu xs = some o → ∀ y, o.x = some y → Good E Try.prog 40 xs (o.g y) := by
  intro xs o h y hy
  unfold S_laws_toInt64S at h
  split at h
  · rename_i za0_0 na0_0 fa0_0
    cases h
    exact goodv_laws_toInt64S fu (⟨za0_0, na0_0, fa0_0⟩ : (Sl Int)) y hy
  · cases h

/-! laws.toNode -/
def F_laws_toNode (fu : Nat) (a_0 : S_laws_Node) : Option (S_impl_Node) :=
  ((F_laws_toEntryS fu a_0.Log).bind fun y193 => ((F_laws_toInt64S fu a_0.Votes).bind fun y194 => ((F_laws_toInt64S fu a_0.Next).bind fun y195 => ((F_laws_toInt64S fu a_0.Match).bind fun y196 =>
    (some (⟨a_0.Id, a_0.Peers, a_0.Term, a_0.Voted, y193, a_0.Role, a_0.Commit, y194, y195, y196⟩ : S_impl_Node))))))
def pc_laws_toNode (fu : Nat) : Pc RT den := fun f xs => match f with | 11 => S_laws_toEntryS fu xs | 40 => S_laws_toInt64S fu xs | _ => none
def msk_laws_toNode (b : Nat) : List Nat := []
def lp_laws_toNode (fu : Nat) : Lp RT den (S_impl_Node) := fun b s k => none
theorem ev_laws_toNode (fu : Nat) (a_0 : S_laws_Node) : evFun E (pc_laws_toNode fu) msk_laws_toNode (lp_laws_toNode fu) out_impl_Node 25 [(.agg [(.int .i64 a_0.Id), (.int .i64 a_0.Peers), (.int .i64 a_0.Term), (.int .i64 a_0.Voted), (.rs a_0.Log.z .laws_Entry a_0.Log.n a_0.Log.f), (.int .i64 a_0.Role), (.int .i64 a_0.Commit), (.rs a_0.Votes.z .i64 a_0.Votes.n a_0.Votes.f), (.rs a_0.Next.z .i64 a_0.Next.n a_0.Next.f), (.rs a_0.Match.z .i64 a_0.Match.n a_0.Match.f)])] = F_laws_toNode fu a_0 := by kernel_rfl
noncomputable def body_laws_toNode : Code := Try.f25.body.getD .skip
theorem lpok_laws_toNode (fu : Nat) : LpOk E (pc_laws_toNode fu) msk_laws_toNode (lp_laws_toNode fu) (loops 0 body_laws_toNode) := by
  have h : loops 0 body_laws_toNode = [] := by kernel_rfl
  rw [h]; intro p hp; cases hp
def S_laws_toNode (fu : Nat) (xs : List (D RT den)) : Option (Out RT den) := match xs with | [.agg [.int .i64 a0_1, .int .i64 a0_2, .int .i64 a0_3, .int .i64 a0_4, .rs za0_5 .laws_Entry na0_5 fa0_5, .int .i64 a0_6, .int .i64 a0_7, .rs za0_8 .i64 na0_8 fa0_8, .rs za0_9 .i64 na0_9 fa0_9, .rs za0_10 .i64 na0_10 fa0_10]] => some ⟨S_impl_Node, F_laws_toNode fu (⟨a0_1, a0_2, a0_3, a0_4, (⟨za0_5, na0_5, fa0_5⟩ : (Sl S_laws_Entry)), a0_6, a0_7, (⟨za0_8, na0_8, fa0_8⟩ : (Sl Int)), (⟨za0_9, na0_9, fa0_9⟩ : (Sl Int)), (⟨za0_10, na0_10, fa0_10⟩ : (Sl Int))⟩ : S_laws_Node), enc_impl_Node, fun _ => true⟩ | _ => none
theorem hpc_laws_toNode (fu : Nat) : ∀ f xs o, pc_laws_toNode fu f xs = some o → ∀ y, o.x = some y → Good E Try.prog f xs (o.g y) := by
  intro f xs o h
  unfold pc_laws_toNode at h
  split at h
  · exact good_laws_toEntryS fu xs o h
  · exact good_laws_toInt64S fu xs o h
  · cases h
theorem goodv_laws_toNode (fu : Nat) (a_0 : S_laws_Node) (y : S_impl_Node) (hy : F_laws_toNode fu a_0 = some y) : Good E Try.prog 25 [(.agg [(.int .i64 a_0.Id), (.int .i64 a_0.Peers), (.int .i64 a_0.Term), (.int .i64 a_0.Voted), (.rs a_0.Log.z .laws_Entry a_0.Log.n a_0.Log.f), (.int .i64 a_0.Role), (.int .i64 a_0.Commit), (.rs a_0.Votes.z .i64 a_0.Votes.n a_0.Votes.f), (.rs a_0.Next.z .i64 a_0.Next.n a_0.Next.f), (.rs a_0.Match.z .i64 a_0.Match.n a_0.Match.f)])] (enc_impl_Node y) :=
  fun_good E_ok (pc_good (hpc_laws_toNode fu)) (fn := Try.f25) (c := body_laws_toNode) (out := out_impl_Node) (y := y) (by kernel_rfl) (by kernel_rfl) (by kernel_rfl) (lpok_laws_toNode fu) (fun d hd => out_impl_Node_enc d _ hd) ((ev_laws_toNode fu a_0).trans hy)
theorem good_laws_toNode (fu : Nat) : ∀ xs o, S_laws_toNode fu xs = some o → ∀ y, o.x = some y → Good E Try.prog 25 xs (o.g y) := by
  intro xs o h y hy
  unfold S_laws_toNode at h
  split at h
  · rename_i a0_1 a0_2 a0_3 a0_4 za0_5 na0_5 fa0_5 a0_6 a0_7 za0_8 na0_8 fa0_8 za0_9 na0_9 fa0_9 za0_10 na0_10 fa0_10
    cases h
    exact goodv_laws_toNode fu (⟨a0_1, a0_2, a0_3, a0_4, (⟨za0_5, na0_5, fa0_5⟩ : (Sl S_laws_Entry)), a0_6, a0_7, (⟨za0_8, na0_8, fa0_8⟩ : (Sl Int)), (⟨za0_9, na0_9, fa0_9⟩ : (Sl Int)), (⟨za0_10, na0_10, fa0_10⟩ : (Sl Int))⟩ : S_laws_Node) y hy
  · cases h

/-! spec.l8Id -/
def F_spec_l8Id (fu : Nat) (n_0 : S_impl_Node) (id_1 : Int) : Option (Bool) :=
  ((F_spec_l1In fu id_1 0 (IntKind.wrap .i64 (n_0.Peers - 1))).bind fun y213 => (some y213))
def pc_spec_l8Id (fu : Nat) : Pc RT den := fun f xs => match f with | 29 => S_spec_l1In fu xs | _ => none
def msk_spec_l8Id (b : Nat) : List Nat := []
def lp_spec_l8Id (fu : Nat) : Lp RT den (Bool) := fun b s k => none
theorem ev_spec_l8Id (fu : Nat) (n_0 : S_impl_Node) (id_1 : Int) : evFun E (pc_spec_l8Id fu) msk_spec_l8Id (lp_spec_l8Id fu) out_b 62 [(.rptr [(.int .i64 n_0.Id), (.int .i64 n_0.Peers), (.int .i64 n_0.Term), (.int .i64 n_0.Voted), (.rs n_0.Log.z .impl_Entry n_0.Log.n n_0.Log.f), (.int .i64 n_0.Role), (.int .i64 n_0.Commit), (.rs n_0.Votes.z .i64 n_0.Votes.n n_0.Votes.f), (.rs n_0.Next.z .i64 n_0.Next.n n_0.Next.f), (.rs n_0.Match.z .i64 n_0.Match.n n_0.Match.f)]), (.int .i64 id_1)] = F_spec_l8Id fu n_0 id_1 := by kernel_rfl
noncomputable def body_spec_l8Id : Code := Try.f62.body.getD .skip
theorem lpok_spec_l8Id (fu : Nat) : LpOk E (pc_spec_l8Id fu) msk_spec_l8Id (lp_spec_l8Id fu) (loops 0 body_spec_l8Id) := by
  have h : loops 0 body_spec_l8Id = [] := by kernel_rfl
  rw [h]; intro p hp; cases hp
def S_spec_l8Id (fu : Nat) (xs : List (D RT den)) : Option (Out RT den) := match xs with | [.rptr [.int .i64 a0_1, .int .i64 a0_2, .int .i64 a0_3, .int .i64 a0_4, .rs za0_5 .impl_Entry na0_5 fa0_5, .int .i64 a0_6, .int .i64 a0_7, .rs za0_8 .i64 na0_8 fa0_8, .rs za0_9 .i64 na0_9 fa0_9, .rs za0_10 .i64 na0_10 fa0_10], .int .i64 a1_0] => some ⟨Bool, F_spec_l8Id fu (⟨a0_1, a0_2, a0_3, a0_4, (⟨za0_5, na0_5, fa0_5⟩ : (Sl S_impl_Entry)), a0_6, a0_7, (⟨za0_8, na0_8, fa0_8⟩ : (Sl Int)), (⟨za0_9, na0_9, fa0_9⟩ : (Sl Int)), (⟨za0_10, na0_10, fa0_10⟩ : (Sl Int))⟩ : S_impl_Node) a1_0, enc_b, fun _ => true⟩ | _ => none
theorem hpc_spec_l8Id (fu : Nat) : ∀ f xs o, pc_spec_l8Id fu f xs = some o → ∀ y, o.x = some y → Good E Try.prog f xs (o.g y) := by
  intro f xs o h
  unfold pc_spec_l8Id at h
  split at h
  · exact good_spec_l1In fu xs o h
  · cases h
theorem goodv_spec_l8Id (fu : Nat) (n_0 : S_impl_Node) (id_1 : Int) (y : Bool) (hy : F_spec_l8Id fu n_0 id_1 = some y) : Good E Try.prog 62 [(.rptr [(.int .i64 n_0.Id), (.int .i64 n_0.Peers), (.int .i64 n_0.Term), (.int .i64 n_0.Voted), (.rs n_0.Log.z .impl_Entry n_0.Log.n n_0.Log.f), (.int .i64 n_0.Role), (.int .i64 n_0.Commit), (.rs n_0.Votes.z .i64 n_0.Votes.n n_0.Votes.f), (.rs n_0.Next.z .i64 n_0.Next.n n_0.Next.f), (.rs n_0.Match.z .i64 n_0.Match.n n_0.Match.f)]), (.int .i64 id_1)] (enc_b y) :=
  fun_good E_ok (pc_good (hpc_spec_l8Id fu)) (fn := Try.f62) (c := body_spec_l8Id) (out := out_b) (y := y) (by kernel_rfl) (by kernel_rfl) (by kernel_rfl) (lpok_spec_l8Id fu) (fun d hd => out_b_enc d _ hd) ((ev_spec_l8Id fu n_0 id_1).trans hy)
theorem good_spec_l8Id (fu : Nat) : ∀ xs o, S_spec_l8Id fu xs = some o → ∀ y, o.x = some y → Good E Try.prog 62 xs (o.g y) := by
  intro xs o h y hy
  unfold S_spec_l8Id at h
  split at h
  · rename_i a0_1 a0_2 a0_3 a0_4 za0_5 na0_5 fa0_5 a0_6 a0_7 za0_8 na0_8 fa0_8 za0_9 na0_9 fa0_9 za0_10 na0_10 fa0_10 a1_0
    cases h
    exact goodv_spec_l8Id fu (⟨a0_1, a0_2, a0_3, a0_4, (⟨za0_5, na0_5, fa0_5⟩ : (Sl S_impl_Entry)), a0_6, a0_7, (⟨za0_8, na0_8, fa0_8⟩ : (Sl Int)), (⟨za0_9, na0_9, fa0_9⟩ : (Sl Int)), (⟨za0_10, na0_10, fa0_10⟩ : (Sl Int))⟩ : S_impl_Node) a1_0 y hy
  · cases h
end Go.Proofs.Ytbcggnoogkfgkaa.Pc
