/- The functions' evaluated forms, each a proved summary. Conditions: none. -/
import Derived.Test.YtmnbmponjhglcaaPcF0
namespace Go.Proofs.Ytmnbmponjhglcaa.Pc
open Go Go.RowKit Go.Proofs Vm
set_option linter.unusedVariables false
set_option linter.unusedSimpArgs false
set_option maxRecDepth 100000
/-! spec.CmdFault -/
def F_spec_CmdFault (fu : Nat) (x_0 : S_impl_Cmd) : Option (Int) :=
  ((F_spec_l1In fu x_0.Kind 1 9).bind fun y79 => (bif (!y79) then (some 1) else ((F_spec_l5Needs fu x_0.Kind).bind fun y80 => (((bif (x_0.Expect != (-1)) then ((F_spec_l5Version fu x_0.Expect).bind fun y81 =>
    (bif (!y81) then (some true) else (bif y80.1 then ((F_spec_l3Name fu x_0.Name).bind fun y82 => (bif (!y82) then (some true) else (bif y80.2.1 then ((F_spec_l2Address fu x_0.Addr).bind fun y83 =>
    (bif (!y83) then (some true) else (bif y80.2.2.1 then ((F_spec_l5Number fu x_0).bind fun y84 => (bif (!y84) then (some true) else (bif y80.2.2.2 then ((F_spec_l5Proto fu x_0.Proto).bind fun y85 =>
    (some (!y85))) else (some false)))) else (bif y80.2.2.2 then ((F_spec_l5Proto fu x_0.Proto).bind fun y86 => (some (!y86))) else (some false))))) else (bif y80.2.2.1 then
    ((F_spec_l5Number fu x_0).bind fun y87 => (bif (!y87) then (some true) else (bif y80.2.2.2 then ((F_spec_l5Proto fu x_0.Proto).bind fun y88 => (some (!y88))) else (some false)))) else
    (bif y80.2.2.2 then ((F_spec_l5Proto fu x_0.Proto).bind fun y89 => (some (!y89))) else (some false)))))) else (bif y80.2.1 then ((F_spec_l2Address fu x_0.Addr).bind fun y90 =>
    (bif (!y90) then (some true) else (bif y80.2.2.1 then ((F_spec_l5Number fu x_0).bind fun y91 => (bif (!y91) then (some true) else (bif y80.2.2.2 then ((F_spec_l5Proto fu x_0.Proto).bind fun y92 =>
    (some (!y92))) else (some false)))) else (bif y80.2.2.2 then ((F_spec_l5Proto fu x_0.Proto).bind fun y93 => (some (!y93))) else (some false))))) else (bif y80.2.2.1 then
    ((F_spec_l5Number fu x_0).bind fun y94 => (bif (!y94) then (some true) else (bif y80.2.2.2 then ((F_spec_l5Proto fu x_0.Proto).bind fun y95 => (some (!y95))) else (some false)))) else
    (bif y80.2.2.2 then ((F_spec_l5Proto fu x_0.Proto).bind fun y96 => (some (!y96))) else (some false))))))) else (bif y80.1 then ((F_spec_l3Name fu x_0.Name).bind fun y97 => (bif (!y97) then
    (some true) else (bif y80.2.1 then ((F_spec_l2Address fu x_0.Addr).bind fun y98 => (bif (!y98) then (some true) else (bif y80.2.2.1 then ((F_spec_l5Number fu x_0).bind fun y99 =>
    (bif (!y99) then (some true) else (bif y80.2.2.2 then ((F_spec_l5Proto fu x_0.Proto).bind fun y100 => (some (!y100))) else (some false)))) else (bif y80.2.2.2 then
    ((F_spec_l5Proto fu x_0.Proto).bind fun y101 => (some (!y101))) else (some false))))) else (bif y80.2.2.1 then ((F_spec_l5Number fu x_0).bind fun y102 => (bif (!y102) then (some true) else
    (bif y80.2.2.2 then ((F_spec_l5Proto fu x_0.Proto).bind fun y103 => (some (!y103))) else (some false)))) else (bif y80.2.2.2 then ((F_spec_l5Proto fu x_0.Proto).bind fun y104 =>
    (some (!y104))) else (some false)))))) else (bif y80.2.1 then ((F_spec_l2Address fu x_0.Addr).bind fun y105 => (bif (!y105) then (some true) else (bif y80.2.2.1 then
    ((F_spec_l5Number fu x_0).bind fun y106 => (bif (!y106) then (some true) else (bif y80.2.2.2 then ((F_spec_l5Proto fu x_0.Proto).bind fun y107 => (some (!y107))) else (some false)))) else
    (bif y80.2.2.2 then ((F_spec_l5Proto fu x_0.Proto).bind fun y108 => (some (!y108))) else (some false))))) else (bif y80.2.2.1 then ((F_spec_l5Number fu x_0).bind fun y109 =>
    (bif (!y109) then (some true) else (bif y80.2.2.2 then ((F_spec_l5Proto fu x_0.Proto).bind fun y110 => (some (!y110))) else (some false)))) else (bif y80.2.2.2 then
    ((F_spec_l5Proto fu x_0.Proto).bind fun y111 => (some (!y111))) else (some false)))))) : Option Bool).bind fun m112 => (bif m112 then (some 3) else (((bif (!y80.1) then (bif (x_0.Name != 0) then
    (some true) else (bif (!y80.2.1) then (bif (x_0.Addr != 0) then (some true) else (bif (!y80.2.2.1) then (bif (x_0.Number != 0) then (some true) else (bif (!y80.2.2.2) then (some (x_0.Proto != 0)) else
    (some false))) else (bif (!y80.2.2.2) then (some (x_0.Proto != 0)) else (some false)))) else (bif (!y80.2.2.1) then (bif (x_0.Number != 0) then (some true) else (bif (!y80.2.2.2) then
    (some (x_0.Proto != 0)) else (some false))) else (bif (!y80.2.2.2) then (some (x_0.Proto != 0)) else (some false))))) else (bif (!y80.2.1) then (bif (x_0.Addr != 0) then (some true) else
    (bif (!y80.2.2.1) then (bif (x_0.Number != 0) then (some true) else (bif (!y80.2.2.2) then (some (x_0.Proto != 0)) else (some false))) else (bif (!y80.2.2.2) then (some (x_0.Proto != 0)) else
    (some false)))) else (bif (!y80.2.2.1) then (bif (x_0.Number != 0) then (some true) else (bif (!y80.2.2.2) then (some (x_0.Proto != 0)) else (some false))) else (bif (!y80.2.2.2) then
    (some (x_0.Proto != 0)) else (some false))))) : Option Bool).bind fun m113 => (bif m113 then (some 1) else (some 0))))))))
def pcf_a22 (fu : Nat) (f : Nat) (xs : List (D RT den)) : Option (Out RT den) := match f with | 65 => S_a13 fu xs | 124 => S_a16 fu xs | 127 => S_a17 fu xs | 144 => S_a18 fu xs | 177 => S_a21 fu xs | 194 => S_a15 fu xs | 195 => S_a20 fu xs | _ => none
def pc_a22 (fu : Nat) : Pc RT den := ⟨pcf_a22 fu, fun _ => false, fun _ => false, pcd0, pcx0⟩
def msk_a22 (b : Nat) : List Nat := match b with | 200004 => [62] | 200006 => [96] | _ => []
def lp_a22 (fu : Nat) : Lp RT den (Int) := fun b s k => none
theorem ev_a22 (fu : Nat) (x_0 : S_impl_Cmd) : evFun E (pc_a22 fu) msk_a22 (lp_a22 fu) out_i64 163 [(.agg [(.int .i64 x_0.Kind), (.int .i64 x_0.Expect), (.int .i64 x_0.Name), (.int .i64 x_0.Addr), (.int .i64 x_0.Number), (.int .i64 x_0.Proto)])] = F_spec_CmdFault fu x_0 := by kernel_rfl
noncomputable def body_a22 : Code := Try.f163.body.getD .skip
theorem lpok_a22 (fu : Nat) : LpOk E (pc_a22 fu) msk_a22 (lp_a22 fu) (loops 0 body_a22) := by
  have h : loops 0 body_a22 = [] := by kernel_rfl
  rw [h]; intro p hp; cases hp
def S_a22 (fu : Nat) (xs : List (D RT den)) : Option (Out RT den) := match xs with | [.agg [.int .i64 a0_1, .int .i64 a0_2, .int .i64 a0_3, .int .i64 a0_4, .int .i64 a0_5, .int .i64 a0_6]] => some ⟨Int, F_spec_CmdFault fu (⟨a0_1, a0_2, a0_3, a0_4, a0_5, a0_6⟩ : S_impl_Cmd), enc_i64, fun _ => true⟩ | _ => none
theorem hpc_a22 (fu : Nat) : ∀ f xs o, pcf_a22 fu f xs = some o → ∀ y, o.x = some y → Good E Try.prog f xs (o.g y) := by
  intro f xs o h
  unfold pcf_a22 at h
  split at h
  · exact good_a13 fu xs o h
  · exact good_a16 fu xs o h
  · exact good_a17 fu xs o h
  · exact good_a18 fu xs o h
  · exact good_a21 fu xs o h
  · exact good_a15 fu xs o h
  · exact good_a20 fu xs o h
  · cases h
theorem goodv_a22 (fu : Nat) (x_0 : S_impl_Cmd) (y : Int) (hy : F_spec_CmdFault fu x_0 = some y) : Good E Try.prog 163 [(.agg [(.int .i64 x_0.Kind), (.int .i64 x_0.Expect), (.int .i64 x_0.Name), (.int .i64 x_0.Addr), (.int .i64 x_0.Number), (.int .i64 x_0.Proto)])] (enc_i64 y) :=
  fun_good E_ok (pc_good (pc := pc_a22 fu) (hpc_a22 fu) hpx0) (fn := Try.f163) (c := body_a22) (out := out_i64) (y := y) (by kernel_rfl) (by kernel_rfl) (by kernel_rfl) (lpok_a22 fu) (fun d hd => out_i64_enc d _ hd) ((ev_a22 fu x_0).trans hy)
theorem good_a22 (fu : Nat) : ∀ xs o, S_a22 fu xs = some o → ∀ y, o.x = some y → Good E Try.prog 163 xs (o.g y) := by
  intro xs o h y hy
  unfold S_a22 at h
  split at h
  · rename_i a0_1 a0_2 a0_3 a0_4 a0_5 a0_6
    cases h
    exact goodv_a22 fu (⟨a0_1, a0_2, a0_3, a0_4, a0_5, a0_6⟩ : S_impl_Cmd) y hy
  · cases h

/-! spec.EntryFault -/
def F_spec_EntryFault (fu : Nat) (x_0 : S_impl_Entry) : Option (Int) :=
  ((((F_spec_l1In fu x_0.Term 1 100000).bind fun y74 => (bif (!y74) then (some true) else ((F_spec_l1In fu x_0.Client 0 999).bind fun y75 => (bif (!y75) then (some true) else
    ((F_spec_l1In fu x_0.Seq 0 1000000).bind fun y76 => (some (!y76))))))) : Option Bool).bind fun m77 => (bif m77 then (some 3) else (bif (!((x_0.Client == 0) == (x_0.Seq == 0))) then
    (some 1) else (bif (x_0.Client != 0) then ((F_spec_CmdFault fu x_0.Cmd).bind fun y78 => (some y78)) else (bif (!((x_0.Cmd.Kind == 0) && ((x_0.Cmd.Expect == 0) && ((x_0.Cmd.Name == 0) &&
    ((x_0.Cmd.Addr == 0) && ((x_0.Cmd.Number == 0) && ((x_0.Cmd.Proto == 0) && true))))))) then (some 1) else (some 0))))))
def pcf_a23 (fu : Nat) (f : Nat) (xs : List (D RT den)) : Option (Out RT den) := match f with | 65 => S_a13 fu xs | 163 => S_a22 fu xs | _ => none
def pc_a23 (fu : Nat) : Pc RT den := ⟨pcf_a23 fu, fun _ => false, fun _ => false, pcd0, pcx0⟩
def msk_a23 (b : Nat) : List Nat := match b with | 200001 => [19] | _ => []
def lp_a23 (fu : Nat) : Lp RT den (Int) := fun b s k => none
theorem ev_a23 (fu : Nat) (x_0 : S_impl_Entry) : evFun E (pc_a23 fu) msk_a23 (lp_a23 fu) out_i64 107 [(.agg [(.int .i64 x_0.Term), (.int .i64 x_0.Client), (.int .i64 x_0.Seq), (.int .i64 x_0.Cmd.Kind), (.int .i64 x_0.Cmd.Expect), (.int .i64 x_0.Cmd.Name), (.int .i64 x_0.Cmd.Addr), (.int .i64 x_0.Cmd.Number), (.int .i64 x_0.Cmd.Proto)])] = F_spec_EntryFault fu x_0 := by kernel_rfl
noncomputable def body_a23 : Code := Try.f107.body.getD .skip
theorem lpok_a23 (fu : Nat) : LpOk E (pc_a23 fu) msk_a23 (lp_a23 fu) (loops 0 body_a23) := by
  have h : loops 0 body_a23 = [] := by kernel_rfl
  rw [h]; intro p hp; cases hp
def S_a23 (fu : Nat) (xs : List (D RT den)) : Option (Out RT den) := match xs with | [.agg [.int .i64 a0_1, .int .i64 a0_2, .int .i64 a0_3, .int .i64 a0_5, .int .i64 a0_6, .int .i64 a0_7, .int .i64 a0_8, .int .i64 a0_9, .int .i64 a0_10]] => some ⟨Int, F_spec_EntryFault fu (⟨a0_1, a0_2, a0_3, (⟨a0_5, a0_6, a0_7, a0_8, a0_9, a0_10⟩ : S_impl_Cmd)⟩ : S_impl_Entry), enc_i64, fun _ => true⟩ | _ => none
theorem hpc_a23 (fu : Nat) : ∀ f xs o, pcf_a23 fu f xs = some o → ∀ y, o.x = some y → Good E Try.prog f xs (o.g y) := by
  intro f xs o h
  unfold pcf_a23 at h
  split at h
  · exact good_a13 fu xs o h
  · exact good_a22 fu xs o h
  · cases h
theorem goodv_a23 (fu : Nat) (x_0 : S_impl_Entry) (y : Int) (hy : F_spec_EntryFault fu x_0 = some y) : Good E Try.prog 107 [(.agg [(.int .i64 x_0.Term), (.int .i64 x_0.Client), (.int .i64 x_0.Seq), (.int .i64 x_0.Cmd.Kind), (.int .i64 x_0.Cmd.Expect), (.int .i64 x_0.Cmd.Name), (.int .i64 x_0.Cmd.Addr), (.int .i64 x_0.Cmd.Number), (.int .i64 x_0.Cmd.Proto)])] (enc_i64 y) :=
  fun_good E_ok (pc_good (pc := pc_a23 fu) (hpc_a23 fu) hpx0) (fn := Try.f107) (c := body_a23) (out := out_i64) (y := y) (by kernel_rfl) (by kernel_rfl) (by kernel_rfl) (lpok_a23 fu) (fun d hd => out_i64_enc d _ hd) ((ev_a23 fu x_0).trans hy)
theorem good_a23 (fu : Nat) : ∀ xs o, S_a23 fu xs = some o → ∀ y, o.x = some y → Good E Try.prog 107 xs (o.g y) := by
  intro xs o h y hy
  unfold S_a23 at h
  split at h
  · rename_i a0_1 a0_2 a0_3 a0_5 a0_6 a0_7 a0_8 a0_9 a0_10
    cases h
    exact goodv_a23 fu (⟨a0_1, a0_2, a0_3, (⟨a0_5, a0_6, a0_7, a0_8, a0_9, a0_10⟩ : S_impl_Cmd)⟩ : S_impl_Entry) y hy
  · cases h

/-! spec.LogFault -/
def F_spec_LogFault_B0 {ρ : Type} (fu : Nat) (log0_0 : (Sl S_impl_Entry)) (k0 : Int → Option ρ) (k1 : Option ρ) (k2 : Option ρ) (i3_1 : Int) (go : Int → Option ρ) : Option ρ :=
  (bif (decide (i3_1 < ((log0_0.n : Nat) : Int))) then ((bif (decide (0 ≤ i3_1) && decide ((Int.toNat i3_1) < log0_0.n)) then some () else none : Option Unit).bind fun _ =>
    ((F_spec_EntryFault fu (log0_0.f (Int.toNat i3_1))).bind fun y71 => (bif (y71 != 0) then (k0 y71) else (((bif (decide (i3_1 > 0)) then ((bif (decide (0 ≤ i3_1) && decide ((Int.toNat i3_1) < log0_0.n)) then
    some () else none : Option Unit).bind fun _ => ((bif (decide (0 ≤ (IntKind.wrap .i64 (i3_1 - 1))) && decide ((Int.toNat (IntKind.wrap .i64 (i3_1 - 1))) < log0_0.n)) then some () else
    none : Option Unit).bind fun _ => (some (decide ((log0_0.f (Int.toNat i3_1)).Term < (log0_0.f (Int.toNat (IntKind.wrap .i64 (i3_1 - 1)))).Term))))) else (some false)) : Option Bool).bind fun m72 =>
    (bif m72 then k1 else (go (IntKind.wrap .i64 (i3_1 + 1)))))))) else k2)
def F_spec_LogFault (fu : Nat) (log_0 : (Sl S_impl_Entry)) : Option (Int) :=
  (bif (decide (((log_0.n : Nat) : Int) > 40)) then (some 2) else (L (fun w0 go0 => F_spec_LogFault_B0 fu log_0 (fun z73 => (some z73)) (some 1) (some 0) w0 go0) fu (0 : Int)))
def pcf_a24 (fu : Nat) (f : Nat) (xs : List (D RT den)) : Option (Out RT den) := match f with | 107 => S_a23 fu xs | _ => none
def pc_a24 (fu : Nat) : Pc RT den := ⟨pcf_a24 fu, fun _ => false, fun _ => false, pcd0, pcx0⟩
def msk_a24 (b : Nat) : List Nat := match b with | 0 => [1, 2, 4, 5, 6, 7, 8, 9, 10, 11, 12, 13, 14, 15, 16, 17, 18, 19, 20, 21, 22, 23, 24, 25, 26, 27, 28, 29, 30, 31, 32, 33, 34, 35, 36, 37] | 100000 => [0, 1, 3, 4, 5, 6, 7, 8, 9, 10, 11, 12, 13, 14, 15, 16, 17, 18, 19, 20, 21, 22, 23, 24, 25, 26, 27, 28, 29, 30, 31, 32, 33, 34, 35, 36, 37] | 200009 => [37] | _ => []
def ps_a24_0 : List (Pat RT) := [.flat (.rs .impl_Entry), .flat .q, .flat .q, .flat (.int .i64), .flat .q, .flat .q, .flat .q, .flat .q, .flat .q, .flat .q, .flat .q, .flat .q, .flat .q, .flat .q, .flat .q, .flat .q, .flat .q, .flat .q, .flat .q, .flat .q, .flat .q, .flat .q, .flat .q, .flat .q, .flat .q, .flat .q, .flat .q, .flat .q, .flat .q, .flat .q, .flat .q, .flat .q, .flat .q, .flat .q, .flat .q, .flat .q, .flat .q, .flat .q]
def os_a24_0 : List (OP RT) := []
def conv_a24_0 (r : Raw den ps_a24_0 os_a24_0) : ((Sl S_impl_Entry)) × (Int) := (r.1.1, r.1.2.2.2.1)
def back_a24_0 (c : (Sl S_impl_Entry)) (w : Int) : St RT den := ⟨[(.rs c.z .impl_Entry c.n c.f), .q, .q, (.int .i64 w), .q, .q, .q, .q, .q, .q, .q, .q, .q, .q, .q, .q, .q, .q, .q, .q, .q, .q, .q, .q, .q, .q, .q, .q, .q, .q, .q, .q, .q, .q, .q, .q, .q, .q], []⟩
def Bk_a24_0 {ρ : Type} (fu : Nat) (c : (Sl S_impl_Entry)) (k : Ex → St RT den → Option ρ) (w : Int) (go : (Int) → Option ρ) : Option ρ := F_spec_LogFault_B0 fu c (fun a0 => k .ret ⟨[.q, .q, (.int .i64 a0), .q, .q, .q, .q, .q, .q, .q, .q, .q, .q, .q, .q, .q, .q, .q, .q, .q, .q, .q, .q, .q, .q, .q, .q, .q, .q, .q, .q, .q, .q, .q, .q, .q, .q, .q], []⟩) (k .ret ⟨[.q, .q, (.int .i64 1), .q, .q, .q, .q, .q, .q, .q, .q, .q, .q, .q, .q, .q, .q, .q, .q, .q, .q, .q, .q, .q, .q, .q, .q, .q, .q, .q, .q, .q, .q, .q, .q, .q, .q, .q], []⟩) (k (.exit 0) ⟨[.q, .q, .q, .q, .q, .q, .q, .q, .q, .q, .q, .q, .q, .q, .q, .q, .q, .q, .q, .q, .q, .q, .q, .q, .q, .q, .q, .q, .q, .q, .q, .q, .q, .q, .q, .q, .q, .q], []⟩) w go
def lp_a24 (fu : Nat) : Lp RT den (Int) := fun b s k => match b with | 0 => handle ps_a24_0 os_a24_0 conv_a24_0 (Bk_a24_0 fu) fu s k | _ => none
theorem ev_a24 (fu : Nat) (log_0 : (Sl S_impl_Entry)) : evFun E (pc_a24 fu) msk_a24 (lp_a24 fu) out_i64 159 [(.rs log_0.z .impl_Entry log_0.n log_0.f)] = F_spec_LogFault fu log_0 := by kernel_rfl
noncomputable def body_a24 : Code := Try.f159.body.getD .skip
noncomputable def lc_a24_0 : Code := ((loops 0 body_a24).getD 0 (0, .skip)).2
theorem round_a24_0 (fu : Nat) (it : St RT den → Option (Int)) (k : Ex → St RT den → Option (Int)) c w : evCode E (pc_a24 fu) msk_a24 (lp_a24 fu) 0 lc_a24_0 (back_a24_0 c w) (after (msk_a24 0) (msk_a24 100000) 0 it k) = Bk_a24_0 fu c k w (fun w => it (back_a24_0 c w)) := by kernel_rfl
theorem lpok_a24_0 (fu : Nat) : ∀ s k r, lp_a24 fu 0 s k = some r → ∃ fuel, iter (msk_a24 0) (msk_a24 100000) s.objs.length (evCode E (pc_a24 fu) msk_a24 (lp_a24 fu) 0 lc_a24_0) fuel s k = some r :=
  handle_ok (ps := ps_a24_0) (os := os_a24_0) (conv := conv_a24_0) (B := Bk_a24_0 fu) (fu := fu) back_a24_0 (fun raw => by kernel_rfl) 0 (fun c w => by kernel_rfl) (round_a24_0 fu)
theorem lpok_a24 (fu : Nat) : LpOk E (pc_a24 fu) msk_a24 (lp_a24 fu) (loops 0 body_a24) := loop_all 1 (by kernel_rfl) fun i hi => match i, hi with
  | 0, _ => by
    have h : (loops 0 body_a24).getD 0 (0, .skip) = (0, lc_a24_0) := by kernel_rfl
    rw [h]; exact lpok_a24_0 fu
  | i + 1, hi => absurd hi (by omega)
def S_a24 (fu : Nat) (xs : List (D RT den)) : Option (Out RT den) := match xs with | [.rs za0_0 .impl_Entry na0_0 fa0_0] => some ⟨Int, F_spec_LogFault fu (⟨za0_0, na0_0, fa0_0⟩ : (Sl S_impl_Entry)), enc_i64, fun _ => true⟩ | _ => none
theorem hpc_a24 (fu : Nat) : ∀ f xs o, pcf_a24 fu f xs = some o → ∀ y, o.x = some y → Good E Try.prog f xs (o.g y) := by
  intro f xs o h
  unfold pcf_a24 at h
  split at h
  · exact good_a23 fu xs o h
  · cases h
theorem goodv_a24 (fu : Nat) (log_0 : (Sl S_impl_Entry)) (y : Int) (hy : F_spec_LogFault fu log_0 = some y) : Good E Try.prog 159 [(.rs log_0.z .impl_Entry log_0.n log_0.f)] (enc_i64 y) :=
  fun_good E_ok (pc_good (pc := pc_a24 fu) (hpc_a24 fu) hpx0) (fn := Try.f159) (c := body_a24) (out := out_i64) (y := y) (by kernel_rfl) (by kernel_rfl) (by kernel_rfl) (lpok_a24 fu) (fun d hd => out_i64_enc d _ hd) ((ev_a24 fu log_0).trans hy)
theorem good_a24 (fu : Nat) : ∀ xs o, S_a24 fu xs = some o → ∀ y, o.x = some y → Good E Try.prog 159 xs (o.g y) := by
  intro xs o h y hy
  unfold S_a24 at h
  split at h
  · rename_i za0_0 na0_0 fa0_0
    cases h
    exact goodv_a24 fu (⟨za0_0, na0_0, fa0_0⟩ : (Sl S_impl_Entry)) y hy
  · cases h

/-! spec.LastOf -/
def F_spec_LastOf (fu : Nat) (log_0 : (Sl S_impl_Entry)) : Option (S_impl_Entry) :=
  (bif (((log_0.n : Nat) : Int) == 0) then (some (⟨0, 0, 0, (⟨0, 0, 0, 0, 0, 0⟩ : S_impl_Cmd)⟩ : S_impl_Entry)) else ((bif (decide (0 ≤ (IntKind.wrap .i64 (((log_0.n : Nat) : Int) - 1))) &&
    decide ((Int.toNat (IntKind.wrap .i64 (((log_0.n : Nat) : Int) - 1))) < log_0.n)) then some () else none : Option Unit).bind fun _ => (some (log_0.f (Int.toNat (IntKind.wrap .i64 (((log_0.n : Nat) : Int) - 1)))))))
def pc_a25 (fu : Nat) : Pc RT den := ⟨pcf0, fun _ => false, fun _ => false, pcd0, pcx0⟩
def msk_a25 (b : Nat) : List Nat := []
def lp_a25 (fu : Nat) : Lp RT den (S_impl_Entry) := fun b s k => none
theorem ev_a25 (fu : Nat) (log_0 : (Sl S_impl_Entry)) : evFun E (pc_a25 fu) msk_a25 (lp_a25 fu) out_impl_Entry 160 [(.rs log_0.z .impl_Entry log_0.n log_0.f)] = F_spec_LastOf fu log_0 := by kernel_rfl
noncomputable def body_a25 : Code := Try.f160.body.getD .skip
theorem lpok_a25 (fu : Nat) : LpOk E (pc_a25 fu) msk_a25 (lp_a25 fu) (loops 0 body_a25) := by
  have h : loops 0 body_a25 = [] := by kernel_rfl
  rw [h]; intro p hp; cases hp
def S_a25 (fu : Nat) (xs : List (D RT den)) : Option (Out RT den) := match xs with | [.rs za0_0 .impl_Entry na0_0 fa0_0] => some ⟨S_impl_Entry, F_spec_LastOf fu (⟨za0_0, na0_0, fa0_0⟩ : (Sl S_impl_Entry)), enc_impl_Entry, fun _ => true⟩ | _ => none
theorem goodv_a25 (fu : Nat) (log_0 : (Sl S_impl_Entry)) (y : S_impl_Entry) (hy : F_spec_LastOf fu log_0 = some y) : Good E Try.prog 160 [(.rs log_0.z .impl_Entry log_0.n log_0.f)] (enc_impl_Entry y) :=
  fun_good E_ok (pc_good (pc := pc_a25 fu) hpc0 hpx0) (fn := Try.f160) (c := body_a25) (out := out_impl_Entry) (y := y) (by kernel_rfl) (by kernel_rfl) (by kernel_rfl) (lpok_a25 fu) (fun d hd => out_impl_Entry_enc d _ hd) ((ev_a25 fu log_0).trans hy)
theorem good_a25 (fu : Nat) : ∀ xs o, S_a25 fu xs = some o → ∀ y, o.x = some y → Good E Try.prog 160 xs (o.g y) := by
  intro xs o h y hy
  unfold S_a25 at h
  split at h
  · rename_i za0_0 na0_0 fa0_0
    cases h
    exact goodv_a25 fu (⟨za0_0, na0_0, fa0_0⟩ : (Sl S_impl_Entry)) y hy
  · cases h

/-! spec.l8Rises -/
def F_spec_l8Rises_B0 {ρ : Type} (fu : Nat) (list0_0 : (Sl Int)) (k0 : Option ρ) (k1 : Option ρ) (i3_1 : Int) (go : Int → Option ρ) : Option ρ :=
  (bif (decide (i3_1 < ((list0_0.n : Nat) : Int))) then ((bif (decide (0 ≤ i3_1) && decide ((Int.toNat i3_1) < list0_0.n)) then some () else none : Option Unit).bind fun _ => ((bif (decide (0 ≤ (IntKind.wrap .i64 (i3_1 - 1))) &&
    decide ((Int.toNat (IntKind.wrap .i64 (i3_1 - 1))) < list0_0.n)) then some () else none : Option Unit).bind fun _ => (bif (decide ((list0_0.f (Int.toNat i3_1)) ≤ (list0_0.f (Int.toNat (IntKind.wrap .i64 (i3_1 - 1)))))) then
    k0 else (go (IntKind.wrap .i64 (i3_1 + 1)))))) else k1)
def F_spec_l8Rises (fu : Nat) (list_0 : (Sl Int)) : Option (Bool) :=
  (L (fun w0 go0 => F_spec_l8Rises_B0 fu list_0 (some false) (some true) w0 go0) fu (1 : Int))
def pc_a26 (fu : Nat) : Pc RT den := ⟨pcf0, fun _ => false, fun _ => false, pcd0, pcx0⟩
def msk_a26 (b : Nat) : List Nat := match b with | 0 => [1, 2, 4, 5, 6, 7, 8, 9, 10, 11, 12, 13, 14, 15, 16, 17, 18, 19] | 100000 => [0, 1, 3, 4, 5, 6, 7, 8, 9, 10, 11, 12, 13, 14, 15, 16, 17, 18, 19] | _ => []
def ps_a26_0 : List (Pat RT) := [.flat (.rs .i64), .flat .q, .flat .q, .flat (.int .i64), .flat .q, .flat .q, .flat .q, .flat .q, .flat .q, .flat .q, .flat .q, .flat .q, .flat .q, .flat .q, .flat .q, .flat .q, .flat .q, .flat .q, .flat .q, .flat .q]
def os_a26_0 : List (OP RT) := []
def conv_a26_0 (r : Raw den ps_a26_0 os_a26_0) : ((Sl Int)) × (Int) := (r.1.1, r.1.2.2.2.1)
def back_a26_0 (c : (Sl Int)) (w : Int) : St RT den := ⟨[(.rs c.z .i64 c.n c.f), .q, .q, (.int .i64 w), .q, .q, .q, .q, .q, .q, .q, .q, .q, .q, .q, .q, .q, .q, .q, .q], []⟩
def Bk_a26_0 {ρ : Type} (fu : Nat) (c : (Sl Int)) (k : Ex → St RT den → Option ρ) (w : Int) (go : (Int) → Option ρ) : Option ρ := F_spec_l8Rises_B0 fu c (k .ret ⟨[.q, .q, (.bool false), .q, .q, .q, .q, .q, .q, .q, .q, .q, .q, .q, .q, .q, .q, .q, .q, .q], []⟩) (k (.exit 0) ⟨[.q, .q, .q, .q, .q, .q, .q, .q, .q, .q, .q, .q, .q, .q, .q, .q, .q, .q, .q, .q], []⟩) w go
def lp_a26 (fu : Nat) : Lp RT den (Bool) := fun b s k => match b with | 0 => handle ps_a26_0 os_a26_0 conv_a26_0 (Bk_a26_0 fu) fu s k | _ => none
theorem ev_a26 (fu : Nat) (list_0 : (Sl Int)) : evFun E (pc_a26 fu) msk_a26 (lp_a26 fu) out_bo 193 [(.rs list_0.z .i64 list_0.n list_0.f)] = F_spec_l8Rises fu list_0 := by kernel_rfl
noncomputable def body_a26 : Code := Try.f193.body.getD .skip
noncomputable def lc_a26_0 : Code := ((loops 0 body_a26).getD 0 (0, .skip)).2
theorem round_a26_0 (fu : Nat) (it : St RT den → Option (Bool)) (k : Ex → St RT den → Option (Bool)) c w : evCode E (pc_a26 fu) msk_a26 (lp_a26 fu) 0 lc_a26_0 (back_a26_0 c w) (after (msk_a26 0) (msk_a26 100000) 0 it k) = Bk_a26_0 fu c k w (fun w => it (back_a26_0 c w)) := by kernel_rfl
theorem lpok_a26_0 (fu : Nat) : ∀ s k r, lp_a26 fu 0 s k = some r → ∃ fuel, iter (msk_a26 0) (msk_a26 100000) s.objs.length (evCode E (pc_a26 fu) msk_a26 (lp_a26 fu) 0 lc_a26_0) fuel s k = some r :=
  handle_ok (ps := ps_a26_0) (os := os_a26_0) (conv := conv_a26_0) (B := Bk_a26_0 fu) (fu := fu) back_a26_0 (fun raw => by kernel_rfl) 0 (fun c w => by kernel_rfl) (round_a26_0 fu)
theorem lpok_a26 (fu : Nat) : LpOk E (pc_a26 fu) msk_a26 (lp_a26 fu) (loops 0 body_a26) := loop_all 1 (by kernel_rfl) fun i hi => match i, hi with
  | 0, _ => by
    have h : (loops 0 body_a26).getD 0 (0, .skip) = (0, lc_a26_0) := by kernel_rfl
    rw [h]; exact lpok_a26_0 fu
  | i + 1, hi => absurd hi (by omega)
def S_a26 (fu : Nat) (xs : List (D RT den)) : Option (Out RT den) := match xs with | [.rs za0_0 .i64 na0_0 fa0_0] => some ⟨Bool, F_spec_l8Rises fu (⟨za0_0, na0_0, fa0_0⟩ : (Sl Int)), enc_bo, fun _ => true⟩ | _ => none
theorem goodv_a26 (fu : Nat) (list_0 : (Sl Int)) (y : Bool) (hy : F_spec_l8Rises fu list_0 = some y) : Good E Try.prog 193 [(.rs list_0.z .i64 list_0.n list_0.f)] (enc_bo y) :=
  fun_good E_ok (pc_good (pc := pc_a26 fu) hpc0 hpx0) (fn := Try.f193) (c := body_a26) (out := out_bo) (y := y) (by kernel_rfl) (by kernel_rfl) (by kernel_rfl) (lpok_a26 fu) (fun d hd => out_bo_enc d _ hd) ((ev_a26 fu list_0).trans hy)
theorem good_a26 (fu : Nat) : ∀ xs o, S_a26 fu xs = some o → ∀ y, o.x = some y → Good E Try.prog 193 xs (o.g y) := by
  intro xs o h y hy
  unfold S_a26 at h
  split at h
  · rename_i za0_0 na0_0 fa0_0
    cases h
    exact goodv_a26 fu (⟨za0_0, na0_0, fa0_0⟩ : (Sl Int)) y hy
  · cases h

/-! spec.l8Lists -/
def F_spec_l8Lists_B0 {ρ : Type} (fu : Nat) (n0_0 : Int) (n0_1 : Int) (n0_2 : Int) (n0_3 : Int) (n0_4 : (Sl S_impl_Entry)) (n0_5 : Int) (n0_6 : Int) (n0_7 : (Sl Int)) (n0_8 : (Sl Int)) (n0_9 : (Sl Int)) (k0 : Option ρ) (k1 : Option ρ) (i3_10 : Int) (go : Int → Option ρ) : Option ρ :=
  (bif (decide (i3_10 < ((n0_7.n : Nat) : Int))) then ((bif (decide (0 ≤ i3_10) && decide ((Int.toNat i3_10) < n0_7.n)) then some () else none : Option Unit).bind fun _ =>
    ((F_spec_l8Id fu (⟨n0_0, n0_1, n0_2, n0_3, n0_4, n0_5, n0_6, n0_7, n0_8, n0_9⟩ : S_impl_Node) (n0_7.f (Int.toNat i3_10))).bind fun y127 => (bif (!y127) then k0 else (go (IntKind.wrap .i64 (i3_10 + 1)))))) else
    k1)
def F_spec_l8Lists (fu : Nat) (n_0 : S_impl_Node) : Option (Bool) :=
  ((((F_spec_l8Rises fu n_0.Votes).bind fun y125 => (bif (!y125) then (some true) else (bif (decide (((n_0.Votes.n : Nat) : Int) > 0)) then (some (n_0.Role != 1)) else (some false)))) : Option Bool).bind fun m126 =>
    (bif m126 then (some false) else (L (fun w0 go0 => F_spec_l8Lists_B0 fu n_0.Id n_0.Peers n_0.Term n_0.Voted n_0.Log n_0.Role n_0.Commit n_0.Votes n_0.Next n_0.Match (some false) (bif (n_0.Role == 2) then
    (((bif (((n_0.Next.n : Nat) : Int) == n_0.Peers) then (some (((n_0.Match.n : Nat) : Int) == n_0.Peers)) else (some false)) : Option Bool).bind fun m128 => (some m128)) else
    (((bif (((n_0.Next.n : Nat) : Int) == 0) then (some (((n_0.Match.n : Nat) : Int) == 0)) else (some false)) : Option Bool).bind fun m129 => (some m129))) w0 go0) fu (0 : Int))))
def pcf_a27 (fu : Nat) (f : Nat) (xs : List (D RT den)) : Option (Out RT den) := match f with | 158 => S_a14 fu xs | 193 => S_a26 fu xs | _ => none
def pc_a27 (fu : Nat) : Pc RT den := ⟨pcf_a27 fu, fun _ => false, fun _ => false, pcd0, pcx0⟩
def msk_a27 (b : Nat) : List Nat := match b with | 0 => [1, 2, 4, 5, 6, 7, 8, 9, 10, 11, 12, 13, 14, 15, 16, 17, 18, 19, 20, 21, 22, 23, 24, 25, 26, 27, 28, 29, 30, 31, 32, 33, 34, 35, 36, 37, 38, 39, 40, 41, 42, 43, 44, 45, 46, 47, 48, 49, 50, 51, 52, 53, 54, 55, 56, 57, 58, 59, 60, 61, 62, 63, 64, 65, 66, 67, 68, 69] | 100000 => [1, 3, 4, 5, 6, 7, 8, 9, 10, 11, 12, 13, 14, 15, 16, 17, 18, 19, 20, 21, 22, 23, 24, 25, 26, 27, 28, 29, 30, 31, 32, 33, 34, 35, 36, 37, 38, 39, 40, 41, 42, 43, 44, 45, 46, 47, 48, 49, 50, 51, 52, 53, 54, 55, 56, 57, 58, 59, 60, 61, 62, 63, 64, 65, 66, 67, 68, 69] | 200001 => [25] | 200011 => [2] | _ => []
def ps_a27_0 : List (Pat RT) := [.rptr [(.int .i64), (.int .i64), (.int .i64), (.int .i64), (.rs .impl_Entry), (.int .i64), (.int .i64), (.rs .i64), (.rs .i64), (.rs .i64)], .flat .q, .flat .q, .flat (.int .i64), .flat .q, .flat .q, .flat .q, .flat .q, .flat .q, .flat .q, .flat .q, .flat .q, .flat .q, .flat .q, .flat .q, .flat .q, .flat .q, .flat .q, .flat .q, .flat .q, .flat .q, .flat .q, .flat .q, .flat .q, .flat .q, .flat .q, .flat .q, .flat .q, .flat .q, .flat .q, .flat .q, .flat .q, .flat .q, .flat .q, .flat .q, .flat .q, .flat .q, .flat .q, .flat .q, .flat .q, .flat .q, .flat .q, .flat .q, .flat .q, .flat .q, .flat .q, .flat .q, .flat .q, .flat .q, .flat .q, .flat .q, .flat .q, .flat .q, .flat .q, .flat .q, .flat .q, .flat .q, .flat .q, .flat .q, .flat .q, .flat .q, .flat .q, .flat .q, .flat .q, .flat .q, .flat .q, .flat .q, .flat .q, .flat .q, .flat .q]
def os_a27_0 : List (OP RT) := []
def conv_a27_0 (r : Raw den ps_a27_0 os_a27_0) : (Int × Int × Int × Int × (Sl S_impl_Entry) × Int × Int × (Sl Int) × (Sl Int) × (Sl Int)) × (Int) := ((r.1.1.1, r.1.1.2.1, r.1.1.2.2.1, r.1.1.2.2.2.1, r.1.1.2.2.2.2.1, r.1.1.2.2.2.2.2.1, r.1.1.2.2.2.2.2.2.1, r.1.1.2.2.2.2.2.2.2.1, r.1.1.2.2.2.2.2.2.2.2.1, r.1.1.2.2.2.2.2.2.2.2.2.1), r.1.2.2.2.1)
def back_a27_0 (c : Int × Int × Int × Int × (Sl S_impl_Entry) × Int × Int × (Sl Int) × (Sl Int) × (Sl Int)) (w : Int) : St RT den := ⟨[(.rptr [(.int .i64 c.1), (.int .i64 c.2.1), (.int .i64 c.2.2.1), (.int .i64 c.2.2.2.1), (.rs c.2.2.2.2.1.z .impl_Entry c.2.2.2.2.1.n c.2.2.2.2.1.f), (.int .i64 c.2.2.2.2.2.1), (.int .i64 c.2.2.2.2.2.2.1), (.rs c.2.2.2.2.2.2.2.1.z .i64 c.2.2.2.2.2.2.2.1.n c.2.2.2.2.2.2.2.1.f), (.rs c.2.2.2.2.2.2.2.2.1.z .i64 c.2.2.2.2.2.2.2.2.1.n c.2.2.2.2.2.2.2.2.1.f), (.rs c.2.2.2.2.2.2.2.2.2.z .i64 c.2.2.2.2.2.2.2.2.2.n c.2.2.2.2.2.2.2.2.2.f)]), .q, .q, (.int .i64 w), .q, .q, .q, .q, .q, .q, .q, .q, .q, .q, .q, .q, .q, .q, .q, .q, .q, .q, .q, .q, .q, .q, .q, .q, .q, .q, .q, .q, .q, .q, .q, .q, .q, .q, .q, .q, .q, .q, .q, .q, .q, .q, .q, .q, .q, .q, .q, .q, .q, .q, .q, .q, .q, .q, .q, .q, .q, .q, .q, .q, .q, .q, .q, .q, .q, .q], []⟩
def Bk_a27_0 {ρ : Type} (fu : Nat) (c : Int × Int × Int × Int × (Sl S_impl_Entry) × Int × Int × (Sl Int) × (Sl Int) × (Sl Int)) (k : Ex → St RT den → Option ρ) (w : Int) (go : (Int) → Option ρ) : Option ρ := F_spec_l8Lists_B0 fu c.1 c.2.1 c.2.2.1 c.2.2.2.1 c.2.2.2.2.1 c.2.2.2.2.2.1 c.2.2.2.2.2.2.1 c.2.2.2.2.2.2.2.1 c.2.2.2.2.2.2.2.2.1 c.2.2.2.2.2.2.2.2.2 (k .ret ⟨[(.rptr [(.int .i64 c.1), (.int .i64 c.2.1), (.int .i64 c.2.2.1), (.int .i64 c.2.2.2.1), (.rs c.2.2.2.2.1.z .impl_Entry c.2.2.2.2.1.n c.2.2.2.2.1.f), (.int .i64 c.2.2.2.2.2.1), (.int .i64 c.2.2.2.2.2.2.1), (.rs c.2.2.2.2.2.2.2.1.z .i64 c.2.2.2.2.2.2.2.1.n c.2.2.2.2.2.2.2.1.f), (.rs c.2.2.2.2.2.2.2.2.1.z .i64 c.2.2.2.2.2.2.2.2.1.n c.2.2.2.2.2.2.2.2.1.f), (.rs c.2.2.2.2.2.2.2.2.2.z .i64 c.2.2.2.2.2.2.2.2.2.n c.2.2.2.2.2.2.2.2.2.f)]), .q, (.bool false), .q, .q, .q, .q, .q, .q, .q, .q, .q, .q, .q, .q, .q, .q, .q, .q, .q, .q, .q, .q, .q, .q, .q, .q, .q, .q, .q, .q, .q, .q, .q, .q, .q, .q, .q, .q, .q, .q, .q, .q, .q, .q, .q, .q, .q, .q, .q, .q, .q, .q, .q, .q, .q, .q, .q, .q, .q, .q, .q, .q, .q, .q, .q, .q, .q, .q, .q], []⟩) (k (.exit 0) ⟨[(.rptr [(.int .i64 c.1), (.int .i64 c.2.1), (.int .i64 c.2.2.1), (.int .i64 c.2.2.2.1), (.rs c.2.2.2.2.1.z .impl_Entry c.2.2.2.2.1.n c.2.2.2.2.1.f), (.int .i64 c.2.2.2.2.2.1), (.int .i64 c.2.2.2.2.2.2.1), (.rs c.2.2.2.2.2.2.2.1.z .i64 c.2.2.2.2.2.2.2.1.n c.2.2.2.2.2.2.2.1.f), (.rs c.2.2.2.2.2.2.2.2.1.z .i64 c.2.2.2.2.2.2.2.2.1.n c.2.2.2.2.2.2.2.2.1.f), (.rs c.2.2.2.2.2.2.2.2.2.z .i64 c.2.2.2.2.2.2.2.2.2.n c.2.2.2.2.2.2.2.2.2.f)]), .q, .q, .q, .q, .q, .q, .q, .q, .q, .q, .q, .q, .q, .q, .q, .q, .q, .q, .q, .q, .q, .q, .q, .q, .q, .q, .q, .q, .q, .q, .q, .q, .q, .q, .q, .q, .q, .q, .q, .q, .q, .q, .q, .q, .q, .q, .q, .q, .q, .q, .q, .q, .q, .q, .q, .q, .q, .q, .q, .q, .q, .q, .q, .q, .q, .q, .q, .q, .q], []⟩) w go
def lp_a27 (fu : Nat) : Lp RT den (Bool) := fun b s k => match b with | 0 => handle ps_a27_0 os_a27_0 conv_a27_0 (Bk_a27_0 fu) fu s k | _ => none
theorem ev_a27 (fu : Nat) (n_0 : S_impl_Node) : evFun E (pc_a27 fu) msk_a27 (lp_a27 fu) out_bo 161 [(.rptr [(.int .i64 n_0.Id), (.int .i64 n_0.Peers), (.int .i64 n_0.Term), (.int .i64 n_0.Voted), (.rs n_0.Log.z .impl_Entry n_0.Log.n n_0.Log.f), (.int .i64 n_0.Role), (.int .i64 n_0.Commit), (.rs n_0.Votes.z .i64 n_0.Votes.n n_0.Votes.f), (.rs n_0.Next.z .i64 n_0.Next.n n_0.Next.f), (.rs n_0.Match.z .i64 n_0.Match.n n_0.Match.f)])] = F_spec_l8Lists fu n_0 := by kernel_rfl
noncomputable def body_a27 : Code := Try.f161.body.getD .skip
noncomputable def lc_a27_0 : Code := ((loops 0 body_a27).getD 0 (0, .skip)).2
theorem round_a27_0 (fu : Nat) (it : St RT den → Option (Bool)) (k : Ex → St RT den → Option (Bool)) c w : evCode E (pc_a27 fu) msk_a27 (lp_a27 fu) 0 lc_a27_0 (back_a27_0 c w) (after (msk_a27 0) (msk_a27 100000) 0 it k) = Bk_a27_0 fu c k w (fun w => it (back_a27_0 c w)) := by kernel_rfl
theorem lpok_a27_0 (fu : Nat) : ∀ s k r, lp_a27 fu 0 s k = some r → ∃ fuel, iter (msk_a27 0) (msk_a27 100000) s.objs.length (evCode E (pc_a27 fu) msk_a27 (lp_a27 fu) 0 lc_a27_0) fuel s k = some r :=
  handle_ok (ps := ps_a27_0) (os := os_a27_0) (conv := conv_a27_0) (B := Bk_a27_0 fu) (fu := fu) back_a27_0 (fun raw => by kernel_rfl) 0 (fun c w => by kernel_rfl) (round_a27_0 fu)
theorem lpok_a27 (fu : Nat) : LpOk E (pc_a27 fu) msk_a27 (lp_a27 fu) (loops 0 body_a27) := loop_all 1 (by kernel_rfl) fun i hi => match i, hi with
  | 0, _ => by
    have h : (loops 0 body_a27).getD 0 (0, .skip) = (0, lc_a27_0) := by kernel_rfl
    rw [h]; exact lpok_a27_0 fu
  | i + 1, hi => absurd hi (by omega)
def S_a27 (fu : Nat) (xs : List (D RT den)) : Option (Out RT den) := match xs with | [.rptr (.int .i64 a0_1 :: .int .i64 a0_2 :: .int .i64 a0_3 :: .int .i64 a0_4 :: .rs za0_5 .impl_Entry na0_5 fa0_5 :: .int .i64 a0_6 :: .int .i64 a0_7 :: .rs za0_8 .i64 na0_8 fa0_8 :: .rs za0_9 .i64 na0_9 fa0_9 :: .rs za0_10 .i64 na0_10 fa0_10 :: ra0)] => some ⟨Bool, F_spec_l8Lists fu (⟨a0_1, a0_2, a0_3, a0_4, (⟨za0_5, na0_5, fa0_5⟩ : (Sl S_impl_Entry)), a0_6, a0_7, (⟨za0_8, na0_8, fa0_8⟩ : (Sl Int)), (⟨za0_9, na0_9, fa0_9⟩ : (Sl Int)), (⟨za0_10, na0_10, fa0_10⟩ : (Sl Int))⟩ : S_impl_Node), enc_bo, fun _ => true⟩ | _ => none
theorem hpc_a27 (fu : Nat) : ∀ f xs o, pcf_a27 fu f xs = some o → ∀ y, o.x = some y → Good E Try.prog f xs (o.g y) := by
  intro f xs o h
  unfold pcf_a27 at h
  split at h
  · exact good_a14 fu xs o h
  · exact good_a26 fu xs o h
  · cases h
theorem goodv_a27 (fu : Nat) (n_0 : S_impl_Node) (y : Bool) (hy : F_spec_l8Lists fu n_0 = some y) : Good E Try.prog 161 [(.rptr [(.int .i64 n_0.Id), (.int .i64 n_0.Peers), (.int .i64 n_0.Term), (.int .i64 n_0.Voted), (.rs n_0.Log.z .impl_Entry n_0.Log.n n_0.Log.f), (.int .i64 n_0.Role), (.int .i64 n_0.Commit), (.rs n_0.Votes.z .i64 n_0.Votes.n n_0.Votes.f), (.rs n_0.Next.z .i64 n_0.Next.n n_0.Next.f), (.rs n_0.Match.z .i64 n_0.Match.n n_0.Match.f)])] (enc_bo y) :=
  fun_good E_ok (pc_good (pc := pc_a27 fu) (hpc_a27 fu) hpx0) (fn := Try.f161) (c := body_a27) (out := out_bo) (y := y) (by kernel_rfl) (by kernel_rfl) (by kernel_rfl) (lpok_a27 fu) (fun d hd => out_bo_enc d _ hd) ((ev_a27 fu n_0).trans hy)
theorem good_a27 (fu : Nat) : ∀ xs o, S_a27 fu xs = some o → ∀ y, o.x = some y → Good E Try.prog 161 xs (o.g y) := by
  intro xs o h y hy
  unfold S_a27 at h
  split at h
  · rename_i a0_1 a0_2 a0_3 a0_4 za0_5 na0_5 fa0_5 a0_6 a0_7 za0_8 na0_8 fa0_8 za0_9 na0_9 fa0_9 za0_10 na0_10 fa0_10 ra0
    cases h
    exact (goodv_a27 fu (⟨a0_1, a0_2, a0_3, a0_4, (⟨za0_5, na0_5, fa0_5⟩ : (Sl S_impl_Entry)), a0_6, a0_7, (⟨za0_8, na0_8, fa0_8⟩ : (Sl Int)), (⟨za0_9, na0_9, fa0_9⟩ : (Sl Int)), (⟨za0_10, na0_10, fa0_10⟩ : (Sl Int))⟩ : S_impl_Node) y hy).sub ⟨Sub.of_eq ra0 rfl, trivial⟩
  · cases h

/-! spec.l8Fault -/
def F_spec_l8Fault_B0 {ρ : Type} (fu : Nat) (t0_0 : Int) (t0_1 : Int) (t0_2 : Int) (t0_3 : Int) (t0_4 : (Sl S_impl_Entry)) (t0_5 : Int) (t0_6 : Int) (t0_7 : (Sl Int)) (t0_8 : (Sl Int)) (t0_9 : (Sl Int)) (r4_10 : Int) (k0 : Option ρ) (k1 : Option ρ) (a5_11 : Int) (go : Int → Option ρ) : Option ρ :=
  (bif (decide (a5_11 < ((t0_8.n : Nat) : Int))) then ((((bif (decide (0 ≤ a5_11) && decide ((Int.toNat a5_11) < t0_8.n)) then some () else none : Option Unit).bind fun _ =>
    ((F_spec_l1In fu (t0_8.f (Int.toNat a5_11)) 1 (IntKind.wrap .i64 (r4_10 + 1))).bind fun y65 => (bif (!y65) then (some true) else ((bif (decide (0 ≤ a5_11) && decide ((Int.toNat a5_11) < t0_9.n)) then
    some () else none : Option Unit).bind fun _ => ((F_spec_l1In fu (t0_9.f (Int.toNat a5_11)) 0 r4_10).bind fun y66 => (some (!y66))))))) : Option Bool).bind fun m67 => (bif m67 then
    k0 else (go (IntKind.wrap .i64 (a5_11 + 1))))) else k1)
def F_spec_l8Fault (fu : Nat) (t_0 : S_impl_Node) : Option (Int) :=
  ((((F_spec_l1In fu t_0.Peers 1 5).bind fun y55 => (bif (!y55) then (some true) else ((F_spec_l8Id fu t_0 t_0.Id).bind fun y56 => (bif (!y56) then (some true) else ((F_spec_l1In fu t_0.Term 0 100000).bind fun y57 =>
    (bif (!y57) then (some true) else ((F_spec_l1In fu t_0.Voted (-1) (IntKind.wrap .i64 (t_0.Peers - 1))).bind fun y58 => (bif (!y58) then (some true) else ((F_spec_l1In fu t_0.Role 0 2).bind fun y59 =>
    (some (!y59))))))))))) : Option Bool).bind fun m60 => (bif m60 then (some 3) else ((F_spec_LogFault fu t_0.Log).bind fun y61 => (bif (y61 != 0) then (some y61) else
    ((F_spec_LastOf fu t_0.Log).bind fun y62 => (bif (decide (y62.Term > t_0.Term)) then (some 1) else ((F_spec_l1In fu t_0.Commit 0 ((t_0.Log.n : Nat) : Int)).bind fun y63 => (bif (!y63) then
    (some 3) else ((F_spec_l8Lists fu t_0).bind fun y64 => (bif (!y64) then (some 1) else (L (fun w0 go0 => F_spec_l8Fault_B0 fu t_0.Id t_0.Peers t_0.Term t_0.Voted t_0.Log t_0.Role t_0.Commit t_0.Votes t_0.Next t_0.Match ((t_0.Log.n : Nat) : Int) (some 3) (((bif (t_0.Role != 0) then
    (bif (t_0.Voted != t_0.Id) then (some true) else (some (t_0.Term == 0))) else (some false)) : Option Bool).bind fun m68 => (bif m68 then (some 1) else (some 0))) w0 go0) fu (0 : Int))))))))))))
def pcf_a28 (fu : Nat) (f : Nat) (xs : List (D RT den)) : Option (Out RT den) := match f with | 65 => S_a13 fu xs | 158 => S_a14 fu xs | 159 => S_a24 fu xs | 160 => S_a25 fu xs | 161 => S_a27 fu xs | _ => none
def pc_a28 (fu : Nat) : Pc RT den := ⟨pcf_a28 fu, fun _ => false, fun _ => false, pcd0, pcx0⟩
def msk_a28 (b : Nat) : List Nat := match b with | 0 => [1, 2, 3, 6, 7, 8, 9, 10, 11, 12, 13, 14, 15, 16, 17, 18, 19, 20, 21, 22, 23, 24, 25, 26, 27, 28, 29, 30, 31, 32, 33, 34, 35, 36, 37, 38, 39, 40, 41, 42, 43, 44, 45, 46, 47, 48, 49, 50, 51, 52, 53, 54, 55, 56, 57, 58, 59, 60, 61, 62, 63, 64, 65, 66, 67, 68, 69, 70, 71, 72, 73, 74, 75, 76, 77, 78, 79, 80, 81, 82, 83, 84, 85, 86, 87, 88, 89, 90, 91, 92, 93, 94, 95, 96, 97, 98, 99, 100, 101, 102, 103, 104, 105, 106, 107, 108, 109, 110, 111, 112, 113, 114, 115, 116, 117, 118, 119, 120, 121, 122, 123, 124, 125, 126, 127, 128, 129, 130, 131, 132, 133, 134, 135, 136, 137, 138] | 100000 => [1, 3, 4, 5, 6, 7, 8, 9, 10, 11, 12, 13, 14, 15, 16, 17, 18, 19, 20, 21, 22, 23, 24, 25, 26, 27, 28, 29, 30, 31, 32, 33, 34, 35, 36, 37, 38, 39, 40, 41, 42, 43, 44, 45, 46, 47, 48, 49, 50, 51, 52, 53, 54, 55, 56, 57, 58, 59, 60, 61, 62, 63, 64, 65, 66, 67, 68, 69, 70, 71, 72, 73, 74, 75, 76, 77, 78, 79, 80, 81, 82, 83, 84, 85, 86, 87, 88, 89, 90, 91, 92, 93, 94, 95, 96, 97, 98, 99, 100, 101, 102, 103, 104, 105, 106, 107, 108, 109, 110, 111, 112, 113, 114, 115, 116, 117, 118, 119, 120, 121, 122, 123, 124, 125, 126, 127, 128, 129, 130, 131, 132, 133, 134, 135, 136, 137, 138] | 200001 => [49] | 200016 => [115] | 200018 => [138] | _ => []
def ps_a28_0 : List (Pat RT) := [.rptr [(.int .i64), (.int .i64), (.int .i64), (.int .i64), (.rs .impl_Entry), (.int .i64), (.int .i64), (.rs .i64), (.rs .i64), (.rs .i64)], .flat .q, .flat .q, .flat .q, .flat (.int .i64), .flat (.int .i64), .flat .q, .flat .q, .flat .q, .flat .q, .flat .q, .flat .q, .flat .q, .flat .q, .flat .q, .flat .q, .flat .q, .flat .q, .flat .q, .flat .q, .flat .q, .flat .q, .flat .q, .flat .q, .flat .q, .flat .q, .flat .q, .flat .q, .flat .q, .flat .q, .flat .q, .flat .q, .flat .q, .flat .q, .flat .q, .flat .q, .flat .q, .flat .q, .flat .q, .flat .q, .flat .q, .flat .q, .flat .q, .flat .q, .flat .q, .flat .q, .flat .q, .flat .q, .flat .q, .flat .q, .flat .q, .flat .q, .flat .q, .flat .q, .flat .q, .flat .q, .flat .q, .flat .q, .flat .q, .flat .q, .flat .q, .flat .q, .flat .q, .flat .q, .flat .q, .flat .q, .flat .q, .flat .q, .flat .q, .flat .q, .flat .q, .flat .q, .flat .q, .flat .q, .flat .q, .flat .q, .flat .q, .flat .q, .flat .q, .flat .q, .flat .q, .flat .q, .flat .q, .flat .q, .flat .q, .flat .q, .flat .q, .flat .q, .flat .q, .flat .q, .flat .q, .flat .q, .flat .q, .flat .q, .flat .q, .flat .q, .flat .q, .flat .q, .flat .q, .flat .q, .flat .q, .flat .q, .flat .q, .flat .q, .flat .q, .flat .q, .flat .q, .flat .q, .flat .q, .flat .q, .flat .q, .flat .q, .flat .q, .flat .q, .flat .q, .flat .q, .flat .q, .flat .q, .flat .q, .flat .q, .flat .q, .flat .q, .flat .q, .flat .q, .flat .q, .flat .q, .flat .q, .flat .q, .flat .q, .flat .q, .flat .q, .flat .q, .flat .q, .flat .q, .flat .q, .flat .q, .flat .q, .flat .q, .flat .q]
def os_a28_0 : List (OP RT) := []
def conv_a28_0 (r : Raw den ps_a28_0 os_a28_0) : (Int × Int × Int × Int × (Sl S_impl_Entry) × Int × Int × (Sl Int) × (Sl Int) × (Sl Int) × Int) × (Int) := ((r.1.1.1, r.1.1.2.1, r.1.1.2.2.1, r.1.1.2.2.2.1, r.1.1.2.2.2.2.1, r.1.1.2.2.2.2.2.1, r.1.1.2.2.2.2.2.2.1, r.1.1.2.2.2.2.2.2.2.1, r.1.1.2.2.2.2.2.2.2.2.1, r.1.1.2.2.2.2.2.2.2.2.2.1, r.1.2.2.2.2.1), r.1.2.2.2.2.2.1)
def back_a28_0 (c : Int × Int × Int × Int × (Sl S_impl_Entry) × Int × Int × (Sl Int) × (Sl Int) × (Sl Int) × Int) (w : Int) : St RT den := ⟨[(.rptr [(.int .i64 c.1), (.int .i64 c.2.1), (.int .i64 c.2.2.1), (.int .i64 c.2.2.2.1), (.rs c.2.2.2.2.1.z .impl_Entry c.2.2.2.2.1.n c.2.2.2.2.1.f), (.int .i64 c.2.2.2.2.2.1), (.int .i64 c.2.2.2.2.2.2.1), (.rs c.2.2.2.2.2.2.2.1.z .i64 c.2.2.2.2.2.2.2.1.n c.2.2.2.2.2.2.2.1.f), (.rs c.2.2.2.2.2.2.2.2.1.z .i64 c.2.2.2.2.2.2.2.2.1.n c.2.2.2.2.2.2.2.2.1.f), (.rs c.2.2.2.2.2.2.2.2.2.1.z .i64 c.2.2.2.2.2.2.2.2.2.1.n c.2.2.2.2.2.2.2.2.2.1.f)]), .q, .q, .q, (.int .i64 c.2.2.2.2.2.2.2.2.2.2), (.int .i64 w), .q, .q, .q, .q, .q, .q, .q, .q, .q, .q, .q, .q, .q, .q, .q, .q, .q, .q, .q, .q, .q, .q, .q, .q, .q, .q, .q, .q, .q, .q, .q, .q, .q, .q, .q, .q, .q, .q, .q, .q, .q, .q, .q, .q, .q, .q, .q, .q, .q, .q, .q, .q, .q, .q, .q, .q, .q, .q, .q, .q, .q, .q, .q, .q, .q, .q, .q, .q, .q, .q, .q, .q, .q, .q, .q, .q, .q, .q, .q, .q, .q, .q, .q, .q, .q, .q, .q, .q, .q, .q, .q, .q, .q, .q, .q, .q, .q, .q, .q, .q, .q, .q, .q, .q, .q, .q, .q, .q, .q, .q, .q, .q, .q, .q, .q, .q, .q, .q, .q, .q, .q, .q, .q, .q, .q, .q, .q, .q, .q, .q, .q, .q, .q], []⟩
def Bk_a28_0 {ρ : Type} (fu : Nat) (c : Int × Int × Int × Int × (Sl S_impl_Entry) × Int × Int × (Sl Int) × (Sl Int) × (Sl Int) × Int) (k : Ex → St RT den → Option ρ) (w : Int) (go : (Int) → Option ρ) : Option ρ := F_spec_l8Fault_B0 fu c.1 c.2.1 c.2.2.1 c.2.2.2.1 c.2.2.2.2.1 c.2.2.2.2.2.1 c.2.2.2.2.2.2.1 c.2.2.2.2.2.2.2.1 c.2.2.2.2.2.2.2.2.1 c.2.2.2.2.2.2.2.2.2.1 c.2.2.2.2.2.2.2.2.2.2 (k .ret ⟨[(.rptr [(.int .i64 c.1), (.int .i64 c.2.1), (.int .i64 c.2.2.1), (.int .i64 c.2.2.2.1), (.rs c.2.2.2.2.1.z .impl_Entry c.2.2.2.2.1.n c.2.2.2.2.1.f), (.int .i64 c.2.2.2.2.2.1), (.int .i64 c.2.2.2.2.2.2.1), (.rs c.2.2.2.2.2.2.2.1.z .i64 c.2.2.2.2.2.2.2.1.n c.2.2.2.2.2.2.2.1.f), (.rs c.2.2.2.2.2.2.2.2.1.z .i64 c.2.2.2.2.2.2.2.2.1.n c.2.2.2.2.2.2.2.2.1.f), (.rs c.2.2.2.2.2.2.2.2.2.1.z .i64 c.2.2.2.2.2.2.2.2.2.1.n c.2.2.2.2.2.2.2.2.2.1.f)]), .q, (.int .i64 3), .q, .q, .q, .q, .q, .q, .q, .q, .q, .q, .q, .q, .q, .q, .q, .q, .q, .q, .q, .q, .q, .q, .q, .q, .q, .q, .q, .q, .q, .q, .q, .q, .q, .q, .q, .q, .q, .q, .q, .q, .q, .q, .q, .q, .q, .q, .q, .q, .q, .q, .q, .q, .q, .q, .q, .q, .q, .q, .q, .q, .q, .q, .q, .q, .q, .q, .q, .q, .q, .q, .q, .q, .q, .q, .q, .q, .q, .q, .q, .q, .q, .q, .q, .q, .q, .q, .q, .q, .q, .q, .q, .q, .q, .q, .q, .q, .q, .q, .q, .q, .q, .q, .q, .q, .q, .q, .q, .q, .q, .q, .q, .q, .q, .q, .q, .q, .q, .q, .q, .q, .q, .q, .q, .q, .q, .q, .q, .q, .q, .q, .q, .q, .q, .q, .q, .q], []⟩) (k (.exit 0) ⟨[(.rptr [(.int .i64 c.1), (.int .i64 c.2.1), (.int .i64 c.2.2.1), (.int .i64 c.2.2.2.1), (.rs c.2.2.2.2.1.z .impl_Entry c.2.2.2.2.1.n c.2.2.2.2.1.f), (.int .i64 c.2.2.2.2.2.1), (.int .i64 c.2.2.2.2.2.2.1), (.rs c.2.2.2.2.2.2.2.1.z .i64 c.2.2.2.2.2.2.2.1.n c.2.2.2.2.2.2.2.1.f), (.rs c.2.2.2.2.2.2.2.2.1.z .i64 c.2.2.2.2.2.2.2.2.1.n c.2.2.2.2.2.2.2.2.1.f), (.rs c.2.2.2.2.2.2.2.2.2.1.z .i64 c.2.2.2.2.2.2.2.2.2.1.n c.2.2.2.2.2.2.2.2.2.1.f)]), .q, .q, .q, .q, .q, .q, .q, .q, .q, .q, .q, .q, .q, .q, .q, .q, .q, .q, .q, .q, .q, .q, .q, .q, .q, .q, .q, .q, .q, .q, .q, .q, .q, .q, .q, .q, .q, .q, .q, .q, .q, .q, .q, .q, .q, .q, .q, .q, .q, .q, .q, .q, .q, .q, .q, .q, .q, .q, .q, .q, .q, .q, .q, .q, .q, .q, .q, .q, .q, .q, .q, .q, .q, .q, .q, .q, .q, .q, .q, .q, .q, .q, .q, .q, .q, .q, .q, .q, .q, .q, .q, .q, .q, .q, .q, .q, .q, .q, .q, .q, .q, .q, .q, .q, .q, .q, .q, .q, .q, .q, .q, .q, .q, .q, .q, .q, .q, .q, .q, .q, .q, .q, .q, .q, .q, .q, .q, .q, .q, .q, .q, .q, .q, .q, .q, .q, .q, .q], []⟩) w go
def lp_a28 (fu : Nat) : Lp RT den (Int) := fun b s k => match b with | 0 => handle ps_a28_0 os_a28_0 conv_a28_0 (Bk_a28_0 fu) fu s k | _ => none
theorem ev_a28 (fu : Nat) (t_0 : S_impl_Node) : evFun E (pc_a28 fu) msk_a28 (lp_a28 fu) out_i64 104 [(.rptr [(.int .i64 t_0.Id), (.int .i64 t_0.Peers), (.int .i64 t_0.Term), (.int .i64 t_0.Voted), (.rs t_0.Log.z .impl_Entry t_0.Log.n t_0.Log.f), (.int .i64 t_0.Role), (.int .i64 t_0.Commit), (.rs t_0.Votes.z .i64 t_0.Votes.n t_0.Votes.f), (.rs t_0.Next.z .i64 t_0.Next.n t_0.Next.f), (.rs t_0.Match.z .i64 t_0.Match.n t_0.Match.f)])] = F_spec_l8Fault fu t_0 := by kernel_rfl
noncomputable def body_a28 : Code := Try.f104.body.getD .skip
noncomputable def lc_a28_0 : Code := ((loops 0 body_a28).getD 0 (0, .skip)).2
theorem round_a28_0 (fu : Nat) (it : St RT den → Option (Int)) (k : Ex → St RT den → Option (Int)) c w : evCode E (pc_a28 fu) msk_a28 (lp_a28 fu) 0 lc_a28_0 (back_a28_0 c w) (after (msk_a28 0) (msk_a28 100000) 0 it k) = Bk_a28_0 fu c k w (fun w => it (back_a28_0 c w)) := by kernel_rfl
theorem lpok_a28_0 (fu : Nat) : ∀ s k r, lp_a28 fu 0 s k = some r → ∃ fuel, iter (msk_a28 0) (msk_a28 100000) s.objs.length (evCode E (pc_a28 fu) msk_a28 (lp_a28 fu) 0 lc_a28_0) fuel s k = some r :=
  handle_ok (ps := ps_a28_0) (os := os_a28_0) (conv := conv_a28_0) (B := Bk_a28_0 fu) (fu := fu) back_a28_0 (fun raw => by kernel_rfl) 0 (fun c w => by kernel_rfl) (round_a28_0 fu)
theorem lpok_a28 (fu : Nat) : LpOk E (pc_a28 fu) msk_a28 (lp_a28 fu) (loops 0 body_a28) := loop_all 1 (by kernel_rfl) fun i hi => match i, hi with
  | 0, _ => by
    have h : (loops 0 body_a28).getD 0 (0, .skip) = (0, lc_a28_0) := by kernel_rfl
    rw [h]; exact lpok_a28_0 fu
  | i + 1, hi => absurd hi (by omega)
def S_a28 (fu : Nat) (xs : List (D RT den)) : Option (Out RT den) := match xs with | [.rptr (.int .i64 a0_1 :: .int .i64 a0_2 :: .int .i64 a0_3 :: .int .i64 a0_4 :: .rs za0_5 .impl_Entry na0_5 fa0_5 :: .int .i64 a0_6 :: .int .i64 a0_7 :: .rs za0_8 .i64 na0_8 fa0_8 :: .rs za0_9 .i64 na0_9 fa0_9 :: .rs za0_10 .i64 na0_10 fa0_10 :: ra0)] => some ⟨Int, F_spec_l8Fault fu (⟨a0_1, a0_2, a0_3, a0_4, (⟨za0_5, na0_5, fa0_5⟩ : (Sl S_impl_Entry)), a0_6, a0_7, (⟨za0_8, na0_8, fa0_8⟩ : (Sl Int)), (⟨za0_9, na0_9, fa0_9⟩ : (Sl Int)), (⟨za0_10, na0_10, fa0_10⟩ : (Sl Int))⟩ : S_impl_Node), enc_i64, fun _ => true⟩ | _ => none
theorem hpc_a28 (fu : Nat) : ∀ f xs o, pcf_a28 fu f xs = some o → ∀ y, o.x = some y → Good E Try.prog f xs (o.g y) := by
  intro f xs o h
  unfold pcf_a28 at h
  split at h
  · exact good_a13 fu xs o h
  · exact good_a14 fu xs o h
  · exact good_a24 fu xs o h
  · exact good_a25 fu xs o h
  · exact good_a27 fu xs o h
  · cases h
theorem goodv_a28 (fu : Nat) (t_0 : S_impl_Node) (y : Int) (hy : F_spec_l8Fault fu t_0 = some y) : Good E Try.prog 104 [(.rptr [(.int .i64 t_0.Id), (.int .i64 t_0.Peers), (.int .i64 t_0.Term), (.int .i64 t_0.Voted), (.rs t_0.Log.z .impl_Entry t_0.Log.n t_0.Log.f), (.int .i64 t_0.Role), (.int .i64 t_0.Commit), (.rs t_0.Votes.z .i64 t_0.Votes.n t_0.Votes.f), (.rs t_0.Next.z .i64 t_0.Next.n t_0.Next.f), (.rs t_0.Match.z .i64 t_0.Match.n t_0.Match.f)])] (enc_i64 y) :=
  fun_good E_ok (pc_good (pc := pc_a28 fu) (hpc_a28 fu) hpx0) (fn := Try.f104) (c := body_a28) (out := out_i64) (y := y) (by kernel_rfl) (by kernel_rfl) (by kernel_rfl) (lpok_a28 fu) (fun d hd => out_i64_enc d _ hd) ((ev_a28 fu t_0).trans hy)
theorem good_a28 (fu : Nat) : ∀ xs o, S_a28 fu xs = some o → ∀ y, o.x = some y → Good E Try.prog 104 xs (o.g y) := by
  intro xs o h y hy
  unfold S_a28 at h
  split at h
  · rename_i a0_1 a0_2 a0_3 a0_4 za0_5 na0_5 fa0_5 a0_6 a0_7 za0_8 na0_8 fa0_8 za0_9 na0_9 fa0_9 za0_10 na0_10 fa0_10 ra0
    cases h
    exact (goodv_a28 fu (⟨a0_1, a0_2, a0_3, a0_4, (⟨za0_5, na0_5, fa0_5⟩ : (Sl S_impl_Entry)), a0_6, a0_7, (⟨za0_8, na0_8, fa0_8⟩ : (Sl Int)), (⟨za0_9, na0_9, fa0_9⟩ : (Sl Int)), (⟨za0_10, na0_10, fa0_10⟩ : (Sl Int))⟩ : S_impl_Node) y hy).sub ⟨Sub.of_eq ra0 rfl, trivial⟩
  · cases h

/-! spec.l9Place -/
def F_spec_l9Place (fu : Nat) (c_0 : S_impl_Cluster) (node_1 : Int) : Option (Bool) :=
  ((F_spec_l1In fu node_1 0 (IntKind.wrap .i64 (((c_0.Nodes.n : Nat) : Int) - 1))).bind fun y130 => (some y130))
def pcf_a29 (fu : Nat) (f : Nat) (xs : List (D RT den)) : Option (Out RT den) := match f with | 65 => S_a13 fu xs | _ => none
def pc_a29 (fu : Nat) : Pc RT den := ⟨pcf_a29 fu, fun _ => false, fun _ => false, pcd0, pcx0⟩
def msk_a29 (b : Nat) : List Nat := []
def lp_a29 (fu : Nat) : Lp RT den (Bool) := fun b s k => none
theorem ev_a29 (fu : Nat) (c_0 : S_impl_Cluster) (node_1 : Int) : evFun E (pc_a29 fu) msk_a29 (lp_a29 fu) out_bo 105 [(.rptr [(.rs c_0.Nodes.z .impl_Node c_0.Nodes.n c_0.Nodes.f), (.rs c_0.Mails.z .impl_Mail c_0.Mails.n c_0.Mails.f), (.rs c_0.Wins.z .impl_Won c_0.Wins.n c_0.Wins.f), (.rs c_0.Seals.z .impl_Seal c_0.Seals.n c_0.Seals.f)]), (.int .i64 node_1)] = F_spec_l9Place fu c_0 node_1 := by kernel_rfl
noncomputable def body_a29 : Code := Try.f105.body.getD .skip
theorem lpok_a29 (fu : Nat) : LpOk E (pc_a29 fu) msk_a29 (lp_a29 fu) (loops 0 body_a29) := by
  have h : loops 0 body_a29 = [] := by kernel_rfl
  rw [h]; intro p hp; cases hp
def S_a29 (fu : Nat) (xs : List (D RT den)) : Option (Out RT den) := match xs with | [.rptr (.rs za0_1 .impl_Node na0_1 fa0_1 :: .rs za0_2 .impl_Mail na0_2 fa0_2 :: .rs za0_3 .impl_Won na0_3 fa0_3 :: .rs za0_4 .impl_Seal na0_4 fa0_4 :: ra0), .int .i64 a1_0] => some ⟨Bool, F_spec_l9Place fu (⟨(⟨za0_1, na0_1, fa0_1⟩ : (Sl S_impl_Node)), (⟨za0_2, na0_2, fa0_2⟩ : (Sl S_impl_Mail)), (⟨za0_3, na0_3, fa0_3⟩ : (Sl S_impl_Won)), (⟨za0_4, na0_4, fa0_4⟩ : (Sl S_impl_Seal))⟩ : S_impl_Cluster) a1_0, enc_bo, fun _ => true⟩ | _ => none
theorem hpc_a29 (fu : Nat) : ∀ f xs o, pcf_a29 fu f xs = some o → ∀ y, o.x = some y → Good E Try.prog f xs (o.g y) := by
  intro f xs o h
  unfold pcf_a29 at h
  split at h
  · exact good_a13 fu xs o h
  · cases h
theorem goodv_a29 (fu : Nat) (c_0 : S_impl_Cluster) (node_1 : Int) (y : Bool) (hy : F_spec_l9Place fu c_0 node_1 = some y) : Good E Try.prog 105 [(.rptr [(.rs c_0.Nodes.z .impl_Node c_0.Nodes.n c_0.Nodes.f), (.rs c_0.Mails.z .impl_Mail c_0.Mails.n c_0.Mails.f), (.rs c_0.Wins.z .impl_Won c_0.Wins.n c_0.Wins.f), (.rs c_0.Seals.z .impl_Seal c_0.Seals.n c_0.Seals.f)]), (.int .i64 node_1)] (enc_bo y) :=
  fun_good E_ok (pc_good (pc := pc_a29 fu) (hpc_a29 fu) hpx0) (fn := Try.f105) (c := body_a29) (out := out_bo) (y := y) (by kernel_rfl) (by kernel_rfl) (by kernel_rfl) (lpok_a29 fu) (fun d hd => out_bo_enc d _ hd) ((ev_a29 fu c_0 node_1).trans hy)
theorem good_a29 (fu : Nat) : ∀ xs o, S_a29 fu xs = some o → ∀ y, o.x = some y → Good E Try.prog 105 xs (o.g y) := by
  intro xs o h y hy
  unfold S_a29 at h
  split at h
  · rename_i za0_1 na0_1 fa0_1 za0_2 na0_2 fa0_2 za0_3 na0_3 fa0_3 za0_4 na0_4 fa0_4 ra0 a1_0
    cases h
    exact (goodv_a29 fu (⟨(⟨za0_1, na0_1, fa0_1⟩ : (Sl S_impl_Node)), (⟨za0_2, na0_2, fa0_2⟩ : (Sl S_impl_Mail)), (⟨za0_3, na0_3, fa0_3⟩ : (Sl S_impl_Won)), (⟨za0_4, na0_4, fa0_4⟩ : (Sl S_impl_Seal))⟩ : S_impl_Cluster) a1_0 y hy).sub ⟨Sub.of_eq ra0 rfl, .refl _, trivial⟩
  · cases h

/-! spec.l8Zeros -/
def F_spec_l8Zeros (fu : Nat) (m_0 : S_impl_Mail) : Option (Bool) :=
  (bif (m_0.Kind == 1) then (some (m_0.Commit == 0)) else (bif (m_0.Kind == 2) then (((bif (m_0.Index == 0) then (bif (m_0.Last == 0) then (some (m_0.Commit == 0)) else (some false)) else
    (some false)) : Option Bool).bind fun m145 => (some m145)) else (bif (m_0.Kind == 4) then (((bif (m_0.Last == 0) then (some (m_0.Commit == 0)) else (some false)) : Option Bool).bind fun m146 =>
    (some m146)) else (some true))))
def pc_a30 (fu : Nat) : Pc RT den := ⟨pcf0, fun _ => false, fun _ => false, pcd0, pcx0⟩
def msk_a30 (b : Nat) : List Nat := match b with | 200005 => [2] | 200007 => [2] | _ => []
def lp_a30 (fu : Nat) : Lp RT den (Bool) := fun b s k => none
theorem ev_a30 (fu : Nat) (m_0 : S_impl_Mail) : evFun E (pc_a30 fu) msk_a30 (lp_a30 fu) out_bo 162 [(.agg [(.int .i64 m_0.Kind), (.int .i64 m_0.From), (.int .i64 m_0.To), (.int .i64 m_0.Term), (.int .i64 m_0.Index), (.int .i64 m_0.Last), (.int .i64 m_0.Commit), (.bool m_0.Ok), (.rs m_0.Entries.z .impl_Entry m_0.Entries.n m_0.Entries.f)])] = F_spec_l8Zeros fu m_0 := by kernel_rfl
noncomputable def body_a30 : Code := Try.f162.body.getD .skip
theorem lpok_a30 (fu : Nat) : LpOk E (pc_a30 fu) msk_a30 (lp_a30 fu) (loops 0 body_a30) := by
  have h : loops 0 body_a30 = [] := by kernel_rfl
  rw [h]; intro p hp; cases hp
def S_a30 (fu : Nat) (xs : List (D RT den)) : Option (Out RT den) := match xs with | [.agg [.int .i64 a0_1, .int .i64 a0_2, .int .i64 a0_3, .int .i64 a0_4, .int .i64 a0_5, .int .i64 a0_6, .int .i64 a0_7, .bool a0_8, .rs za0_9 .impl_Entry na0_9 fa0_9]] => some ⟨Bool, F_spec_l8Zeros fu (⟨a0_1, a0_2, a0_3, a0_4, a0_5, a0_6, a0_7, a0_8, (⟨za0_9, na0_9, fa0_9⟩ : (Sl S_impl_Entry))⟩ : S_impl_Mail), enc_bo, fun _ => true⟩ | _ => none
theorem goodv_a30 (fu : Nat) (m_0 : S_impl_Mail) (y : Bool) (hy : F_spec_l8Zeros fu m_0 = some y) : Good E Try.prog 162 [(.agg [(.int .i64 m_0.Kind), (.int .i64 m_0.From), (.int .i64 m_0.To), (.int .i64 m_0.Term), (.int .i64 m_0.Index), (.int .i64 m_0.Last), (.int .i64 m_0.Commit), (.bool m_0.Ok), (.rs m_0.Entries.z .impl_Entry m_0.Entries.n m_0.Entries.f)])] (enc_bo y) :=
  fun_good E_ok (pc_good (pc := pc_a30 fu) hpc0 hpx0) (fn := Try.f162) (c := body_a30) (out := out_bo) (y := y) (by kernel_rfl) (by kernel_rfl) (by kernel_rfl) (lpok_a30 fu) (fun d hd => out_bo_enc d _ hd) ((ev_a30 fu m_0).trans hy)
theorem good_a30 (fu : Nat) : ∀ xs o, S_a30 fu xs = some o → ∀ y, o.x = some y → Good E Try.prog 162 xs (o.g y) := by
  intro xs o h y hy
  unfold S_a30 at h
  split at h
  · rename_i a0_1 a0_2 a0_3 a0_4 a0_5 a0_6 a0_7 a0_8 za0_9 na0_9 fa0_9
    cases h
    exact goodv_a30 fu (⟨a0_1, a0_2, a0_3, a0_4, a0_5, a0_6, a0_7, a0_8, (⟨za0_9, na0_9, fa0_9⟩ : (Sl S_impl_Entry))⟩ : S_impl_Mail) y hy
  · cases h

/-! spec.l8Mail -/
def F_spec_l8Mail (fu : Nat) (n_0 : S_impl_Node) (m_1 : S_impl_Mail) : Option (Int) :=
  ((F_spec_l1In fu m_1.Kind 1 4).bind fun y131 => (bif (!y131) then (some 5) else ((((F_spec_l8Id fu n_0 m_1.From).bind fun y132 => (bif (!y132) then (some true) else (bif (m_1.From == n_0.Id) then
    (some true) else (bif (m_1.To != n_0.Id) then (some true) else ((F_spec_l1In fu m_1.Term 1 100000).bind fun y133 => (bif (!y133) then (some true) else ((F_spec_l1In fu m_1.Index 0 40).bind fun y134 =>
    (bif (!y134) then (some true) else ((F_spec_l1In fu m_1.Last 0 m_1.Term).bind fun y135 => (bif (!y135) then (some true) else ((F_spec_l1In fu m_1.Commit 0 40).bind fun y136 =>
    (some (!y136))))))))))))) : Option Bool).bind fun m137 => (bif m137 then (some 3) else ((F_spec_LogFault fu m_1.Entries).bind fun y138 => (bif (y138 != 0) then (some y138) else
    (((bif (decide (((m_1.Entries.n : Nat) : Int) > 0)) then (bif (m_1.Kind != 3) then (some true) else ((F_spec_LastOf fu m_1.Entries).bind fun y139 => (bif (decide (y139.Term > m_1.Term)) then
    (some true) else ((bif (decide (0 ≤ (0 : Int)) && decide ((Int.toNat 0) < m_1.Entries.n)) then some () else none : Option Unit).bind fun _ => (some (decide ((m_1.Entries.f (Int.toNat 0)).Term < m_1.Last))))))) else
    (some false)) : Option Bool).bind fun m140 => (bif m140 then (some 1) else (((bif m_1.Ok then (bif (m_1.Kind != 2) then (bif (m_1.Kind != 4) then (some true) else
    ((F_spec_l8Zeros fu m_1).bind fun y141 => (bif (!y141) then (some true) else (bif (m_1.Index == 0) then (some (m_1.Last != 0)) else (some false))))) else ((F_spec_l8Zeros fu m_1).bind fun y142 =>
    (bif (!y142) then (some true) else (bif (m_1.Index == 0) then (some (m_1.Last != 0)) else (some false))))) else ((F_spec_l8Zeros fu m_1).bind fun y143 => (bif (!y143) then (some true) else
    (bif (m_1.Index == 0) then (some (m_1.Last != 0)) else (some false))))) : Option Bool).bind fun m144 => (bif m144 then (some 1) else (some 0)))))))))))
def pcf_a31 (fu : Nat) (f : Nat) (xs : List (D RT den)) : Option (Out RT den) := match f with | 65 => S_a13 fu xs | 158 => S_a14 fu xs | 159 => S_a24 fu xs | 160 => S_a25 fu xs | 162 => S_a30 fu xs | _ => none
def pc_a31 (fu : Nat) : Pc RT den := ⟨pcf_a31 fu, fun _ => false, fun _ => false, pcd0, pcx0⟩
def msk_a31 (b : Nat) : List Nat := match b with | 200003 => [58] | 200008 => [92] | 200010 => [119] | _ => []
def lp_a31 (fu : Nat) : Lp RT den (Int) := fun b s k => none
theorem ev_a31 (fu : Nat) (n_0 : S_impl_Node) (m_1 : S_impl_Mail) : evFun E (pc_a31 fu) msk_a31 (lp_a31 fu) out_i64 106 [(.rptr [(.int .i64 n_0.Id), (.int .i64 n_0.Peers), (.int .i64 n_0.Term), (.int .i64 n_0.Voted), (.rs n_0.Log.z .impl_Entry n_0.Log.n n_0.Log.f), (.int .i64 n_0.Role), (.int .i64 n_0.Commit), (.rs n_0.Votes.z .i64 n_0.Votes.n n_0.Votes.f), (.rs n_0.Next.z .i64 n_0.Next.n n_0.Next.f), (.rs n_0.Match.z .i64 n_0.Match.n n_0.Match.f)]), (.agg [(.int .i64 m_1.Kind), (.int .i64 m_1.From), (.int .i64 m_1.To), (.int .i64 m_1.Term), (.int .i64 m_1.Index), (.int .i64 m_1.Last), (.int .i64 m_1.Commit), (.bool m_1.Ok), (.rs m_1.Entries.z .impl_Entry m_1.Entries.n m_1.Entries.f)])] = F_spec_l8Mail fu n_0 m_1 := by kernel_rfl
noncomputable def body_a31 : Code := Try.f106.body.getD .skip
theorem lpok_a31 (fu : Nat) : LpOk E (pc_a31 fu) msk_a31 (lp_a31 fu) (loops 0 body_a31) := by
  have h : loops 0 body_a31 = [] := by kernel_rfl
  rw [h]; intro p hp; cases hp
def S_a31 (fu : Nat) (xs : List (D RT den)) : Option (Out RT den) := match xs with | [.rptr (.int .i64 a0_1 :: .int .i64 a0_2 :: .int .i64 a0_3 :: .int .i64 a0_4 :: .rs za0_5 .impl_Entry na0_5 fa0_5 :: .int .i64 a0_6 :: .int .i64 a0_7 :: .rs za0_8 .i64 na0_8 fa0_8 :: .rs za0_9 .i64 na0_9 fa0_9 :: .rs za0_10 .i64 na0_10 fa0_10 :: ra0), .agg [.int .i64 a1_1, .int .i64 a1_2, .int .i64 a1_3, .int .i64 a1_4, .int .i64 a1_5, .int .i64 a1_6, .int .i64 a1_7, .bool a1_8, .rs za1_9 .impl_Entry na1_9 fa1_9]] => some ⟨Int, F_spec_l8Mail fu (⟨a0_1, a0_2, a0_3, a0_4, (⟨za0_5, na0_5, fa0_5⟩ : (Sl S_impl_Entry)), a0_6, a0_7, (⟨za0_8, na0_8, fa0_8⟩ : (Sl Int)), (⟨za0_9, na0_9, fa0_9⟩ : (Sl Int)), (⟨za0_10, na0_10, fa0_10⟩ : (Sl Int))⟩ : S_impl_Node) (⟨a1_1, a1_2, a1_3, a1_4, a1_5, a1_6, a1_7, a1_8, (⟨za1_9, na1_9, fa1_9⟩ : (Sl S_impl_Entry))⟩ : S_impl_Mail), enc_i64, fun _ => true⟩ | _ => none
theorem hpc_a31 (fu : Nat) : ∀ f xs o, pcf_a31 fu f xs = some o → ∀ y, o.x = some y → Good E Try.prog f xs (o.g y) := by
  intro f xs o h
  unfold pcf_a31 at h
  split at h
  · exact good_a13 fu xs o h
  · exact good_a14 fu xs o h
  · exact good_a24 fu xs o h
  · exact good_a25 fu xs o h
  · exact good_a30 fu xs o h
  · cases h
theorem goodv_a31 (fu : Nat) (n_0 : S_impl_Node) (m_1 : S_impl_Mail) (y : Int) (hy : F_spec_l8Mail fu n_0 m_1 = some y) : Good E Try.prog 106 [(.rptr [(.int .i64 n_0.Id), (.int .i64 n_0.Peers), (.int .i64 n_0.Term), (.int .i64 n_0.Voted), (.rs n_0.Log.z .impl_Entry n_0.Log.n n_0.Log.f), (.int .i64 n_0.Role), (.int .i64 n_0.Commit), (.rs n_0.Votes.z .i64 n_0.Votes.n n_0.Votes.f), (.rs n_0.Next.z .i64 n_0.Next.n n_0.Next.f), (.rs n_0.Match.z .i64 n_0.Match.n n_0.Match.f)]), (.agg [(.int .i64 m_1.Kind), (.int .i64 m_1.From), (.int .i64 m_1.To), (.int .i64 m_1.Term), (.int .i64 m_1.Index), (.int .i64 m_1.Last), (.int .i64 m_1.Commit), (.bool m_1.Ok), (.rs m_1.Entries.z .impl_Entry m_1.Entries.n m_1.Entries.f)])] (enc_i64 y) :=
  fun_good E_ok (pc_good (pc := pc_a31 fu) (hpc_a31 fu) hpx0) (fn := Try.f106) (c := body_a31) (out := out_i64) (y := y) (by kernel_rfl) (by kernel_rfl) (by kernel_rfl) (lpok_a31 fu) (fun d hd => out_i64_enc d _ hd) ((ev_a31 fu n_0 m_1).trans hy)
theorem good_a31 (fu : Nat) : ∀ xs o, S_a31 fu xs = some o → ∀ y, o.x = some y → Good E Try.prog 106 xs (o.g y) := by
  intro xs o h y hy
  unfold S_a31 at h
  split at h
  · rename_i a0_1 a0_2 a0_3 a0_4 za0_5 na0_5 fa0_5 a0_6 a0_7 za0_8 na0_8 fa0_8 za0_9 na0_9 fa0_9 za0_10 na0_10 fa0_10 ra0 a1_1 a1_2 a1_3 a1_4 a1_5 a1_6 a1_7 a1_8 za1_9 na1_9 fa1_9
    cases h
    exact (goodv_a31 fu (⟨a0_1, a0_2, a0_3, a0_4, (⟨za0_5, na0_5, fa0_5⟩ : (Sl S_impl_Entry)), a0_6, a0_7, (⟨za0_8, na0_8, fa0_8⟩ : (Sl Int)), (⟨za0_9, na0_9, fa0_9⟩ : (Sl Int)), (⟨za0_10, na0_10, fa0_10⟩ : (Sl Int))⟩ : S_impl_Node) (⟨a1_1, a1_2, a1_3, a1_4, a1_5, a1_6, a1_7, a1_8, (⟨za1_9, na1_9, fa1_9⟩ : (Sl S_impl_Entry))⟩ : S_impl_Mail) y hy).sub ⟨Sub.of_eq ra0 rfl, .refl _, trivial⟩
  · cases h
end Go.Proofs.Ytmnbmponjhglcaa.Pc
