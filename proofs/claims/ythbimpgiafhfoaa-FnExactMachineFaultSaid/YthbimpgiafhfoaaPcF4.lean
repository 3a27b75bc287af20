/- The functions' evaluated forms, each a proved summary. Conditions: none. -/
import Derived.Test.YthbimpgiafhfoaaPcF3
namespace Go.Proofs.Ythbimpgiafhfoaa.Pc
open Go Go.RowKit Go.Proofs Vm
set_option linter.unusedVariables false
set_option linter.unusedSimpArgs false
set_option maxRecDepth 100000
/-! impl.CmdFault -/
def F_impl_CmdFault (fu : Nat) (x_0 : S_impl_Cmd) : Option (Int) :=
  ((F_impl_in fu x_0.Kind 1 9).bind fun y223 => (bif (!y223) then (some 1) else ((F_impl_needs fu x_0.Kind).bind fun y224 => ((((F_impl_in fu x_0.Expect (-1) 1000000).bind fun y225 =>
    (bif (!y225) then (some true) else (bif y224.1 then ((F_impl_isName fu x_0.Name).bind fun y226 => (bif (!y226) then (some true) else (bif y224.2.1 then ((F_impl_isAddress fu x_0.Addr).bind fun y227 =>
    (bif (!y227) then (some true) else (bif y224.2.2.1 then ((F_impl_isNumber fu x_0).bind fun y228 => (bif (!y228) then (some true) else (bif y224.2.2.2 then ((F_impl_isProto fu x_0.Proto).bind fun y229 =>
    (some (!y229))) else (some false)))) else (bif y224.2.2.2 then ((F_impl_isProto fu x_0.Proto).bind fun y230 => (some (!y230))) else (some false))))) else (bif y224.2.2.1 then
    ((F_impl_isNumber fu x_0).bind fun y231 => (bif (!y231) then (some true) else (bif y224.2.2.2 then ((F_impl_isProto fu x_0.Proto).bind fun y232 => (some (!y232))) else (some false)))) else
    (bif y224.2.2.2 then ((F_impl_isProto fu x_0.Proto).bind fun y233 => (some (!y233))) else (some false)))))) else (bif y224.2.1 then ((F_impl_isAddress fu x_0.Addr).bind fun y234 =>
    (bif (!y234) then (some true) else (bif y224.2.2.1 then ((F_impl_isNumber fu x_0).bind fun y235 => (bif (!y235) then (some true) else (bif y224.2.2.2 then ((F_impl_isProto fu x_0.Proto).bind fun y236 =>
    (some (!y236))) else (some false)))) else (bif y224.2.2.2 then ((F_impl_isProto fu x_0.Proto).bind fun y237 => (some (!y237))) else (some false))))) else (bif y224.2.2.1 then
    ((F_impl_isNumber fu x_0).bind fun y238 => (bif (!y238) then (some true) else (bif y224.2.2.2 then ((F_impl_isProto fu x_0.Proto).bind fun y239 => (some (!y239))) else (some false)))) else
    (bif y224.2.2.2 then ((F_impl_isProto fu x_0.Proto).bind fun y240 => (some (!y240))) else (some false))))))) : Option Bool).bind fun m241 => (bif m241 then (some 3) else (((bif (!y224.1) then
    (bif (x_0.Name != 0) then (some true) else (bif (!y224.2.1) then (bif (x_0.Addr != 0) then (some true) else (bif (!y224.2.2.1) then (bif (x_0.Number != 0) then (some true) else
    (bif (!y224.2.2.2) then (some (x_0.Proto != 0)) else (some false))) else (bif (!y224.2.2.2) then (some (x_0.Proto != 0)) else (some false)))) else (bif (!y224.2.2.1) then (bif (x_0.Number != 0) then
    (some true) else (bif (!y224.2.2.2) then (some (x_0.Proto != 0)) else (some false))) else (bif (!y224.2.2.2) then (some (x_0.Proto != 0)) else (some false))))) else (bif (!y224.2.1) then
    (bif (x_0.Addr != 0) then (some true) else (bif (!y224.2.2.1) then (bif (x_0.Number != 0) then (some true) else (bif (!y224.2.2.2) then (some (x_0.Proto != 0)) else (some false))) else
    (bif (!y224.2.2.2) then (some (x_0.Proto != 0)) else (some false)))) else (bif (!y224.2.2.1) then (bif (x_0.Number != 0) then (some true) else (bif (!y224.2.2.2) then (some (x_0.Proto != 0)) else
    (some false))) else (bif (!y224.2.2.2) then (some (x_0.Proto != 0)) else (some false))))) : Option Bool).bind fun m242 => (bif m242 then (some 1) else (some 0))))))))
def pc_impl_CmdFault (fu : Nat) : Pc RT den := fun f xs => match f with | 48 => S_impl_isName fu xs | 49 => S_impl_in fu xs | 90 => S_impl_isAddress fu xs | 102 => S_impl_isProto fu xs | 145 => S_impl_needs fu xs | 146 => S_impl_isNumber fu xs | _ => none
def msk_impl_CmdFault (b : Nat) : List Nat := match b with | 200004 => [19] | 200006 => [59] | _ => []
def lp_impl_CmdFault (fu : Nat) : Lp RT den (Int) := fun b s k => none
theorem ev_impl_CmdFault (fu : Nat) (x_0 : S_impl_Cmd) : evFun E (pc_impl_CmdFault fu) msk_impl_CmdFault (lp_impl_CmdFault fu) out_i64 117 [(.agg [(.int .i64 x_0.Kind), (.int .i64 x_0.Expect), (.int .i64 x_0.Name), (.int .i64 x_0.Addr), (.int .i64 x_0.Number), (.int .i64 x_0.Proto)])] = F_impl_CmdFault fu x_0 := by kernel_rfl
noncomputable def body_impl_CmdFault : Code := Try.f117.body.getD .skip
theorem lpok_impl_CmdFault (fu : Nat) : LpOk E (pc_impl_CmdFault fu) msk_impl_CmdFault (lp_impl_CmdFault fu) (loops 0 body_impl_CmdFault) := by
  have h : loops 0 body_impl_CmdFault = [] := by kernel_rfl
  rw [h]; intro p hp; cases hp
def S_impl_CmdFault (fu : Nat) (xs : List (D RT den)) : Option (Out RT den) := match xs with | [.agg [.int .i64 a0_1, .int .i64 a0_2, .int .i64 a0_3, .int .i64 a0_4, .int .i64 a0_5, .int .i64 a0_6]] => some ⟨Int, F_impl_CmdFault fu (⟨a0_1, a0_2, a0_3, a0_4, a0_5, a0_6⟩ : S_impl_Cmd), enc_i64, fun _ => true⟩ | _ => none
theorem hpc_impl_CmdFault (fu : Nat) : ∀ f xs o, pc_impl_CmdFault fu f xs = some o → ∀ y, o.x = some y → Good E Try.prog f xs (o.g y) := by
  intro f xs o h
  unfold pc_impl_CmdFault at h
  split at h
  · exact good_impl_isName fu xs o h
  · exact good_impl_in fu xs o h
  · exact good_impl_isAddress fu xs o h
  · exact good_impl_isProto fu xs o h
  · exact good_impl_needs fu xs o h
  · exact good_impl_isNumber fu xs o h
  · cases h
theorem goodv_impl_CmdFault (fu : Nat) (x_0 : S_impl_Cmd) (y : Int) (hy : F_impl_CmdFault fu x_0 = some y) : Good E Try.prog 117 [(.agg [(.int .i64 x_0.Kind), (.int .i64 x_0.Expect), (.int .i64 x_0.Name), (.int .i64 x_0.Addr), (.int .i64 x_0.Number), (.int .i64 x_0.Proto)])] (enc_i64 y) :=
  fun_good E_ok (pc_good (hpc_impl_CmdFault fu)) (fn := Try.f117) (c := body_impl_CmdFault) (out := out_i64) (y := y) (by kernel_rfl) (by kernel_rfl) (by kernel_rfl) (lpok_impl_CmdFault fu) (fun d hd => out_i64_enc d _ hd) ((ev_impl_CmdFault fu x_0).trans hy)
theorem good_impl_CmdFault (fu : Nat) : ∀ xs o, S_impl_CmdFault fu xs = some o → ∀ y, o.x = some y → Good E Try.prog 117 xs (o.g y) := by
  intro xs o h y hy
  unfold S_impl_CmdFault at h
  split at h
  · rename_i a0_1 a0_2 a0_3 a0_4 a0_5 a0_6
    cases h
    exact goodv_impl_CmdFault fu (⟨a0_1, a0_2, a0_3, a0_4, a0_5, a0_6⟩ : S_impl_Cmd) y hy
  · cases h

/-! impl.cmdsFault -/
def F_impl_cmdsFault_B0 {ρ : Type} (fu : Nat) (t6_0 : (Sl S_impl_Cmd)) (t7_1 : Int) (k0 : Int → Int → Int → Int → Int → Int → Int → Option ρ) (k1 : Option ρ) (t8_2 : Int) (go : Int → Option ρ) : Option ρ :=
  (bif (decide (t8_2 < t7_1)) then ((bif (decide (0 ≤ t8_2) && decide ((Int.toNat t8_2) < t6_0.n)) then some () else none : Option Unit).bind fun _ => ((F_impl_CmdFault fu (t6_0.f (Int.toNat t8_2))).bind fun y215 =>
    (bif (y215 != 0) then (k0 y215 (t6_0.f (Int.toNat t8_2)).Kind (t6_0.f (Int.toNat t8_2)).Expect (t6_0.f (Int.toNat t8_2)).Name (t6_0.f (Int.toNat t8_2)).Addr (t6_0.f (Int.toNat t8_2)).Number (t6_0.f (Int.toNat t8_2)).Proto) else
    (go (IntKind.wrap .i64 (t8_2 + 1)))))) else k1)
def F_impl_cmdsFault (fu : Nat) (list_0 : (Sl S_impl_Cmd)) : Option (Int) :=
  (L (fun w0 go0 => F_impl_cmdsFault_B0 fu list_0 ((list_0.n : Nat) : Int) (fun z216 z217 z218 z219 z220 z221 z222 => (some z216)) (some 0) w0 go0) fu (0 : Int))
def pc_impl_cmdsFault (fu : Nat) : Pc RT den := fun f xs => match f with | 117 => S_impl_CmdFault fu xs | _ => none
def msk_impl_cmdsFault (b : Nat) : List Nat := match b with | 0 => [0, 1, 2, 3, 4, 5, 9, 10, 11, 12, 13, 14, 15, 16, 17] | 100000 => [0, 1, 3, 4, 5, 6, 7, 8, 9, 10, 11, 12, 13, 14, 15, 16, 17] | _ => []
def ps_impl_cmdsFault_0 : List (Pat RT) := [.flat .dead, .flat .dead, .flat .dead, .flat .dead, .flat .dead, .flat .dead, .flat (.rs .impl_Cmd), .flat (.int .i64), .flat (.int .i64), .flat .dead, .flat .dead, .flat .dead, .flat .dead, .flat .dead, .flat .dead, .flat .dead, .flat .dead, .flat .dead]
def os_impl_cmdsFault_0 : List (OP RT) := []
def conv_impl_cmdsFault_0 (r : Raw den ps_impl_cmdsFault_0 os_impl_cmdsFault_0) : ((Sl S_impl_Cmd) × Int) × (Int) := ((r.1.2.2.2.2.2.2.1, r.1.2.2.2.2.2.2.2.1), r.1.2.2.2.2.2.2.2.2.1)
def back_impl_cmdsFault_0 (c : (Sl S_impl_Cmd) × Int) (w : Int) : St RT den := ⟨[.dead, .dead, .dead, .dead, .dead, .dead, (.rs c.1.z .impl_Cmd c.1.n c.1.f), (.int .i64 c.2), (.int .i64 w), .dead, .dead, .dead, .dead, .dead, .dead, .dead, .dead, .dead], []⟩
def Bk_impl_cmdsFault_0 {ρ : Type} (fu : Nat) (c : (Sl S_impl_Cmd) × Int) (k : Ex → St RT den → Option ρ) (w : Int) (go : (Int) → Option ρ) : Option ρ := F_impl_cmdsFault_B0 fu c.1 c.2 (fun a0 a1 a2 a3 a4 a5 a6 => k .ret ⟨[.dead, .dead, (.int .i64 a0), .dead, .dead, .dead, .dead, .dead, .dead, .dead, .dead, .dead, .dead, .dead, .dead, .dead, .dead, .dead], [(.box [(.int .i64 a1), (.int .i64 a2), (.int .i64 a3), (.int .i64 a4), (.int .i64 a5), (.int .i64 a6)])]⟩) (k (.exit 0) ⟨[.dead, .dead, .dead, .dead, .dead, .dead, .dead, .dead, .dead, .dead, .dead, .dead, .dead, .dead, .dead, .dead, .dead, .dead], []⟩) w go
def lp_impl_cmdsFault (fu : Nat) : Lp RT den (Int) := fun b s k => match b with | 0 => handle ps_impl_cmdsFault_0 os_impl_cmdsFault_0 conv_impl_cmdsFault_0 (Bk_impl_cmdsFault_0 fu) fu s k | _ => none
theorem ev_impl_cmdsFault (fu : Nat) (list_0 : (Sl S_impl_Cmd)) : evFun E (pc_impl_cmdsFault fu) msk_impl_cmdsFault (lp_impl_cmdsFault fu) out_i64 61 [(.rs list_0.z .impl_Cmd list_0.n list_0.f)] = F_impl_cmdsFault fu list_0 := by kernel_rfl
noncomputable def body_impl_cmdsFault : Code := Try.f61.body.getD .skip
noncomputable def lc_impl_cmdsFault_0 : Code := ((loops 0 body_impl_cmdsFault).getD 0 (0, .skip)).2
theorem round_impl_cmdsFault_0 (fu : Nat) (it : St RT den → Option (Int)) (k : Ex → St RT den → Option (Int)) c w : evCode E (pc_impl_cmdsFault fu) msk_impl_cmdsFault (lp_impl_cmdsFault fu) 0 lc_impl_cmdsFault_0 (back_impl_cmdsFault_0 c w) (after (msk_impl_cmdsFault 0) (msk_impl_cmdsFault 100000) 0 it k) = Bk_impl_cmdsFault_0 fu c k w (fun w => it (back_impl_cmdsFault_0 c w)) := by kernel_rfl
theorem lpok_impl_cmdsFault_0 (fu : Nat) : ∀ s k r, lp_impl_cmdsFault fu 0 s k = some r → ∃ fuel, iter (msk_impl_cmdsFault 0) (msk_impl_cmdsFault 100000) s.objs.length (evCode E (pc_impl_cmdsFault fu) msk_impl_cmdsFault (lp_impl_cmdsFault fu) 0 lc_impl_cmdsFault_0) fuel s k = some r :=
  handle_ok (ps := ps_impl_cmdsFault_0) (os := os_impl_cmdsFault_0) (conv := conv_impl_cmdsFault_0) (B := Bk_impl_cmdsFault_0 fu) (fu := fu) back_impl_cmdsFault_0 (fun raw => by kernel_rfl) 0 (fun c w => by kernel_rfl) (round_impl_cmdsFault_0 fu)
theorem lpok_impl_cmdsFault (fu : Nat) : LpOk E (pc_impl_cmdsFault fu) msk_impl_cmdsFault (lp_impl_cmdsFault fu) (loops 0 body_impl_cmdsFault) := loop_all 1 (by kernel_rfl) fun i hi => match i, hi with
  | 0, _ => by
    have h : (loops 0 body_impl_cmdsFault).getD 0 (0, .skip) = (0, lc_impl_cmdsFault_0) := by kernel_rfl
    rw [h]; exact lpok_impl_cmdsFault_0 fu
  | i + 1, hi => absurd hi (by omega)
def S_impl_cmdsFault (fu : Nat) (xs : List (D RT den)) : Option (Out RT den) := match xs with | [.rs za0_0 .impl_Cmd na0_0 fa0_0] => some ⟨Int, F_impl_cmdsFault fu (⟨za0_0, na0_0, fa0_0⟩ : (Sl S_impl_Cmd)), enc_i64, fun _ => true⟩ | _ => none
theorem hpc_impl_cmdsFault (fu : Nat) : ∀ f xs o, pc_impl_cmdsFault fu f xs = some o → ∀ y, o.x = some y → Good E Try.prog f xs (o.g y) := by
  intro f xs o h
  unfold pc_impl_cmdsFault at h
  split at h
  · exact good_impl_CmdFault fu xs o h
  · cases h
theorem goodv_impl_cmdsFault (fu : Nat) (list_0 : (Sl S_impl_Cmd)) (y : Int) (hy : F_impl_cmdsFault fu list_0 = some y) : Good E Try.prog 61 [(.rs list_0.z .impl_Cmd list_0.n list_0.f)] (enc_i64 y) :=
  fun_good E_ok (pc_good (hpc_impl_cmdsFault fu)) (fn := Try.f61) (c := body_impl_cmdsFault) (out := out_i64) (y := y) (by kernel_rfl) (by kernel_rfl) (by kernel_rfl) (lpok_impl_cmdsFault fu) (fun d hd => out_i64_enc d _ hd) ((ev_impl_cmdsFault fu list_0).trans hy)
theorem good_impl_cmdsFault (fu : Nat) : ∀ xs o, S_impl_cmdsFault fu xs = some o → ∀ y, o.x = some y → Good E Try.prog 61 xs (o.g y) := by
  intro xs o h y hy
  unfold S_impl_cmdsFault at h
  split at h
  · rename_i za0_0 na0_0 fa0_0
    cases h
    exact goodv_impl_cmdsFault fu (⟨za0_0, na0_0, fa0_0⟩ : (Sl S_impl_Cmd)) y hy
  · cases h

/-! impl.UpdateFault -/
def F_impl_UpdateFault (fu : Nat) (u_0 : S_impl_Update) : Option (Int) :=
  ((((F_impl_in fu u_0.From 0 1000000).bind fun y206 => (bif (!y206) then (some true) else ((F_impl_in fu u_0.To 0 1000000).bind fun y207 => (some (!y207))))) : Option Bool).bind fun m208 =>
    (bif m208 then (some 3) else (bif u_0.Full then (((bif (u_0.From != 0) then (some true) else (some (decide (((u_0.Cmds.n : Nat) : Int) > 0)))) : Option Bool).bind fun m209 =>
    (bif m209 then (some 1) else ((F_impl_ConfigFault fu u_0.Config).bind fun y210 => (bif (y210 != 0) then (some y210) else (bif (u_0.Config.Version != u_0.To) then (some 1) else
    (some 0)))))) else ((F_impl_Config_isZero fu u_0.Config).bind fun y211 => (bif (!y211) then (some 1) else (bif (decide (((u_0.Cmds.n : Nat) : Int) > 20)) then (some 2) else
    ((F_impl_size_impl_Cmd fu u_0.Cmds).bind fun y212 => (bif ((IntKind.wrap .i64 (u_0.To - u_0.From)) != y212) then (some 1) else ((F_impl_cmdsFault fu u_0.Cmds).bind fun y213 =>
    (some y213))))))))))
def pc_impl_UpdateFault (fu : Nat) : Pc RT den := fun f xs => match f with | 47 => S_impl_ConfigFault fu xs | 49 => S_impl_in fu xs | 59 => S_impl_Config_isZero fu xs | 60 => S_impl_size_impl_Cmd fu xs | 61 => S_impl_cmdsFault fu xs | _ => none
def msk_impl_UpdateFault (b : Nat) : List Nat := match b with | 200001 => [13] | 200004 => [24] | _ => []
def lp_impl_UpdateFault (fu : Nat) : Lp RT den (Int) := fun b s k => none
theorem ev_impl_UpdateFault (fu : Nat) (u_0 : S_impl_Update) : evFun E (pc_impl_UpdateFault fu) msk_impl_UpdateFault (lp_impl_UpdateFault fu) out_i64 20 [(.agg [(.int .i64 u_0.From), (.int .i64 u_0.To), (.bool u_0.Full), (.int .i64 u_0.Config.Version), (.rs u_0.Config.Backends.z .impl_Backend u_0.Config.Backends.n u_0.Config.Backends.f), (.rs u_0.Config.Vips.z .impl_Vip u_0.Config.Vips.n u_0.Config.Vips.f), (.rs u_0.Cmds.z .impl_Cmd u_0.Cmds.n u_0.Cmds.f)])] = F_impl_UpdateFault fu u_0 := by kernel_rfl
noncomputable def body_impl_UpdateFault : Code := Try.f20.body.getD .skip
theorem lpok_impl_UpdateFault (fu : Nat) : LpOk E (pc_impl_UpdateFault fu) msk_impl_UpdateFault (lp_impl_UpdateFault fu) (loops 0 body_impl_UpdateFault) := by
  have h : loops 0 body_impl_UpdateFault = [] := by kernel_rfl
  rw [h]; intro p hp; cases hp
def S_impl_UpdateFault (fu : Nat) (xs : List (D RT den)) : Option (Out RT den) := match xs with | [.agg [.int .i64 a0_1, .int .i64 a0_2, .bool a0_3, .int .i64 a0_5, .rs za0_6 .impl_Backend na0_6 fa0_6, .rs za0_7 .impl_Vip na0_7 fa0_7, .rs za0_8 .impl_Cmd na0_8 fa0_8]] => some ⟨Int, F_impl_UpdateFault fu (⟨a0_1, a0_2, a0_3, (⟨a0_5, (⟨za0_6, na0_6, fa0_6⟩ : (Sl S_impl_Backend)), (⟨za0_7, na0_7, fa0_7⟩ : (Sl S_impl_Vip))⟩ : S_impl_Config), (⟨za0_8, na0_8, fa0_8⟩ : (Sl S_impl_Cmd))⟩ : S_impl_Update), enc_i64, fun _ => true⟩ | _ => none
theorem hpc_impl_UpdateFault (fu : Nat) : ∀ f xs o, pc_impl_UpdateFault fu f xs = some o → ∀ y, o.x = some y → Good E Try.prog f xs (o.g y) := by
  intro f xs o h
  unfold pc_impl_UpdateFault at h
  split at h
  · exact good_impl_ConfigFault fu xs o h
  · exact good_impl_in fu xs o h
  · exact good_impl_Config_isZero fu xs o h
  · exact good_impl_size_impl_Cmd fu xs o h
  · exact good_impl_cmdsFault fu xs o h
  · cases h
theorem goodv_impl_UpdateFault (fu : Nat) (u_0 : S_impl_Update) (y : Int) (hy : F_impl_UpdateFault fu u_0 = some y) : Good E Try.prog 20 [(.agg [(.int .i64 u_0.From), (.int .i64 u_0.To), (.bool u_0.Full), (.int .i64 u_0.Config.Version), (.rs u_0.Config.Backends.z .impl_Backend u_0.Config.Backends.n u_0.Config.Backends.f), (.rs u_0.Config.Vips.z .impl_Vip u_0.Config.Vips.n u_0.Config.Vips.f), (.rs u_0.Cmds.z .impl_Cmd u_0.Cmds.n u_0.Cmds.f)])] (enc_i64 y) :=
  fun_good E_ok (pc_good (hpc_impl_UpdateFault fu)) (fn := Try.f20) (c := body_impl_UpdateFault) (out := out_i64) (y := y) (by kernel_rfl) (by kernel_rfl) (by kernel_rfl) (lpok_impl_UpdateFault fu) (fun d hd => out_i64_enc d _ hd) ((ev_impl_UpdateFault fu u_0).trans hy)
theorem good_impl_UpdateFault (fu : Nat) : ∀ xs o, S_impl_UpdateFault fu xs = some o → ∀ y, o.x = some y → Good E Try.prog 20 xs (o.g y) := by
  intro xs o h y hy
  unfold S_impl_UpdateFault at h
  split at h
  · rename_i a0_1 a0_2 a0_3 a0_5 za0_6 na0_6 fa0_6 za0_7 na0_7 fa0_7 za0_8 na0_8 fa0_8
    cases h
    exact goodv_impl_UpdateFault fu (⟨a0_1, a0_2, a0_3, (⟨a0_5, (⟨za0_6, na0_6, fa0_6⟩ : (Sl S_impl_Backend)), (⟨za0_7, na0_7, fa0_7⟩ : (Sl S_impl_Vip))⟩ : S_impl_Config), (⟨za0_8, na0_8, fa0_8⟩ : (Sl S_impl_Cmd))⟩ : S_impl_Update) y hy
  · cases h

/-! laws.eqCmd -/
def F_laws_eqCmd (fu : Nat) (a_0 : S_impl_Cmd) (b_1 : S_impl_Cmd) : Option (Bool) :=
  (bif (a_0.Kind != b_1.Kind) then (some false) else (bif (a_0.Expect != b_1.Expect) then (some false) else (bif (a_0.Name != b_1.Name) then (some false) else (bif (a_0.Addr != b_1.Addr) then
    (some false) else (bif (a_0.Number != b_1.Number) then (some false) else (bif (a_0.Proto != b_1.Proto) then (some false) else (some true)))))))
def pc_laws_eqCmd (fu : Nat) : Pc RT den := fun f xs => none
def msk_laws_eqCmd (b : Nat) : List Nat := []
def lp_laws_eqCmd (fu : Nat) : Lp RT den (Bool) := fun b s k => none
theorem ev_laws_eqCmd (fu : Nat) (a_0 : S_impl_Cmd) (b_1 : S_impl_Cmd) : evFun E (pc_laws_eqCmd fu) msk_laws_eqCmd (lp_laws_eqCmd fu) out_bo 118 [(.agg [(.int .i64 a_0.Kind), (.int .i64 a_0.Expect), (.int .i64 a_0.Name), (.int .i64 a_0.Addr), (.int .i64 a_0.Number), (.int .i64 a_0.Proto)]), (.agg [(.int .i64 b_1.Kind), (.int .i64 b_1.Expect), (.int .i64 b_1.Name), (.int .i64 b_1.Addr), (.int .i64 b_1.Number), (.int .i64 b_1.Proto)])] = F_laws_eqCmd fu a_0 b_1 := by kernel_rfl
noncomputable def body_laws_eqCmd : Code := Try.f118.body.getD .skip
theorem lpok_laws_eqCmd (fu : Nat) : LpOk E (pc_laws_eqCmd fu) msk_laws_eqCmd (lp_laws_eqCmd fu) (loops 0 body_laws_eqCmd) := by
  have h : loops 0 body_laws_eqCmd = [] := by kernel_rfl
  rw [h]; intro p hp; cases hp
def S_laws_eqCmd (fu : Nat) (xs : List (D RT den)) : Option (Out RT den) := match xs with | [.agg [.int .i64 a0_1, .int .i64 a0_2, .int .i64 a0_3, .int .i64 a0_4, .int .i64 a0_5, .int .i64 a0_6], .agg [.int .i64 a1_1, .int .i64 a1_2, .int .i64 a1_3, .int .i64 a1_4, .int .i64 a1_5, .int .i64 a1_6]] => some ⟨Bool, F_laws_eqCmd fu (⟨a0_1, a0_2, a0_3, a0_4, a0_5, a0_6⟩ : S_impl_Cmd) (⟨a1_1, a1_2, a1_3, a1_4, a1_5, a1_6⟩ : S_impl_Cmd), enc_bo, fun _ => true⟩ | _ => none
theorem hpc_laws_eqCmd (fu : Nat) : ∀ f xs o, pc_laws_eqCmd fu f xs = some o → ∀ y, o.x = some y → Good E Try.prog f xs (o.g y) := by
  intro f xs o h
  cases h
theorem goodv_laws_eqCmd (fu : Nat) (a_0 : S_impl_Cmd) (b_1 : S_impl_Cmd) (y : Bool) (hy : F_laws_eqCmd fu a_0 b_1 = some y) : Good E Try.prog 118 [(.agg [(.int .i64 a_0.Kind), (.int .i64 a_0.Expect), (.int .i64 a_0.Name), (.int .i64 a_0.Addr), (.int .i64 a_0.Number), (.int .i64 a_0.Proto)]), (.agg [(.int .i64 b_1.Kind), (.int .i64 b_1.Expect), (.int .i64 b_1.Name), (.int .i64 b_1.Addr), (.int .i64 b_1.Number), (.int .i64 b_1.Proto)])] (enc_bo y) :=
  fun_good E_ok (pc_good (hpc_laws_eqCmd fu)) (fn := Try.f118) (c := body_laws_eqCmd) (out := out_bo) (y := y) (by kernel_rfl) (by kernel_rfl) (by kernel_rfl) (lpok_laws_eqCmd fu) (fun d hd => out_bo_enc d _ hd) ((ev_laws_eqCmd fu a_0 b_1).trans hy)
theorem good_laws_eqCmd (fu : Nat) : ∀ xs o, S_laws_eqCmd fu xs = some o → ∀ y, o.x = some y → Good E Try.prog 118 xs (o.g y) := by
  intro xs o h y hy
  unfold S_laws_eqCmd at h
  split at h
  · rename_i a0_1 a0_2 a0_3 a0_4 a0_5 a0_6 a1_1 a1_2 a1_3 a1_4 a1_5 a1_6
    cases h
    exact goodv_laws_eqCmd fu (⟨a0_1, a0_2, a0_3, a0_4, a0_5, a0_6⟩ : S_impl_Cmd) (⟨a1_1, a1_2, a1_3, a1_4, a1_5, a1_6⟩ : S_impl_Cmd) y hy
  · cases h

/-! laws.eqCmdS -/
def F_laws_eqCmdS_B0 {ρ : Type} (fu : Nat) (a0_0 : (Sl S_impl_Cmd)) (b1_1 : (Sl S_impl_Cmd)) (k0 : Option ρ) (k1 : Option ρ) (i5_2 : Int) (go : Int → Option ρ) : Option ρ :=
  (bif (decide (i5_2 < ((a0_0.n : Nat) : Int))) then ((bif (decide (0 ≤ i5_2) && decide ((Int.toNat i5_2) < a0_0.n)) then some () else none : Option Unit).bind fun _ => ((bif (decide (0 ≤ i5_2) &&
    decide ((Int.toNat i5_2) < b1_1.n)) then some () else none : Option Unit).bind fun _ => ((F_laws_eqCmd fu (a0_0.f (Int.toNat i5_2)) (b1_1.f (Int.toNat i5_2))).bind fun y252 =>
    (bif (!y252) then k0 else (go (IntKind.wrap .i64 (i5_2 + 1))))))) else k1)
def F_laws_eqCmdS (fu : Nat) (a_0 : (Sl S_impl_Cmd)) (b_1 : (Sl S_impl_Cmd)) : Option (Bool) :=
  (bif (((a_0.n : Nat) : Int) != ((b_1.n : Nat) : Int)) then (some false) else (L (fun w0 go0 => F_laws_eqCmdS_B0 fu a_0 b_1 (some false) (some true) w0 go0) fu (0 : Int)))
def pc_laws_eqCmdS (fu : Nat) : Pc RT den := fun f xs => match f with | 118 => S_laws_eqCmd fu xs | _ => none
def msk_laws_eqCmdS (b : Nat) : List Nat := match b with | 0 => [2, 3, 4, 6, 7, 8, 9, 10, 11, 12, 13, 14, 15, 16, 17, 18, 19, 20, 21, 22, 23, 24, 25, 26] | 100000 => [0, 1, 2, 3, 5, 6, 7, 8, 9, 10, 11, 12, 13, 14, 15, 16, 17, 18, 19, 20, 21, 22, 23, 24, 25, 26] | _ => []
def ps_laws_eqCmdS_0 : List (Pat RT) := [.flat (.rs .impl_Cmd), .flat (.rs .impl_Cmd), .flat .dead, .flat .dead, .flat .dead, .flat (.int .i64), .flat .dead, .flat .dead, .flat .dead, .flat .dead, .flat .dead, .flat .dead, .flat .dead, .flat .dead, .flat .dead, .flat .dead, .flat .dead, .flat .dead, .flat .dead, .flat .dead, .flat .dead, .flat .dead, .flat .dead, .flat .dead, .flat .dead, .flat .dead, .flat .dead]
def os_laws_eqCmdS_0 : List (OP RT) := []
def conv_laws_eqCmdS_0 (r : Raw den ps_laws_eqCmdS_0 os_laws_eqCmdS_0) : ((Sl S_impl_Cmd) × (Sl S_impl_Cmd)) × (Int) := ((r.1.1, r.1.2.1), r.1.2.2.2.2.2.1)
def back_laws_eqCmdS_0 (c : (Sl S_impl_Cmd) × (Sl S_impl_Cmd)) (w : Int) : St RT den := ⟨[(.rs c.1.z .impl_Cmd c.1.n c.1.f), (.rs c.2.z .impl_Cmd c.2.n c.2.f), .dead, .dead, .dead, (.int .i64 w), .dead, .dead, .dead, .dead, .dead, .dead, .dead, .dead, .dead, .dead, .dead, .dead, .dead, .dead, .dead, .dead, .dead, .dead, .dead, .dead, .dead], []⟩
def Bk_laws_eqCmdS_0 {ρ : Type} (fu : Nat) (c : (Sl S_impl_Cmd) × (Sl S_impl_Cmd)) (k : Ex → St RT den → Option ρ) (w : Int) (go : (Int) → Option ρ) : Option ρ := F_laws_eqCmdS_B0 fu c.1 c.2 (k .ret ⟨[.dead, .dead, .dead, .dead, (.bool false), .dead, .dead, .dead, .dead, .dead, .dead, .dead, .dead, .dead, .dead, .dead, .dead, .dead, .dead, .dead, .dead, .dead, .dead, .dead, .dead, .dead, .dead], []⟩) (k (.exit 0) ⟨[.dead, .dead, .dead, .dead, .dead, .dead, .dead, .dead, .dead, .dead, .dead, .dead, .dead, .dead, .dead, .dead, .dead, .dead, .dead, .dead, .dead, .dead, .dead, .dead, .dead, .dead, .dead], []⟩) w go
def lp_laws_eqCmdS (fu : Nat) : Lp RT den (Bool) := fun b s k => match b with | 0 => handle ps_laws_eqCmdS_0 os_laws_eqCmdS_0 conv_laws_eqCmdS_0 (Bk_laws_eqCmdS_0 fu) fu s k | _ => none
theorem ev_laws_eqCmdS (fu : Nat) (a_0 : (Sl S_impl_Cmd)) (b_1 : (Sl S_impl_Cmd)) : evFun E (pc_laws_eqCmdS fu) msk_laws_eqCmdS (lp_laws_eqCmdS fu) out_bo 62 [(.rs a_0.z .impl_Cmd a_0.n a_0.f), (.rs b_1.z .impl_Cmd b_1.n b_1.f)] = F_laws_eqCmdS fu a_0 b_1 := by kernel_rfl
noncomputable def body_laws_eqCmdS : Code := Try.f62.body.getD .skip
noncomputable def lc_laws_eqCmdS_0 : Code := ((loops 0 body_laws_eqCmdS).getD 0 (0, .skip)).2
theorem round_laws_eqCmdS_0 (fu : Nat) (it : St RT den → Option (Bool)) (k : Ex → St RT den → Option (Bool)) c w : evCode E (pc_laws_eqCmdS fu) msk_laws_eqCmdS (lp_laws_eqCmdS fu) 0 lc_laws_eqCmdS_0 (back_laws_eqCmdS_0 c w) (after (msk_laws_eqCmdS 0) (msk_laws_eqCmdS 100000) 0 it k) = Bk_laws_eqCmdS_0 fu c k w (fun w => it (back_laws_eqCmdS_0 c w)) := by kernel_rfl
theorem lpok_laws_eqCmdS_0 (fu : Nat) : ∀ s k r, lp_laws_eqCmdS fu 0 s k = some r → ∃ fuel, iter (msk_laws_eqCmdS 0) (msk_laws_eqCmdS 100000) s.objs.length (evCode E (pc_laws_eqCmdS fu) msk_laws_eqCmdS (lp_laws_eqCmdS fu) 0 lc_laws_eqCmdS_0) fuel s k = some r :=
  handle_ok (ps := ps_laws_eqCmdS_0) (os := os_laws_eqCmdS_0) (conv := conv_laws_eqCmdS_0) (B := Bk_laws_eqCmdS_0 fu) (fu := fu) back_laws_eqCmdS_0 (fun raw => by kernel_rfl) 0 (fun c w => by kernel_rfl) (round_laws_eqCmdS_0 fu)
theorem lpok_laws_eqCmdS (fu : Nat) : LpOk E (pc_laws_eqCmdS fu) msk_laws_eqCmdS (lp_laws_eqCmdS fu) (loops 0 body_laws_eqCmdS) := loop_all 1 (by kernel_rfl) fun i hi => match i, hi with
  | 0, _ => by
    have h : (loops 0 body_laws_eqCmdS).getD 0 (0, .skip) = (0, lc_laws_eqCmdS_0) := by kernel_rfl
    rw [h]; exact lpok_laws_eqCmdS_0 fu
  | i + 1, hi => absurd hi (by omega)
def S_laws_eqCmdS (fu : Nat) (xs : List (D RT den)) : Option (Out RT den) := match xs with | [.rs za0_0 .impl_Cmd na0_0 fa0_0, .rs za1_0 .impl_Cmd na1_0 fa1_0] => some ⟨Bool, F_laws_eqCmdS fu (⟨za0_0, na0_0, fa0_0⟩ : (Sl S_impl_Cmd)) (⟨za1_0, na1_0, fa1_0⟩ : (Sl S_impl_Cmd)), enc_bo, fun _ => true⟩ | _ => none
theorem hpc_laws_eqCmdS (fu : Nat) : ∀ f xs o, pc_laws_eqCmdS fu f xs = some o → ∀ y, o.x = some y → Good E Try.prog f xs (o.g y) := by
  intro f xs o h
  unfold pc_laws_eqCmdS at h
  split at h
  · exact good_laws_eqCmd fu xs o h
  · cases h
theorem goodv_laws_eqCmdS (fu : Nat) (a_0 : (Sl S_impl_Cmd)) (b_1 : (Sl S_impl_Cmd)) (y : Bool) (hy : F_laws_eqCmdS fu a_0 b_1 = some y) : Good E Try.prog 62 [(.rs a_0.z .impl_Cmd a_0.n a_0.f), (.rs b_1.z .impl_Cmd b_1.n b_1.f)] (enc_bo y) :=
  fun_good E_ok (pc_good (hpc_laws_eqCmdS fu)) (fn := Try.f62) (c := body_laws_eqCmdS) (out := out_bo) (y := y) (by kernel_rfl) (by kernel_rfl) (by kernel_rfl) (lpok_laws_eqCmdS fu) (fun d hd => out_bo_enc d _ hd) ((ev_laws_eqCmdS fu a_0 b_1).trans hy)
theorem good_laws_eqCmdS (fu : Nat) : ∀ xs o, S_laws_eqCmdS fu xs = some o → ∀ y, o.x = some y → Good E Try.prog 62 xs (o.g y) := by
  intro xs o h y hy
  unfold S_laws_eqCmdS at h
  split at h
  · rename_i za0_0 na0_0 fa0_0 za1_0 na1_0 fa1_0
    cases h
    exact goodv_laws_eqCmdS fu (⟨za0_0, na0_0, fa0_0⟩ : (Sl S_impl_Cmd)) (⟨za1_0, na1_0, fa1_0⟩ : (Sl S_impl_Cmd)) y hy
  · cases h

/-! laws.eqUpdate -/
def F_laws_eqUpdate (fu : Nat) (a_0 : S_impl_Update) (b_1 : S_impl_Update) : Option (Bool) :=
  (bif (a_0.From != b_1.From) then (some false) else (bif (a_0.To != b_1.To) then (some false) else (bif (!(a_0.Full == b_1.Full)) then (some false) else ((F_laws_eqConfig fu a_0.Config b_1.Config).bind fun y250 =>
    (bif (!y250) then (some false) else ((F_laws_eqCmdS fu a_0.Cmds b_1.Cmds).bind fun y251 => (bif (!y251) then (some false) else (some true))))))))
def pc_laws_eqUpdate (fu : Nat) : Pc RT den := fun f xs => match f with | 27 => S_laws_eqConfig fu xs | 62 => S_laws_eqCmdS fu xs | _ => none
def msk_laws_eqUpdate (b : Nat) : List Nat := []
def lp_laws_eqUpdate (fu : Nat) : Lp RT den (Bool) := fun b s k => none
theorem ev_laws_eqUpdate (fu : Nat) (a_0 : S_impl_Update) (b_1 : S_impl_Update) : evFun E (pc_laws_eqUpdate fu) msk_laws_eqUpdate (lp_laws_eqUpdate fu) out_bo 21 [(.agg [(.int .i64 a_0.From), (.int .i64 a_0.To), (.bool a_0.Full), (.int .i64 a_0.Config.Version), (.rs a_0.Config.Backends.z .impl_Backend a_0.Config.Backends.n a_0.Config.Backends.f), (.rs a_0.Config.Vips.z .impl_Vip a_0.Config.Vips.n a_0.Config.Vips.f), (.rs a_0.Cmds.z .impl_Cmd a_0.Cmds.n a_0.Cmds.f)]), (.agg [(.int .i64 b_1.From), (.int .i64 b_1.To), (.bool b_1.Full), (.int .i64 b_1.Config.Version), (.rs b_1.Config.Backends.z .impl_Backend b_1.Config.Backends.n b_1.Config.Backends.f), (.rs b_1.Config.Vips.z .impl_Vip b_1.Config.Vips.n b_1.Config.Vips.f), (.rs b_1.Cmds.z .impl_Cmd b_1.Cmds.n b_1.Cmds.f)])] = F_laws_eqUpdate fu a_0 b_1 := by kernel_rfl
noncomputable def body_laws_eqUpdate : Code := Try.f21.body.getD .skip
theorem lpok_laws_eqUpdate (fu : Nat) : LpOk E (pc_laws_eqUpdate fu) msk_laws_eqUpdate (lp_laws_eqUpdate fu) (loops 0 body_laws_eqUpdate) := by
  have h : loops 0 body_laws_eqUpdate = [] := by kernel_rfl
  rw [h]; intro p hp; cases hp
def S_laws_eqUpdate (fu : Nat) (xs : List (D RT den)) : Option (Out RT den) := match xs with | [.agg [.int .i64 a0_1, .int .i64 a0_2, .bool a0_3, .int .i64 a0_5, .rs za0_6 .impl_Backend na0_6 fa0_6, .rs za0_7 .impl_Vip na0_7 fa0_7, .rs za0_8 .impl_Cmd na0_8 fa0_8], .agg [.int .i64 a1_1, .int .i64 a1_2, .bool a1_3, .int .i64 a1_5, .rs za1_6 .impl_Backend na1_6 fa1_6, .rs za1_7 .impl_Vip na1_7 fa1_7, .rs za1_8 .impl_Cmd na1_8 fa1_8]] => some ⟨Bool, F_laws_eqUpdate fu (⟨a0_1, a0_2, a0_3, (⟨a0_5, (⟨za0_6, na0_6, fa0_6⟩ : (Sl S_impl_Backend)), (⟨za0_7, na0_7, fa0_7⟩ : (Sl S_impl_Vip))⟩ : S_impl_Config), (⟨za0_8, na0_8, fa0_8⟩ : (Sl S_impl_Cmd))⟩ : S_impl_Update) (⟨a1_1, a1_2, a1_3, (⟨a1_5, (⟨za1_6, na1_6, fa1_6⟩ : (Sl S_impl_Backend)), (⟨za1_7, na1_7, fa1_7⟩ : (Sl S_impl_Vip))⟩ : S_impl_Config), (⟨za1_8, na1_8, fa1_8⟩ : (Sl S_impl_Cmd))⟩ : S_impl_Update), enc_bo, fun _ => true⟩ | _ => none
theorem hpc_laws_eqUpdate (fu : Nat) : ∀ f xs o, pc_laws_eqUpdate fu f xs = some o → ∀ y, o.x = some y → Good E Try.prog f xs (o.g y) := by
  intro f xs o h
  unfold pc_laws_eqUpdate at h
  split at h
  · exact good_laws_eqConfig fu xs o h
  · exact good_laws_eqCmdS fu xs o h
  · cases h
theorem goodv_laws_eqUpdate (fu : Nat) (a_0 : S_impl_Update) (b_1 : S_impl_Update) (y : Bool) (hy : F_laws_eqUpdate fu a_0 b_1 = some y) : Good E Try.prog 21 [(.agg [(.int .i64 a_0.From), (.int .i64 a_0.To), (.bool a_0.Full), (.int .i64 a_0.Config.Version), (.rs a_0.Config.Backends.z .impl_Backend a_0.Config.Backends.n a_0.Config.Backends.f), (.rs a_0.Config.Vips.z .impl_Vip a_0.Config.Vips.n a_0.Config.Vips.f), (.rs a_0.Cmds.z .impl_Cmd a_0.Cmds.n a_0.Cmds.f)]), (.agg [(.int .i64 b_1.From), (.int .i64 b_1.To), (.bool b_1.Full), (.int .i64 b_1.Config.Version), (.rs b_1.Config.Backends.z .impl_Backend b_1.Config.Backends.n b_1.Config.Backends.f), (.rs b_1.Config.Vips.z .impl_Vip b_1.Config.Vips.n b_1.Config.Vips.f), (.rs b_1.Cmds.z .impl_Cmd b_1.Cmds.n b_1.Cmds.f)])] (enc_bo y) :=
  fun_good E_ok (pc_good (hpc_laws_eqUpdate fu)) (fn := Try.f21) (c := body_laws_eqUpdate) (out := out_bo) (y := y) (by kernel_rfl) (by kernel_rfl) (by kernel_rfl) (lpok_laws_eqUpdate fu) (fun d hd => out_bo_enc d _ hd) ((ev_laws_eqUpdate fu a_0 b_1).trans hy)
theorem good_laws_eqUpdate (fu : Nat) : ∀ xs o, S_laws_eqUpdate fu xs = some o → ∀ y, o.x = some y → Good E Try.prog 21 xs (o.g y) := by
  intro xs o h y hy
  unfold S_laws_eqUpdate at h
  split at h
  · rename_i a0_1 a0_2 a0_3 a0_5 za0_6 na0_6 fa0_6 za0_7 na0_7 fa0_7 za0_8 na0_8 fa0_8 a1_1 a1_2 a1_3 a1_5 za1_6 na1_6 fa1_6 za1_7 na1_7 fa1_7 za1_8 na1_8 fa1_8
    cases h
    exact goodv_laws_eqUpdate fu (⟨a0_1, a0_2, a0_3, (⟨a0_5, (⟨za0_6, na0_6, fa0_6⟩ : (Sl S_impl_Backend)), (⟨za0_7, na0_7, fa0_7⟩ : (Sl S_impl_Vip))⟩ : S_impl_Config), (⟨za0_8, na0_8, fa0_8⟩ : (Sl S_impl_Cmd))⟩ : S_impl_Update) (⟨a1_1, a1_2, a1_3, (⟨a1_5, (⟨za1_6, na1_6, fa1_6⟩ : (Sl S_impl_Backend)), (⟨za1_7, na1_7, fa1_7⟩ : (Sl S_impl_Vip))⟩ : S_impl_Config), (⟨za1_8, na1_8, fa1_8⟩ : (Sl S_impl_Cmd))⟩ : S_impl_Update) y hy
  · cases h

/-! laws.FnExactUpdateFault -/
def F_laws_FnExactUpdateFault (fu : Nat) (aU_0 : S_laws_Update) : Option (Bool) :=
  ((F_laws_szUpdate fu aU_0 1048576).bind fun y143 => (bif (decide (y143 < 0)) then (some true) else ((F_laws_toUpdate fu aU_0).bind fun y144 => ((F_spec_UpdateFault fu y144).bind fun y145 =>
    ((F_laws_toUpdate fu aU_0).bind fun y146 => ((F_impl_UpdateFault fu y146).bind fun y147 => (bif (y147 != y145) then (some false) else ((F_laws_toUpdate fu aU_0).bind fun y148 =>
    ((F_laws_eqUpdate fu y146 y148).bind fun y149 => (bif (!y149) then (some false) else (some true)))))))))))
def pc_laws_FnExactUpdateFault (fu : Nat) : Pc RT den := fun f xs => match f with | 17 => S_laws_szUpdate fu xs | 18 => S_spec_UpdateFault fu xs | 19 => S_laws_toUpdate fu xs | 20 => S_impl_UpdateFault fu xs | 21 => S_laws_eqUpdate fu xs | _ => none
def msk_laws_FnExactUpdateFault (b : Nat) : List Nat := []
def lp_laws_FnExactUpdateFault (fu : Nat) : Lp RT den (Bool) := fun b s k => none
theorem ev_laws_FnExactUpdateFault (fu : Nat) (aU_0 : S_laws_Update) : evFun E (pc_laws_FnExactUpdateFault fu) msk_laws_FnExactUpdateFault (lp_laws_FnExactUpdateFault fu) out_bo 5 [(.agg [(.int .i64 aU_0.From), (.int .i64 aU_0.To), (.bool aU_0.Full), (.int .i64 aU_0.Config.Version), (.rs aU_0.Config.Backends.z .impl_Backend aU_0.Config.Backends.n aU_0.Config.Backends.f), (.rs aU_0.Config.Vips.z .impl_Vip aU_0.Config.Vips.n aU_0.Config.Vips.f), (.rs aU_0.Cmds.z .impl_Cmd aU_0.Cmds.n aU_0.Cmds.f)])] = F_laws_FnExactUpdateFault fu aU_0 := by kernel_rfl
noncomputable def body_laws_FnExactUpdateFault : Code := Try.f5.body.getD .skip
theorem lpok_laws_FnExactUpdateFault (fu : Nat) : LpOk E (pc_laws_FnExactUpdateFault fu) msk_laws_FnExactUpdateFault (lp_laws_FnExactUpdateFault fu) (loops 0 body_laws_FnExactUpdateFault) := by
  have h : loops 0 body_laws_FnExactUpdateFault = [] := by kernel_rfl
  rw [h]; intro p hp; cases hp
def S_laws_FnExactUpdateFault (fu : Nat) (xs : List (D RT den)) : Option (Out RT den) := match xs with | [.agg [.int .i64 a0_1, .int .i64 a0_2, .bool a0_3, .int .i64 a0_5, .rs za0_6 .impl_Backend na0_6 fa0_6, .rs za0_7 .impl_Vip na0_7 fa0_7, .rs za0_8 .impl_Cmd na0_8 fa0_8]] => some ⟨Bool, F_laws_FnExactUpdateFault fu (⟨a0_1, a0_2, a0_3, (⟨a0_5, (⟨za0_6, na0_6, fa0_6⟩ : (Sl S_impl_Backend)), (⟨za0_7, na0_7, fa0_7⟩ : (Sl S_impl_Vip))⟩ : S_laws_Config), (⟨za0_8, na0_8, fa0_8⟩ : (Sl S_impl_Cmd))⟩ : S_laws_Update), enc_bo, fun _ => true⟩ | _ => none
theorem hpc_laws_FnExactUpdateFault (fu : Nat) : ∀ f xs o, pc_laws_FnExactUpdateFault fu f xs = some o → ∀ y, o.x = some y → Good E Try.prog f xs (o.g y) := by
  intro f xs o h
  unfold pc_laws_FnExactUpdateFault at h
  split at h
  · exact good_laws_szUpdate fu xs o h
  · exact good_spec_UpdateFault fu xs o h
  · exact good_laws_toUpdate fu xs o h
  · exact good_impl_UpdateFault fu xs o h
  · exact good_laws_eqUpdate fu xs o h
  · cases h
theorem goodv_laws_FnExactUpdateFault (fu : Nat) (aU_0 : S_laws_Update) (y : Bool) (hy : F_laws_FnExactUpdateFault fu aU_0 = some y) : Good E Try.prog 5 [(.agg [(.int .i64 aU_0.From), (.int .i64 aU_0.To), (.bool aU_0.Full), (.int .i64 aU_0.Config.Version), (.rs aU_0.Config.Backends.z .impl_Backend aU_0.Config.Backends.n aU_0.Config.Backends.f), (.rs aU_0.Config.Vips.z .impl_Vip aU_0.Config.Vips.n aU_0.Config.Vips.f), (.rs aU_0.Cmds.z .impl_Cmd aU_0.Cmds.n aU_0.Cmds.f)])] (enc_bo y) :=
  fun_good E_ok (pc_good (hpc_laws_FnExactUpdateFault fu)) (fn := Try.f5) (c := body_laws_FnExactUpdateFault) (out := out_bo) (y := y) (by kernel_rfl) (by kernel_rfl) (by kernel_rfl) (lpok_laws_FnExactUpdateFault fu) (fun d hd => out_bo_enc d _ hd) ((ev_laws_FnExactUpdateFault fu aU_0).trans hy)
theorem good_laws_FnExactUpdateFault (fu : Nat) : ∀ xs o, S_laws_FnExactUpdateFault fu xs = some o → ∀ y, o.x = some y → Good E Try.prog 5 xs (o.g y) := by
  intro xs o h y hy
  unfold S_laws_FnExactUpdateFault at h
  split at h
  · rename_i a0_1 a0_2 a0_3 a0_5 za0_6 na0_6 fa0_6 za0_7 na0_7 fa0_7 za0_8 na0_8 fa0_8
    cases h
    exact goodv_laws_FnExactUpdateFault fu (⟨a0_1, a0_2, a0_3, (⟨a0_5, (⟨za0_6, na0_6, fa0_6⟩ : (Sl S_impl_Backend)), (⟨za0_7, na0_7, fa0_7⟩ : (Sl S_impl_Vip))⟩ : S_laws_Config), (⟨za0_8, na0_8, fa0_8⟩ : (Sl S_impl_Cmd))⟩ : S_laws_Update) y hy
  · cases h

/-! spec.l11At -/
def F_spec_l11At_B0 {ρ : Type} (fu : Nat) (m0_0 : Int) (m0_1 : (Sl S_impl_Backend)) (m0_2 : (Sl S_impl_Vip)) (m0_3 : (Sl S_impl_Session)) (client1_4 : Int) (k0 : Int → Option ρ) (k1 : Option ρ) (i5_5 : Int) (go : Int → Option ρ) : Option ρ :=
  (bif (decide (i5_5 < ((m0_3.n : Nat) : Int))) then ((bif (decide (0 ≤ i5_5) && decide ((Int.toNat i5_5) < m0_3.n)) then some () else none : Option Unit).bind fun _ => (bif ((m0_3.f (Int.toNat i5_5)).Client == client1_4) then
    (k0 i5_5) else (go (IntKind.wrap .i64 (i5_5 + 1))))) else k1)
def F_spec_l11At (fu : Nat) (m_0 : S_impl_Machine) (client_1 : Int) : Option (Int) :=
  (L (fun w0 go0 => F_spec_l11At_B0 fu m_0.Config.Version m_0.Config.Backends m_0.Config.Vips m_0.Sessions client_1 (fun z264 => (some z264)) (some (-1)) w0 go0) fu (0 : Int))
def pc_spec_l11At (fu : Nat) : Pc RT den := fun f xs => none
def msk_spec_l11At (b : Nat) : List Nat := match b with | 0 => [2, 3, 4, 6, 7, 8, 9, 10, 11, 12, 13, 14, 15, 16, 17, 18, 19, 20, 21, 22, 23, 24, 25] | 100000 => [0, 1, 2, 3, 5, 6, 7, 8, 9, 10, 11, 12, 13, 14, 15, 16, 17, 18, 19, 20, 21, 22, 23, 24, 25] | _ => []
def ps_spec_l11At_0 : List (Pat RT) := [.rptr [(.int .i64), (.rs .impl_Backend), (.rs .impl_Vip), (.rs .impl_Session)], .flat (.int .i64), .flat .dead, .flat .dead, .flat .dead, .flat (.int .i64), .flat .dead, .flat .dead, .flat .dead, .flat .dead, .flat .dead, .flat .dead, .flat .dead, .flat .dead, .flat .dead, .flat .dead, .flat .dead, .flat .dead, .flat .dead, .flat .dead, .flat .dead, .flat .dead, .flat .dead, .flat .dead, .flat .dead, .flat .dead]
def os_spec_l11At_0 : List (OP RT) := []
def conv_spec_l11At_0 (r : Raw den ps_spec_l11At_0 os_spec_l11At_0) : (Int × (Sl S_impl_Backend) × (Sl S_impl_Vip) × (Sl S_impl_Session) × Int) × (Int) := ((r.1.1.1, r.1.1.2.1, r.1.1.2.2.1, r.1.1.2.2.2.1, r.1.2.1), r.1.2.2.2.2.2.1)
def back_spec_l11At_0 (c : Int × (Sl S_impl_Backend) × (Sl S_impl_Vip) × (Sl S_impl_Session) × Int) (w : Int) : St RT den := ⟨[(.rptr [(.int .i64 c.1), (.rs c.2.1.z .impl_Backend c.2.1.n c.2.1.f), (.rs c.2.2.1.z .impl_Vip c.2.2.1.n c.2.2.1.f), (.rs c.2.2.2.1.z .impl_Session c.2.2.2.1.n c.2.2.2.1.f)]), (.int .i64 c.2.2.2.2), .dead, .dead, .dead, (.int .i64 w), .dead, .dead, .dead, .dead, .dead, .dead, .dead, .dead, .dead, .dead, .dead, .dead, .dead, .dead, .dead, .dead, .dead, .dead, .dead, .dead], []⟩
def Bk_spec_l11At_0 {ρ : Type} (fu : Nat) (c : Int × (Sl S_impl_Backend) × (Sl S_impl_Vip) × (Sl S_impl_Session) × Int) (k : Ex → St RT den → Option ρ) (w : Int) (go : (Int) → Option ρ) : Option ρ := F_spec_l11At_B0 fu c.1 c.2.1 c.2.2.1 c.2.2.2.1 c.2.2.2.2 (fun a0 => k .ret ⟨[.dead, .dead, .dead, .dead, (.int .i64 a0), .dead, .dead, .dead, .dead, .dead, .dead, .dead, .dead, .dead, .dead, .dead, .dead, .dead, .dead, .dead, .dead, .dead, .dead, .dead, .dead, .dead], []⟩) (k (.exit 0) ⟨[.dead, .dead, .dead, .dead, .dead, .dead, .dead, .dead, .dead, .dead, .dead, .dead, .dead, .dead, .dead, .dead, .dead, .dead, .dead, .dead, .dead, .dead, .dead, .dead, .dead, .dead], []⟩) w go
def lp_spec_l11At (fu : Nat) : Lp RT den (Int) := fun b s k => match b with | 0 => handle ps_spec_l11At_0 os_spec_l11At_0 conv_spec_l11At_0 (Bk_spec_l11At_0 fu) fu s k | _ => none
theorem ev_spec_l11At (fu : Nat) (m_0 : S_impl_Machine) (client_1 : Int) : evFun E (pc_spec_l11At fu) msk_spec_l11At (lp_spec_l11At fu) out_i64 51 [(.rptr [(.int .i64 m_0.Config.Version), (.rs m_0.Config.Backends.z .impl_Backend m_0.Config.Backends.n m_0.Config.Backends.f), (.rs m_0.Config.Vips.z .impl_Vip m_0.Config.Vips.n m_0.Config.Vips.f), (.rs m_0.Sessions.z .impl_Session m_0.Sessions.n m_0.Sessions.f)]), (.int .i64 client_1)] = F_spec_l11At fu m_0 client_1 := by kernel_rfl
noncomputable def body_spec_l11At : Code := Try.f51.body.getD .skip
noncomputable def lc_spec_l11At_0 : Code := ((loops 0 body_spec_l11At).getD 0 (0, .skip)).2
theorem round_spec_l11At_0 (fu : Nat) (it : St RT den → Option (Int)) (k : Ex → St RT den → Option (Int)) c w : evCode E (pc_spec_l11At fu) msk_spec_l11At (lp_spec_l11At fu) 0 lc_spec_l11At_0 (back_spec_l11At_0 c w) (after (msk_spec_l11At 0) (msk_spec_l11At 100000) 0 it k) = Bk_spec_l11At_0 fu c k w (fun w => it (back_spec_l11At_0 c w)) := by kernel_rfl
theorem lpok_spec_l11At_0 (fu : Nat) : ∀ s k r, lp_spec_l11At fu 0 s k = some r → ∃ fuel, iter (msk_spec_l11At 0) (msk_spec_l11At 100000) s.objs.length (evCode E (pc_spec_l11At fu) msk_spec_l11At (lp_spec_l11At fu) 0 lc_spec_l11At_0) fuel s k = some r :=
  handle_ok (ps := ps_spec_l11At_0) (os := os_spec_l11At_0) (conv := conv_spec_l11At_0) (B := Bk_spec_l11At_0 fu) (fu := fu) back_spec_l11At_0 (fun raw => by kernel_rfl) 0 (fun c w => by kernel_rfl) (round_spec_l11At_0 fu)
theorem lpok_spec_l11At (fu : Nat) : LpOk E (pc_spec_l11At fu) msk_spec_l11At (lp_spec_l11At fu) (loops 0 body_spec_l11At) := loop_all 1 (by kernel_rfl) fun i hi => match i, hi with
  | 0, _ => by
    have h : (loops 0 body_spec_l11At).getD 0 (0, .skip) = (0, lc_spec_l11At_0) := by kernel_rfl
    rw [h]; exact lpok_spec_l11At_0 fu
  | i + 1, hi => absurd hi (by omega)
def S_spec_l11At (fu : Nat) (xs : List (D RT den)) : Option (Out RT den) := match xs with | [.rptr (.int .i64 a0_2 :: .rs za0_3 .impl_Backend na0_3 fa0_3 :: .rs za0_4 .impl_Vip na0_4 fa0_4 :: .rs za0_5 .impl_Session na0_5 fa0_5 :: ra0), .int .i64 a1_0] => some ⟨Int, F_spec_l11At fu (⟨(⟨a0_2, (⟨za0_3, na0_3, fa0_3⟩ : (Sl S_impl_Backend)), (⟨za0_4, na0_4, fa0_4⟩ : (Sl S_impl_Vip))⟩ : S_impl_Config), (⟨za0_5, na0_5, fa0_5⟩ : (Sl S_impl_Session))⟩ : S_impl_Machine) a1_0, enc_i64, fun _ => true⟩ | _ => none
theorem hpc_spec_l11At (fu : Nat) : ∀ f xs o, pc_spec_l11At fu f xs = some o → ∀ y, o.x = some y → Good E Try.prog f xs (o.g y) := by
  intro f xs o h
  cases h
theorem goodv_spec_l11At (fu : Nat) (m_0 : S_impl_Machine) (client_1 : Int) (y : Int) (hy : F_spec_l11At fu m_0 client_1 = some y) : Good E Try.prog 51 [(.rptr [(.int .i64 m_0.Config.Version), (.rs m_0.Config.Backends.z .impl_Backend m_0.Config.Backends.n m_0.Config.Backends.f), (.rs m_0.Config.Vips.z .impl_Vip m_0.Config.Vips.n m_0.Config.Vips.f), (.rs m_0.Sessions.z .impl_Session m_0.Sessions.n m_0.Sessions.f)]), (.int .i64 client_1)] (enc_i64 y) :=
  fun_good E_ok (pc_good (hpc_spec_l11At fu)) (fn := Try.f51) (c := body_spec_l11At) (out := out_i64) (y := y) (by kernel_rfl) (by kernel_rfl) (by kernel_rfl) (lpok_spec_l11At fu) (fun d hd => out_i64_enc d _ hd) ((ev_spec_l11At fu m_0 client_1).trans hy)
theorem good_spec_l11At (fu : Nat) : ∀ xs o, S_spec_l11At fu xs = some o → ∀ y, o.x = some y → Good E Try.prog 51 xs (o.g y) := by
  intro xs o h y hy
  unfold S_spec_l11At at h
  split at h
  · rename_i a0_2 za0_3 na0_3 fa0_3 za0_4 na0_4 fa0_4 za0_5 na0_5 fa0_5 ra0 a1_0
    cases h
    exact (goodv_spec_l11At fu (⟨(⟨a0_2, (⟨za0_3, na0_3, fa0_3⟩ : (Sl S_impl_Backend)), (⟨za0_4, na0_4, fa0_4⟩ : (Sl S_impl_Vip))⟩ : S_impl_Config), (⟨za0_5, na0_5, fa0_5⟩ : (Sl S_impl_Session))⟩ : S_impl_Machine) a1_0 y hy).sub ⟨Sub.of_eq ra0 rfl, .refl _, trivial⟩
  · cases h

/-! spec.ReplyOf -/
def F_spec_ReplyOf (fu : Nat) (m_0 : S_impl_Machine) (client_1 : Int) (seq_2 : Int) : Option (S_impl_IntResult) :=
  ((F_spec_l11Fault fu m_0).bind fun y261 => (bif (y261 != 0) then (some (⟨y261, 0⟩ : S_impl_IntResult)) else ((F_spec_l11At fu m_0 client_1).bind fun y262 => (((bif (decide (y262 < 0)) then
    (some true) else ((bif (decide (0 ≤ y262) && decide ((Int.toNat y262) < m_0.Sessions.n)) then some () else none : Option Unit).bind fun _ => (some (decide ((m_0.Sessions.f (Int.toNat y262)).Seq < seq_2))))) : Option Bool).bind fun m263 =>
    (bif m263 then (some (⟨4, 0⟩ : S_impl_IntResult)) else ((bif (decide (0 ≤ y262) && decide ((Int.toNat y262) < m_0.Sessions.n)) then some () else none : Option Unit).bind fun _ =>
    (bif (decide ((m_0.Sessions.f (Int.toNat y262)).Seq > seq_2)) then (some (⟨9, 0⟩ : S_impl_IntResult)) else ((bif (decide (0 ≤ y262) && decide ((Int.toNat y262) < m_0.Sessions.n)) then
    some () else none : Option Unit).bind fun _ => (some (⟨0, (m_0.Sessions.f (Int.toNat y262)).Code⟩ : S_impl_IntResult))))))))))
def pc_spec_ReplyOf (fu : Nat) : Pc RT den := fun f xs => match f with | 45 => S_spec_l11Fault fu xs | 51 => S_spec_l11At fu xs | _ => none
def msk_spec_ReplyOf (b : Nat) : List Nat := match b with | 200005 => [27] | _ => []
def lp_spec_ReplyOf (fu : Nat) : Lp RT den (S_impl_IntResult) := fun b s k => none
theorem ev_spec_ReplyOf (fu : Nat) (m_0 : S_impl_Machine) (client_1 : Int) (seq_2 : Int) : evFun E (pc_spec_ReplyOf fu) msk_spec_ReplyOf (lp_spec_ReplyOf fu) out_impl_IntResult 14 [(.agg [(.int .i64 m_0.Config.Version), (.rs m_0.Config.Backends.z .impl_Backend m_0.Config.Backends.n m_0.Config.Backends.f), (.rs m_0.Config.Vips.z .impl_Vip m_0.Config.Vips.n m_0.Config.Vips.f), (.rs m_0.Sessions.z .impl_Session m_0.Sessions.n m_0.Sessions.f)]), (.int .i64 client_1), (.int .i64 seq_2)] = F_spec_ReplyOf fu m_0 client_1 seq_2 := by kernel_rfl
noncomputable def body_spec_ReplyOf : Code := Try.f14.body.getD .skip
theorem lpok_spec_ReplyOf (fu : Nat) : LpOk E (pc_spec_ReplyOf fu) msk_spec_ReplyOf (lp_spec_ReplyOf fu) (loops 0 body_spec_ReplyOf) := by
  have h : loops 0 body_spec_ReplyOf = [] := by kernel_rfl
  rw [h]; intro p hp; cases hp
def S_spec_ReplyOf (fu : Nat) (xs : List (D RT den)) : Option (Out RT den) := match xs with | [.agg [.int .i64 a0_2, .rs za0_3 .impl_Backend na0_3 fa0_3, .rs za0_4 .impl_Vip na0_4 fa0_4, .rs za0_5 .impl_Session na0_5 fa0_5], .int .i64 a1_0, .int .i64 a2_0] => some ⟨S_impl_IntResult, F_spec_ReplyOf fu (⟨(⟨a0_2, (⟨za0_3, na0_3, fa0_3⟩ : (Sl S_impl_Backend)), (⟨za0_4, na0_4, fa0_4⟩ : (Sl S_impl_Vip))⟩ : S_impl_Config), (⟨za0_5, na0_5, fa0_5⟩ : (Sl S_impl_Session))⟩ : S_impl_Machine) a1_0 a2_0, enc_impl_IntResult, fun _ => true⟩ | _ => none
theorem hpc_spec_ReplyOf (fu : Nat) : ∀ f xs o, pc_spec_ReplyOf fu f xs = some o → ∀ y, o.x = some y → Good E Try.prog f xs (o.g y) := by
  intro f xs o h
  unfold pc_spec_ReplyOf at h
  split at h
  · exact good_spec_l11Fault fu xs o h
  · exact good_spec_l11At fu xs o h
  · cases h
theorem goodv_spec_ReplyOf (fu : Nat) (m_0 : S_impl_Machine) (client_1 : Int) (seq_2 : Int) (y : S_impl_IntResult) (hy : F_spec_ReplyOf fu m_0 client_1 seq_2 = some y) : Good E Try.prog 14 [(.agg [(.int .i64 m_0.Config.Version), (.rs m_0.Config.Backends.z .impl_Backend m_0.Config.Backends.n m_0.Config.Backends.f), (.rs m_0.Config.Vips.z .impl_Vip m_0.Config.Vips.n m_0.Config.Vips.f), (.rs m_0.Sessions.z .impl_Session m_0.Sessions.n m_0.Sessions.f)]), (.int .i64 client_1), (.int .i64 seq_2)] (enc_impl_IntResult y) :=
  fun_good E_ok (pc_good (hpc_spec_ReplyOf fu)) (fn := Try.f14) (c := body_spec_ReplyOf) (out := out_impl_IntResult) (y := y) (by kernel_rfl) (by kernel_rfl) (by kernel_rfl) (lpok_spec_ReplyOf fu) (fun d hd => out_impl_IntResult_enc d _ hd) ((ev_spec_ReplyOf fu m_0 client_1 seq_2).trans hy)
theorem good_spec_ReplyOf (fu : Nat) : ∀ xs o, S_spec_ReplyOf fu xs = some o → ∀ y, o.x = some y → Good E Try.prog 14 xs (o.g y) := by
  intro xs o h y hy
  unfold S_spec_ReplyOf at h
  split at h
  · rename_i a0_2 za0_3 na0_3 fa0_3 za0_4 na0_4 fa0_4 za0_5 na0_5 fa0_5 a1_0 a2_0
    cases h
    exact goodv_spec_ReplyOf fu (⟨(⟨a0_2, (⟨za0_3, na0_3, fa0_3⟩ : (Sl S_impl_Backend)), (⟨za0_4, na0_4, fa0_4⟩ : (Sl S_impl_Vip))⟩ : S_impl_Config), (⟨za0_5, na0_5, fa0_5⟩ : (Sl S_impl_Session))⟩ : S_impl_Machine) a1_0 a2_0 y hy
  · cases h

/-! (*impl.Machine).session'1 -/
def F_impl_Machine_session_c1 (fu : Nat) (s_0 : S_impl_Session) (c_1 : Int) : Option (Int) :=
  ((F_cmp_Compare_int64 fu s_0.Client c_1).bind fun y272 => (some y272))
def pc_impl_Machine_session_c1 (fu : Nat) : Pc RT den := fun f xs => match f with | 108 => S_cmp_Compare_int64 fu xs | _ => none
def msk_impl_Machine_session_c1 (b : Nat) : List Nat := []
def lp_impl_Machine_session_c1 (fu : Nat) : Lp RT den (Int) := fun b s k => none
theorem ev_impl_Machine_session_c1 (fu : Nat) (s_0 : S_impl_Session) (c_1 : Int) : evFun E (pc_impl_Machine_session_c1 fu) msk_impl_Machine_session_c1 (lp_impl_Machine_session_c1 fu) out_i64 107 [(.agg [(.int .i64 s_0.Client), (.int .i64 s_0.Seq), (.int .i64 s_0.Code)]), (.int .i64 c_1)] = F_impl_Machine_session_c1 fu s_0 c_1 := by kernel_rfl
noncomputable def body_impl_Machine_session_c1 : Code := Try.f107.body.getD .skip
theorem lpok_impl_Machine_session_c1 (fu : Nat) : LpOk E (pc_impl_Machine_session_c1 fu) msk_impl_Machine_session_c1 (lp_impl_Machine_session_c1 fu) (loops 0 body_impl_Machine_session_c1) := by
  have h : loops 0 body_impl_Machine_session_c1 = [] := by kernel_rfl
  rw [h]; intro p hp; cases hp
def S_impl_Machine_session_c1 (fu : Nat) (xs : List (D RT den)) : Option (Out RT den) := match xs with | [.agg [.int .i64 a0_1, .int .i64 a0_2, .int .i64 a0_3], .int .i64 a1_0] => some ⟨Int, F_impl_Machine_session_c1 fu (⟨a0_1, a0_2, a0_3⟩ : S_impl_Session) a1_0, enc_i64, fun _ => true⟩ | _ => none
theorem hpc_impl_Machine_session_c1 (fu : Nat) : ∀ f xs o, pc_impl_Machine_session_c1 fu f xs = some o → ∀ y, o.x = some y → Good E Try.prog f xs (o.g y) := by
  intro f xs o h
  unfold pc_impl_Machine_session_c1 at h
  split at h
  · exact good_cmp_Compare_int64 fu xs o h
  · cases h
theorem goodv_impl_Machine_session_c1 (fu : Nat) (s_0 : S_impl_Session) (c_1 : Int) (y : Int) (hy : F_impl_Machine_session_c1 fu s_0 c_1 = some y) : Good E Try.prog 107 [(.agg [(.int .i64 s_0.Client), (.int .i64 s_0.Seq), (.int .i64 s_0.Code)]), (.int .i64 c_1)] (enc_i64 y) :=
  fun_good E_ok (pc_good (hpc_impl_Machine_session_c1 fu)) (fn := Try.f107) (c := body_impl_Machine_session_c1) (out := out_i64) (y := y) (by kernel_rfl) (by kernel_rfl) (by kernel_rfl) (lpok_impl_Machine_session_c1 fu) (fun d hd => out_i64_enc d _ hd) ((ev_impl_Machine_session_c1 fu s_0 c_1).trans hy)
theorem good_impl_Machine_session_c1 (fu : Nat) : ∀ xs o, S_impl_Machine_session_c1 fu xs = some o → ∀ y, o.x = some y → Good E Try.prog 107 xs (o.g y) := by
  intro xs o h y hy
  unfold S_impl_Machine_session_c1 at h
  split at h
  · rename_i a0_1 a0_2 a0_3 a1_0
    cases h
    exact goodv_impl_Machine_session_c1 fu (⟨a0_1, a0_2, a0_3⟩ : S_impl_Session) a1_0 y hy
  · cases h

/-! slices.BinarySearchFunc[[]impl.Session,impl.Session,int64] -/
def F_slices_BinarySearchFunc_impl_Session_impl_Session_int64_w_impl_Machine_session_c1_B0 {ρ : Type} (fu : Nat) (x0_0 : (Sl S_impl_Session)) (target1_1 : Int) (n8_2 : Int) (k0 : Int → Option ρ) (i9_3 : Int) (j10_4 : Int) (go : Int → Int → Option ρ) : Option ρ :=
  (bif (decide (i9_3 < j10_4)) then ((bif (decide (0 ≤ (IntKind.wrap .i64 (shrInt .u64 (IntKind.wrap .u64 (IntKind.wrap .i64 (i9_3 + j10_4))) 1))) && decide ((Int.toNat (IntKind.wrap .i64 (shrInt .u64 (IntKind.wrap .u64 (IntKind.wrap .i64 (i9_3 + j10_4))) 1))) < x0_0.n)) then
    some () else none : Option Unit).bind fun _ => ((F_impl_Machine_session_c1 fu (x0_0.f (Int.toNat (IntKind.wrap .i64 (shrInt .u64 (IntKind.wrap .u64 (IntKind.wrap .i64 (i9_3 + j10_4))) 1)))) target1_1).bind fun y269 =>
    (bif (decide (y269 < 0)) then (go (IntKind.wrap .i64 ((IntKind.wrap .i64 (shrInt .u64 (IntKind.wrap .u64 (IntKind.wrap .i64 (i9_3 + j10_4))) 1)) + 1)) j10_4) else (go i9_3 (IntKind.wrap .i64 (shrInt .u64 (IntKind.wrap .u64 (IntKind.wrap .i64 (i9_3 + j10_4))) 1)))))) else
    (k0 i9_3))
def F_slices_BinarySearchFunc_impl_Session_impl_Session_int64_w_impl_Machine_session_c1 (fu : Nat) (x_0 : (Sl S_impl_Session)) (target_1 : Int) : Option (Int × Bool) :=
  (L (fun w0 go0 => F_slices_BinarySearchFunc_impl_Session_impl_Session_int64_w_impl_Machine_session_c1_B0 fu x_0 target_1 ((x_0.n : Nat) : Int) (fun z270 => (bif (decide (z270 < ((x_0.n : Nat) : Int))) then
    ((bif (decide (0 ≤ z270) && decide ((Int.toNat z270) < x_0.n)) then some () else none : Option Unit).bind fun _ => ((F_impl_Machine_session_c1 fu (x_0.f (Int.toNat z270)) target_1).bind fun y271 =>
    (some (z270, (y271 == 0))))) else (some (z270, false)))) w0.1 w0.2 (fun q0 q1 => go0 (q0, q1))) fu ((0, ((x_0.n : Nat) : Int)) : Int × Int))
def pc_slices_BinarySearchFunc_impl_Session_impl_Session_int64_w_impl_Machine_session_c1 (fu : Nat) : Pc RT den := fun f xs => match f with | 107 => S_impl_Machine_session_c1 fu xs | _ => none
def msk_slices_BinarySearchFunc_impl_Session_impl_Session_int64_w_impl_Machine_session_c1 (b : Nat) : List Nat := match b with | 0 => [3, 4, 5, 6, 7, 11, 12, 13, 14, 15, 16, 17, 18, 19, 20, 21, 22, 23, 24, 25, 26, 27, 28, 29, 30, 31, 32, 33, 34, 35, 36, 37, 38, 39, 40, 41, 42, 43, 44, 45, 46, 47, 48] | 100000 => [3, 4, 5, 10, 11, 12, 13, 14, 15, 16, 17, 18, 19, 20, 21, 22, 23, 24, 25, 26, 27, 28, 29, 30, 31, 32, 33, 34, 35, 36, 37, 38, 39, 40, 41, 42, 43, 44, 45, 46, 47, 48] | _ => []
def ps_slices_BinarySearchFunc_impl_Session_impl_Session_int64_w_impl_Machine_session_c1_0 : List (Pat RT) := [.flat (.rs .impl_Session), .flat (.int .i64), .fn 107 [], .flat .dead, .flat .dead, .flat .dead, .flat .dead, .flat .dead, .flat (.int .i64), .flat (.int .i64), .flat (.int .i64), .flat .dead, .flat .dead, .flat .dead, .flat .dead, .flat .dead, .flat .dead, .flat .dead, .flat .dead, .flat .dead, .flat .dead, .flat .dead, .flat .dead, .flat .dead, .flat .dead, .flat .dead, .flat .dead, .flat .dead, .flat .dead, .flat .dead, .flat .dead, .flat .dead, .flat .dead, .flat .dead, .flat .dead, .flat .dead, .flat .dead, .flat .dead, .flat .dead, .flat .dead, .flat .dead, .flat .dead, .flat .dead, .flat .dead, .flat .dead, .flat .dead, .flat .dead, .flat .dead, .flat .dead]
def os_slices_BinarySearchFunc_impl_Session_impl_Session_int64_w_impl_Machine_session_c1_0 : List (OP RT) := []
def conv_slices_BinarySearchFunc_impl_Session_impl_Session_int64_w_impl_Machine_session_c1_0 (r : Raw den ps_slices_BinarySearchFunc_impl_Session_impl_Session_int64_w_impl_Machine_session_c1_0 os_slices_BinarySearchFunc_impl_Session_impl_Session_int64_w_impl_Machine_session_c1_0) : ((Sl S_impl_Session) × Int × Int) × (Int × Int) := ((r.1.1, r.1.2.1, r.1.2.2.2.2.2.2.2.2.1), (r.1.2.2.2.2.2.2.2.2.2.1, r.1.2.2.2.2.2.2.2.2.2.2.1))
def back_slices_BinarySearchFunc_impl_Session_impl_Session_int64_w_impl_Machine_session_c1_0 (c : (Sl S_impl_Session) × Int × Int) (w : Int × Int) : St RT den := ⟨[(.rs c.1.z .impl_Session c.1.n c.1.f), (.int .i64 c.2.1), (.fn 107 []), .dead, .dead, .dead, .dead, .dead, (.int .i64 c.2.2), (.int .i64 w.1), (.int .i64 w.2), .dead, .dead, .dead, .dead, .dead, .dead, .dead, .dead, .dead, .dead, .dead, .dead, .dead, .dead, .dead, .dead, .dead, .dead, .dead, .dead, .dead, .dead, .dead, .dead, .dead, .dead, .dead, .dead, .dead, .dead, .dead, .dead, .dead, .dead, .dead, .dead, .dead, .dead], []⟩
def Bk_slices_BinarySearchFunc_impl_Session_impl_Session_int64_w_impl_Machine_session_c1_0 {ρ : Type} (fu : Nat) (c : (Sl S_impl_Session) × Int × Int) (k : Ex → St RT den → Option ρ) (w : Int × Int) (go : (Int × Int) → Option ρ) : Option ρ := F_slices_BinarySearchFunc_impl_Session_impl_Session_int64_w_impl_Machine_session_c1_B0 fu c.1 c.2.1 c.2.2 (fun a0 => k (.exit 0) ⟨[(.rs c.1.z .impl_Session c.1.n c.1.f), (.int .i64 c.2.1), (.fn 107 []), .dead, .dead, .dead, .dead, .dead, (.int .i64 c.2.2), (.int .i64 a0), .dead, .dead, .dead, .dead, .dead, .dead, .dead, .dead, .dead, .dead, .dead, .dead, .dead, .dead, .dead, .dead, .dead, .dead, .dead, .dead, .dead, .dead, .dead, .dead, .dead, .dead, .dead, .dead, .dead, .dead, .dead, .dead, .dead, .dead, .dead, .dead, .dead, .dead, .dead], []⟩) w.1 w.2 (fun q0 q1 => go (q0, q1))
def lp_slices_BinarySearchFunc_impl_Session_impl_Session_int64_w_impl_Machine_session_c1 (fu : Nat) : Lp RT den (Int × Bool) := fun b s k => match b with | 0 => handle ps_slices_BinarySearchFunc_impl_Session_impl_Session_int64_w_impl_Machine_session_c1_0 os_slices_BinarySearchFunc_impl_Session_impl_Session_int64_w_impl_Machine_session_c1_0 conv_slices_BinarySearchFunc_impl_Session_impl_Session_int64_w_impl_Machine_session_c1_0 (Bk_slices_BinarySearchFunc_impl_Session_impl_Session_int64_w_impl_Machine_session_c1_0 fu) fu s k | _ => none
theorem ev_slices_BinarySearchFunc_impl_Session_impl_Session_int64_w_impl_Machine_session_c1 (fu : Nat) (x_0 : (Sl S_impl_Session)) (target_1 : Int) : evFun E (pc_slices_BinarySearchFunc_impl_Session_impl_Session_int64_w_impl_Machine_session_c1 fu) msk_slices_BinarySearchFunc_impl_Session_impl_Session_int64_w_impl_Machine_session_c1 (lp_slices_BinarySearchFunc_impl_Session_impl_Session_int64_w_impl_Machine_session_c1 fu) out_i64_bo 106 [(.rs x_0.z .impl_Session x_0.n x_0.f), (.int .i64 target_1), (.fn 107 [])] = F_slices_BinarySearchFunc_impl_Session_impl_Session_int64_w_impl_Machine_session_c1 fu x_0 target_1 := by kernel_rfl
noncomputable def body_slices_BinarySearchFunc_impl_Session_impl_Session_int64_w_impl_Machine_session_c1 : Code := Try.f106.body.getD .skip
noncomputable def lc_slices_BinarySearchFunc_impl_Session_impl_Session_int64_w_impl_Machine_session_c1_0 : Code := ((loops 0 body_slices_BinarySearchFunc_impl_Session_impl_Session_int64_w_impl_Machine_session_c1).getD 0 (0, .skip)).2
theorem round_slices_BinarySearchFunc_impl_Session_impl_Session_int64_w_impl_Machine_session_c1_0 (fu : Nat) (it : St RT den → Option (Int × Bool)) (k : Ex → St RT den → Option (Int × Bool)) c w : evCode E (pc_slices_BinarySearchFunc_impl_Session_impl_Session_int64_w_impl_Machine_session_c1 fu) msk_slices_BinarySearchFunc_impl_Session_impl_Session_int64_w_impl_Machine_session_c1 (lp_slices_BinarySearchFunc_impl_Session_impl_Session_int64_w_impl_Machine_session_c1 fu) 0 lc_slices_BinarySearchFunc_impl_Session_impl_Session_int64_w_impl_Machine_session_c1_0 (back_slices_BinarySearchFunc_impl_Session_impl_Session_int64_w_impl_Machine_session_c1_0 c w) (after (msk_slices_BinarySearchFunc_impl_Session_impl_Session_int64_w_impl_Machine_session_c1 0) (msk_slices_BinarySearchFunc_impl_Session_impl_Session_int64_w_impl_Machine_session_c1 100000) 0 it k) = Bk_slices_BinarySearchFunc_impl_Session_impl_Session_int64_w_impl_Machine_session_c1_0 fu c k w (fun w => it (back_slices_BinarySearchFunc_impl_Session_impl_Session_int64_w_impl_Machine_session_c1_0 c w)) := by kernel_rfl
theorem lpok_slices_BinarySearchFunc_impl_Session_impl_Session_int64_w_impl_Machine_session_c1_0 (fu : Nat) : ∀ s k r, lp_slices_BinarySearchFunc_impl_Session_impl_Session_int64_w_impl_Machine_session_c1 fu 0 s k = some r → ∃ fuel, iter (msk_slices_BinarySearchFunc_impl_Session_impl_Session_int64_w_impl_Machine_session_c1 0) (msk_slices_BinarySearchFunc_impl_Session_impl_Session_int64_w_impl_Machine_session_c1 100000) s.objs.length (evCode E (pc_slices_BinarySearchFunc_impl_Session_impl_Session_int64_w_impl_Machine_session_c1 fu) msk_slices_BinarySearchFunc_impl_Session_impl_Session_int64_w_impl_Machine_session_c1 (lp_slices_BinarySearchFunc_impl_Session_impl_Session_int64_w_impl_Machine_session_c1 fu) 0 lc_slices_BinarySearchFunc_impl_Session_impl_Session_int64_w_impl_Machine_session_c1_0) fuel s k = some r :=
  handle_ok (ps := ps_slices_BinarySearchFunc_impl_Session_impl_Session_int64_w_impl_Machine_session_c1_0) (os := os_slices_BinarySearchFunc_impl_Session_impl_Session_int64_w_impl_Machine_session_c1_0) (conv := conv_slices_BinarySearchFunc_impl_Session_impl_Session_int64_w_impl_Machine_session_c1_0) (B := Bk_slices_BinarySearchFunc_impl_Session_impl_Session_int64_w_impl_Machine_session_c1_0 fu) (fu := fu) back_slices_BinarySearchFunc_impl_Session_impl_Session_int64_w_impl_Machine_session_c1_0 (fun raw => by kernel_rfl) 0 (fun c w => by kernel_rfl) (round_slices_BinarySearchFunc_impl_Session_impl_Session_int64_w_impl_Machine_session_c1_0 fu)
theorem lpok_slices_BinarySearchFunc_impl_Session_impl_Session_int64_w_impl_Machine_session_c1 (fu : Nat) : LpOk E (pc_slices_BinarySearchFunc_impl_Session_impl_Session_int64_w_impl_Machine_session_c1 fu) msk_slices_BinarySearchFunc_impl_Session_impl_Session_int64_w_impl_Machine_session_c1 (lp_slices_BinarySearchFunc_impl_Session_impl_Session_int64_w_impl_Machine_session_c1 fu) (loops 0 body_slices_BinarySearchFunc_impl_Session_impl_Session_int64_w_impl_Machine_session_c1) := loop_all 1 (by kernel_rfl) fun i hi => match i, hi with
  | 0, _ => by
    have h : (loops 0 body_slices_BinarySearchFunc_impl_Session_impl_Session_int64_w_impl_Machine_session_c1).getD 0 (0, .skip) = (0, lc_slices_BinarySearchFunc_impl_Session_impl_Session_int64_w_impl_Machine_session_c1_0) := by kernel_rfl
    rw [h]; exact lpok_slices_BinarySearchFunc_impl_Session_impl_Session_int64_w_impl_Machine_session_c1_0 fu
  | i + 1, hi => absurd hi (by omega)
def S_slices_BinarySearchFunc_impl_Session_impl_Session_int64_w_impl_Machine_session_c1 (fu : Nat) (xs : List (D RT den)) : Option (Out RT den) := match xs with | [.rs za0_0 .impl_Session na0_0 fa0_0, .int .i64 a1_0, .fn 107 []] => some ⟨Int × Bool, F_slices_BinarySearchFunc_impl_Session_impl_Session_int64_w_impl_Machine_session_c1 fu (⟨za0_0, na0_0, fa0_0⟩ : (Sl S_impl_Session)) a1_0, enc_i64_bo, fun _ => true⟩ | _ => none
theorem hpc_slices_BinarySearchFunc_impl_Session_impl_Session_int64_w_impl_Machine_session_c1 (fu : Nat) : ∀ f xs o, pc_slices_BinarySearchFunc_impl_Session_impl_Session_int64_w_impl_Machine_session_c1 fu f xs = some o → ∀ y, o.x = some y → Good E Try.prog f xs (o.g y) := by
  intro f xs o h
  unfold pc_slices_BinarySearchFunc_impl_Session_impl_Session_int64_w_impl_Machine_session_c1 at h
  split at h
  · exact good_impl_Machine_session_c1 fu xs o h
  · cases h
theorem goodv_slices_BinarySearchFunc_impl_Session_impl_Session_int64_w_impl_Machine_session_c1 (fu : Nat) (x_0 : (Sl S_impl_Session)) (target_1 : Int) (y : Int × Bool) (hy : F_slices_BinarySearchFunc_impl_Session_impl_Session_int64_w_impl_Machine_session_c1 fu x_0 target_1 = some y) : Good E Try.prog 106 [(.rs x_0.z .impl_Session x_0.n x_0.f), (.int .i64 target_1), (.fn 107 [])] (enc_i64_bo y) :=
  fun_good E_ok (pc_good (hpc_slices_BinarySearchFunc_impl_Session_impl_Session_int64_w_impl_Machine_session_c1 fu)) (fn := Try.f106) (c := body_slices_BinarySearchFunc_impl_Session_impl_Session_int64_w_impl_Machine_session_c1) (out := out_i64_bo) (y := y) (by kernel_rfl) (by kernel_rfl) (by kernel_rfl) (lpok_slices_BinarySearchFunc_impl_Session_impl_Session_int64_w_impl_Machine_session_c1 fu) (fun d hd => out_i64_bo_enc d _ hd) ((ev_slices_BinarySearchFunc_impl_Session_impl_Session_int64_w_impl_Machine_session_c1 fu x_0 target_1).trans hy)
theorem good_slices_BinarySearchFunc_impl_Session_impl_Session_int64_w_impl_Machine_session_c1 (fu : Nat) : ∀ xs o, S_slices_BinarySearchFunc_impl_Session_impl_Session_int64_w_impl_Machine_session_c1 fu xs = some o → ∀ y, o.x = some y → Good E Try.prog 106 xs (o.g y) := by
  intro xs o h y hy
  unfold S_slices_BinarySearchFunc_impl_Session_impl_Session_int64_w_impl_Machine_session_c1 at h
  split at h
  · rename_i za0_0 na0_0 fa0_0 a1_0
    cases h
    exact goodv_slices_BinarySearchFunc_impl_Session_impl_Session_int64_w_impl_Machine_session_c1 fu (⟨za0_0, na0_0, fa0_0⟩ : (Sl S_impl_Session)) a1_0 y hy
  · cases h

/-! (*impl.Machine).session -/
def F_impl_Machine_session (fu : Nat) (m_0 : S_impl_Machine) (client_1 : Int) : Option (Int × Bool) :=
  ((F_slices_BinarySearchFunc_impl_Session_impl_Session_int64_w_impl_Machine_session_c1 fu m_0.Sessions client_1).bind fun y268 => (some (y268.1, y268.2)))
def pc_impl_Machine_session (fu : Nat) : Pc RT den := fun f xs => match f with | 106 => S_slices_BinarySearchFunc_impl_Session_impl_Session_int64_w_impl_Machine_session_c1 fu xs | _ => none
def msk_impl_Machine_session (b : Nat) : List Nat := []
def lp_impl_Machine_session (fu : Nat) : Lp RT den (Int × Bool) := fun b s k => none
theorem ev_impl_Machine_session (fu : Nat) (m_0 : S_impl_Machine) (client_1 : Int) : evFun E (pc_impl_Machine_session fu) msk_impl_Machine_session (lp_impl_Machine_session fu) out_i64_bo 52 [(.rptr [(.int .i64 m_0.Config.Version), (.rs m_0.Config.Backends.z .impl_Backend m_0.Config.Backends.n m_0.Config.Backends.f), (.rs m_0.Config.Vips.z .impl_Vip m_0.Config.Vips.n m_0.Config.Vips.f), (.rs m_0.Sessions.z .impl_Session m_0.Sessions.n m_0.Sessions.f)]), (.int .i64 client_1)] = F_impl_Machine_session fu m_0 client_1 := by kernel_rfl
noncomputable def body_impl_Machine_session : Code := Try.f52.body.getD .skip
theorem lpok_impl_Machine_session (fu : Nat) : LpOk E (pc_impl_Machine_session fu) msk_impl_Machine_session (lp_impl_Machine_session fu) (loops 0 body_impl_Machine_session) := by
  have h : loops 0 body_impl_Machine_session = [] := by kernel_rfl
  rw [h]; intro p hp; cases hp
def S_impl_Machine_session (fu : Nat) (xs : List (D RT den)) : Option (Out RT den) := match xs with | [.rptr (.int .i64 a0_2 :: .rs za0_3 .impl_Backend na0_3 fa0_3 :: .rs za0_4 .impl_Vip na0_4 fa0_4 :: .rs za0_5 .impl_Session na0_5 fa0_5 :: ra0), .int .i64 a1_0] => some ⟨Int × Bool, F_impl_Machine_session fu (⟨(⟨a0_2, (⟨za0_3, na0_3, fa0_3⟩ : (Sl S_impl_Backend)), (⟨za0_4, na0_4, fa0_4⟩ : (Sl S_impl_Vip))⟩ : S_impl_Config), (⟨za0_5, na0_5, fa0_5⟩ : (Sl S_impl_Session))⟩ : S_impl_Machine) a1_0, enc_i64_bo, fun _ => true⟩ | _ => none
theorem hpc_impl_Machine_session (fu : Nat) : ∀ f xs o, pc_impl_Machine_session fu f xs = some o → ∀ y, o.x = some y → Good E Try.prog f xs (o.g y) := by
  intro f xs o h
  unfold pc_impl_Machine_session at h
  split at h
  · exact good_slices_BinarySearchFunc_impl_Session_impl_Session_int64_w_impl_Machine_session_c1 fu xs o h
  · cases h
theorem goodv_impl_Machine_session (fu : Nat) (m_0 : S_impl_Machine) (client_1 : Int) (y : Int × Bool) (hy : F_impl_Machine_session fu m_0 client_1 = some y) : Good E Try.prog 52 [(.rptr [(.int .i64 m_0.Config.Version), (.rs m_0.Config.Backends.z .impl_Backend m_0.Config.Backends.n m_0.Config.Backends.f), (.rs m_0.Config.Vips.z .impl_Vip m_0.Config.Vips.n m_0.Config.Vips.f), (.rs m_0.Sessions.z .impl_Session m_0.Sessions.n m_0.Sessions.f)]), (.int .i64 client_1)] (enc_i64_bo y) :=
  fun_good E_ok (pc_good (hpc_impl_Machine_session fu)) (fn := Try.f52) (c := body_impl_Machine_session) (out := out_i64_bo) (y := y) (by kernel_rfl) (by kernel_rfl) (by kernel_rfl) (lpok_impl_Machine_session fu) (fun d hd => out_i64_bo_enc d _ hd) ((ev_impl_Machine_session fu m_0 client_1).trans hy)
theorem good_impl_Machine_session (fu : Nat) : ∀ xs o, S_impl_Machine_session fu xs = some o → ∀ y, o.x = some y → Good E Try.prog 52 xs (o.g y) := by
  intro xs o h y hy
  unfold S_impl_Machine_session at h
  split at h
  · rename_i a0_2 za0_3 na0_3 fa0_3 za0_4 na0_4 fa0_4 za0_5 na0_5 fa0_5 ra0 a1_0
    cases h
    exact (goodv_impl_Machine_session fu (⟨(⟨a0_2, (⟨za0_3, na0_3, fa0_3⟩ : (Sl S_impl_Backend)), (⟨za0_4, na0_4, fa0_4⟩ : (Sl S_impl_Vip))⟩ : S_impl_Config), (⟨za0_5, na0_5, fa0_5⟩ : (Sl S_impl_Session))⟩ : S_impl_Machine) a1_0 y hy).sub ⟨Sub.of_eq ra0 rfl, .refl _, trivial⟩
  · cases h

/-! impl.ReplyOf -/
def F_impl_ReplyOf (fu : Nat) (m_0 : S_impl_Machine) (client_1 : Int) (seq_2 : Int) : Option (S_impl_IntResult) :=
  ((F_impl_MachineFault fu m_0).bind fun y265 => (bif (y265 != 0) then (some (⟨y265, 0⟩ : S_impl_IntResult)) else ((F_impl_Machine_session fu m_0 client_1).bind fun y266 => (((bif (!y266.2) then
    (some true) else ((bif (decide (0 ≤ y266.1) && decide ((Int.toNat y266.1) < m_0.Sessions.n)) then some () else none : Option Unit).bind fun _ => (some (decide ((m_0.Sessions.f (Int.toNat y266.1)).Seq < seq_2))))) : Option Bool).bind fun m267 =>
    (bif m267 then (some (⟨4, 0⟩ : S_impl_IntResult)) else ((bif (decide (0 ≤ y266.1) && decide ((Int.toNat y266.1) < m_0.Sessions.n)) then some () else none : Option Unit).bind fun _ =>
    (bif (decide ((m_0.Sessions.f (Int.toNat y266.1)).Seq > seq_2)) then (some (⟨9, 0⟩ : S_impl_IntResult)) else ((bif (decide (0 ≤ y266.1) && decide ((Int.toNat y266.1) < m_0.Sessions.n)) then
    some () else none : Option Unit).bind fun _ => (some (⟨0, (m_0.Sessions.f (Int.toNat y266.1)).Code⟩ : S_impl_IntResult))))))))))
def pc_impl_ReplyOf (fu : Nat) : Pc RT den := fun f xs => match f with | 12 => S_impl_MachineFault fu xs | 52 => S_impl_Machine_session fu xs | _ => none
def msk_impl_ReplyOf (b : Nat) : List Nat := match b with | 200005 => [21] | _ => []
def lp_impl_ReplyOf (fu : Nat) : Lp RT den (S_impl_IntResult) := fun b s k => none
theorem ev_impl_ReplyOf (fu : Nat) (m_0 : S_impl_Machine) (client_1 : Int) (seq_2 : Int) : evFun E (pc_impl_ReplyOf fu) msk_impl_ReplyOf (lp_impl_ReplyOf fu) out_impl_IntResult 15 [(.agg [(.int .i64 m_0.Config.Version), (.rs m_0.Config.Backends.z .impl_Backend m_0.Config.Backends.n m_0.Config.Backends.f), (.rs m_0.Config.Vips.z .impl_Vip m_0.Config.Vips.n m_0.Config.Vips.f), (.rs m_0.Sessions.z .impl_Session m_0.Sessions.n m_0.Sessions.f)]), (.int .i64 client_1), (.int .i64 seq_2)] = F_impl_ReplyOf fu m_0 client_1 seq_2 := by kernel_rfl
noncomputable def body_impl_ReplyOf : Code := Try.f15.body.getD .skip
theorem lpok_impl_ReplyOf (fu : Nat) : LpOk E (pc_impl_ReplyOf fu) msk_impl_ReplyOf (lp_impl_ReplyOf fu) (loops 0 body_impl_ReplyOf) := by
  have h : loops 0 body_impl_ReplyOf = [] := by kernel_rfl
  rw [h]; intro p hp; cases hp
def S_impl_ReplyOf (fu : Nat) (xs : List (D RT den)) : Option (Out RT den) := match xs with | [.agg [.int .i64 a0_2, .rs za0_3 .impl_Backend na0_3 fa0_3, .rs za0_4 .impl_Vip na0_4 fa0_4, .rs za0_5 .impl_Session na0_5 fa0_5], .int .i64 a1_0, .int .i64 a2_0] => some ⟨S_impl_IntResult, F_impl_ReplyOf fu (⟨(⟨a0_2, (⟨za0_3, na0_3, fa0_3⟩ : (Sl S_impl_Backend)), (⟨za0_4, na0_4, fa0_4⟩ : (Sl S_impl_Vip))⟩ : S_impl_Config), (⟨za0_5, na0_5, fa0_5⟩ : (Sl S_impl_Session))⟩ : S_impl_Machine) a1_0 a2_0, enc_impl_IntResult, fun _ => true⟩ | _ => none
theorem hpc_impl_ReplyOf (fu : Nat) : ∀ f xs o, pc_impl_ReplyOf fu f xs = some o → ∀ y, o.x = some y → Good E Try.prog f xs (o.g y) := by
  intro f xs o h
  unfold pc_impl_ReplyOf at h
  split at h
  · exact good_impl_MachineFault fu xs o h
  · exact good_impl_Machine_session fu xs o h
  · cases h
theorem goodv_impl_ReplyOf (fu : Nat) (m_0 : S_impl_Machine) (client_1 : Int) (seq_2 : Int) (y : S_impl_IntResult) (hy : F_impl_ReplyOf fu m_0 client_1 seq_2 = some y) : Good E Try.prog 15 [(.agg [(.int .i64 m_0.Config.Version), (.rs m_0.Config.Backends.z .impl_Backend m_0.Config.Backends.n m_0.Config.Backends.f), (.rs m_0.Config.Vips.z .impl_Vip m_0.Config.Vips.n m_0.Config.Vips.f), (.rs m_0.Sessions.z .impl_Session m_0.Sessions.n m_0.Sessions.f)]), (.int .i64 client_1), (.int .i64 seq_2)] (enc_impl_IntResult y) :=
  fun_good E_ok (pc_good (hpc_impl_ReplyOf fu)) (fn := Try.f15) (c := body_impl_ReplyOf) (out := out_impl_IntResult) (y := y) (by kernel_rfl) (by kernel_rfl) (by kernel_rfl) (lpok_impl_ReplyOf fu) (fun d hd => out_impl_IntResult_enc d _ hd) ((ev_impl_ReplyOf fu m_0 client_1 seq_2).trans hy)
theorem good_impl_ReplyOf (fu : Nat) : ∀ xs o, S_impl_ReplyOf fu xs = some o → ∀ y, o.x = some y → Good E Try.prog 15 xs (o.g y) := by
  intro xs o h y hy
  unfold S_impl_ReplyOf at h
  split at h
  · rename_i a0_2 za0_3 na0_3 fa0_3 za0_4 na0_4 fa0_4 za0_5 na0_5 fa0_5 a1_0 a2_0
    cases h
    exact goodv_impl_ReplyOf fu (⟨(⟨a0_2, (⟨za0_3, na0_3, fa0_3⟩ : (Sl S_impl_Backend)), (⟨za0_4, na0_4, fa0_4⟩ : (Sl S_impl_Vip))⟩ : S_impl_Config), (⟨za0_5, na0_5, fa0_5⟩ : (Sl S_impl_Session))⟩ : S_impl_Machine) a1_0 a2_0 y hy
  · cases h

/-! laws.eqIntResult -/
def F_laws_eqIntResult (fu : Nat) (a_0 : S_impl_IntResult) (b_1 : S_impl_IntResult) : Option (Bool) :=
  (bif (a_0.Code != b_1.Code) then (some false) else (bif (a_0.Value != b_1.Value) then (some false) else (some true)))
def pc_laws_eqIntResult (fu : Nat) : Pc RT den := fun f xs => none
def msk_laws_eqIntResult (b : Nat) : List Nat := []
def lp_laws_eqIntResult (fu : Nat) : Lp RT den (Bool) := fun b s k => none
theorem ev_laws_eqIntResult (fu : Nat) (a_0 : S_impl_IntResult) (b_1 : S_impl_IntResult) : evFun E (pc_laws_eqIntResult fu) msk_laws_eqIntResult (lp_laws_eqIntResult fu) out_bo 16 [(.agg [(.int .i64 a_0.Code), (.int .i64 a_0.Value)]), (.agg [(.int .i64 b_1.Code), (.int .i64 b_1.Value)])] = F_laws_eqIntResult fu a_0 b_1 := by kernel_rfl
noncomputable def body_laws_eqIntResult : Code := Try.f16.body.getD .skip
theorem lpok_laws_eqIntResult (fu : Nat) : LpOk E (pc_laws_eqIntResult fu) msk_laws_eqIntResult (lp_laws_eqIntResult fu) (loops 0 body_laws_eqIntResult) := by
  have h : loops 0 body_laws_eqIntResult = [] := by kernel_rfl
  rw [h]; intro p hp; cases hp
def S_laws_eqIntResult (fu : Nat) (xs : List (D RT den)) : Option (Out RT den) := match xs with | [.agg [.int .i64 a0_1, .int .i64 a0_2], .agg [.int .i64 a1_1, .int .i64 a1_2]] => some ⟨Bool, F_laws_eqIntResult fu (⟨a0_1, a0_2⟩ : S_impl_IntResult) (⟨a1_1, a1_2⟩ : S_impl_IntResult), enc_bo, fun _ => true⟩ | _ => none
theorem hpc_laws_eqIntResult (fu : Nat) : ∀ f xs o, pc_laws_eqIntResult fu f xs = some o → ∀ y, o.x = some y → Good E Try.prog f xs (o.g y) := by
  intro f xs o h
  cases h
theorem goodv_laws_eqIntResult (fu : Nat) (a_0 : S_impl_IntResult) (b_1 : S_impl_IntResult) (y : Bool) (hy : F_laws_eqIntResult fu a_0 b_1 = some y) : Good E Try.prog 16 [(.agg [(.int .i64 a_0.Code), (.int .i64 a_0.Value)]), (.agg [(.int .i64 b_1.Code), (.int .i64 b_1.Value)])] (enc_bo y) :=
  fun_good E_ok (pc_good (hpc_laws_eqIntResult fu)) (fn := Try.f16) (c := body_laws_eqIntResult) (out := out_bo) (y := y) (by kernel_rfl) (by kernel_rfl) (by kernel_rfl) (lpok_laws_eqIntResult fu) (fun d hd => out_bo_enc d _ hd) ((ev_laws_eqIntResult fu a_0 b_1).trans hy)
theorem good_laws_eqIntResult (fu : Nat) : ∀ xs o, S_laws_eqIntResult fu xs = some o → ∀ y, o.x = some y → Good E Try.prog 16 xs (o.g y) := by
  intro xs o h y hy
  unfold S_laws_eqIntResult at h
  split at h
  · rename_i a0_1 a0_2 a1_1 a1_2
    cases h
    exact goodv_laws_eqIntResult fu (⟨a0_1, a0_2⟩ : S_impl_IntResult) (⟨a1_1, a1_2⟩ : S_impl_IntResult) y hy
  · cases h

/-! laws.FnExactReplyOf -/
def F_laws_FnExactReplyOf (fu : Nat) (aM_0 : S_laws_Machine) (aClient_1 : Int) (aSeq_2 : Int) : Option (Bool) :=
  ((F_laws_szMachine fu aM_0 1048576).bind fun y253 => (bif (decide (y253 < 0)) then (some true) else ((F_laws_toMachine fu aM_0).bind fun y254 => ((F_spec_ReplyOf fu y254 aClient_1 aSeq_2).bind fun y255 =>
    ((F_laws_toMachine fu aM_0).bind fun y256 => ((F_impl_ReplyOf fu y256 aClient_1 aSeq_2).bind fun y257 => ((F_laws_eqIntResult fu y257 y255).bind fun y258 => (bif (!y258) then
    (some false) else ((F_laws_toMachine fu aM_0).bind fun y259 => ((F_laws_eqMachine fu y256 y259).bind fun y260 => (bif (!y260) then (some false) else (some true))))))))))))
def pc_laws_FnExactReplyOf (fu : Nat) : Pc RT den := fun f xs => match f with | 9 => S_laws_szMachine fu xs | 11 => S_laws_toMachine fu xs | 13 => S_laws_eqMachine fu xs | 14 => S_spec_ReplyOf fu xs | 15 => S_impl_ReplyOf fu xs | 16 => S_laws_eqIntResult fu xs | _ => none
def msk_laws_FnExactReplyOf (b : Nat) : List Nat := []
def lp_laws_FnExactReplyOf (fu : Nat) : Lp RT den (Bool) := fun b s k => none
theorem ev_laws_FnExactReplyOf (fu : Nat) (aM_0 : S_laws_Machine) (aClient_1 : Int) (aSeq_2 : Int) : evFun E (pc_laws_FnExactReplyOf fu) msk_laws_FnExactReplyOf (lp_laws_FnExactReplyOf fu) out_bo 4 [(.agg [(.int .i64 aM_0.Config.Version), (.rs aM_0.Config.Backends.z .impl_Backend aM_0.Config.Backends.n aM_0.Config.Backends.f), (.rs aM_0.Config.Vips.z .impl_Vip aM_0.Config.Vips.n aM_0.Config.Vips.f), (.rs aM_0.Sessions.z .impl_Session aM_0.Sessions.n aM_0.Sessions.f)]), (.int .i64 aClient_1), (.int .i64 aSeq_2)] = F_laws_FnExactReplyOf fu aM_0 aClient_1 aSeq_2 := by kernel_rfl
noncomputable def body_laws_FnExactReplyOf : Code := Try.f4.body.getD .skip
theorem lpok_laws_FnExactReplyOf (fu : Nat) : LpOk E (pc_laws_FnExactReplyOf fu) msk_laws_FnExactReplyOf (lp_laws_FnExactReplyOf fu) (loops 0 body_laws_FnExactReplyOf) := by
  have h : loops 0 body_laws_FnExactReplyOf = [] := by kernel_rfl
  rw [h]; intro p hp; cases hp
def S_laws_FnExactReplyOf (fu : Nat) (xs : List (D RT den)) : Option (Out RT den) := match xs with | [.agg [.int .i64 a0_2, .rs za0_3 .impl_Backend na0_3 fa0_3, .rs za0_4 .impl_Vip na0_4 fa0_4, .rs za0_5 .impl_Session na0_5 fa0_5], .int .i64 a1_0, .int .i64 a2_0] => some ⟨Bool, F_laws_FnExactReplyOf fu (⟨(⟨a0_2, (⟨za0_3, na0_3, fa0_3⟩ : (Sl S_impl_Backend)), (⟨za0_4, na0_4, fa0_4⟩ : (Sl S_impl_Vip))⟩ : S_laws_Config), (⟨za0_5, na0_5, fa0_5⟩ : (Sl S_impl_Session))⟩ : S_laws_Machine) a1_0 a2_0, enc_bo, fun _ => true⟩ | _ => none
theorem hpc_laws_FnExactReplyOf (fu : Nat) : ∀ f xs o, pc_laws_FnExactReplyOf fu f xs = some o → ∀ y, o.x = some y → Good E Try.prog f xs (o.g y) := by
  intro f xs o h
  unfold pc_laws_FnExactReplyOf at h
  split at h
  · exact good_laws_szMachine fu xs o h
  · exact good_laws_toMachine fu xs o h
  · exact good_laws_eqMachine fu xs o h
  · exact good_spec_ReplyOf fu xs o h
  · exact good_impl_ReplyOf fu xs o h
  · exact good_laws_eqIntResult fu xs o h
  · cases h
theorem goodv_laws_FnExactReplyOf (fu : Nat) (aM_0 : S_laws_Machine) (aClient_1 : Int) (aSeq_2 : Int) (y : Bool) (hy : F_laws_FnExactReplyOf fu aM_0 aClient_1 aSeq_2 = some y) : Good E Try.prog 4 [(.agg [(.int .i64 aM_0.Config.Version), (.rs aM_0.Config.Backends.z .impl_Backend aM_0.Config.Backends.n aM_0.Config.Backends.f), (.rs aM_0.Config.Vips.z .impl_Vip aM_0.Config.Vips.n aM_0.Config.Vips.f), (.rs aM_0.Sessions.z .impl_Session aM_0.Sessions.n aM_0.Sessions.f)]), (.int .i64 aClient_1), (.int .i64 aSeq_2)] (enc_bo y) :=
  fun_good E_ok (pc_good (hpc_laws_FnExactReplyOf fu)) (fn := Try.f4) (c := body_laws_FnExactReplyOf) (out := out_bo) (y := y) (by kernel_rfl) (by kernel_rfl) (by kernel_rfl) (lpok_laws_FnExactReplyOf fu) (fun d hd => out_bo_enc d _ hd) ((ev_laws_FnExactReplyOf fu aM_0 aClient_1 aSeq_2).trans hy)
theorem good_laws_FnExactReplyOf (fu : Nat) : ∀ xs o, S_laws_FnExactReplyOf fu xs = some o → ∀ y, o.x = some y → Good E Try.prog 4 xs (o.g y) := by
  intro xs o h y hy
  unfold S_laws_FnExactReplyOf at h
  split at h
  · rename_i a0_2 za0_3 na0_3 fa0_3 za0_4 na0_4 fa0_4 za0_5 na0_5 fa0_5 a1_0 a2_0
    cases h
    exact goodv_laws_FnExactReplyOf fu (⟨(⟨a0_2, (⟨za0_3, na0_3, fa0_3⟩ : (Sl S_impl_Backend)), (⟨za0_4, na0_4, fa0_4⟩ : (Sl S_impl_Vip))⟩ : S_laws_Config), (⟨za0_5, na0_5, fa0_5⟩ : (Sl S_impl_Session))⟩ : S_laws_Machine) a1_0 a2_0 y hy
  · cases h
end Go.Proofs.Ythbimpgiafhfoaa.Pc
