/- The functions' evaluated forms, each a proved summary. Conditions: none. -/
import Derived.Test.YtmnbmponjhglcaaPcF2
namespace Go.Proofs.Ytmnbmponjhglcaa.Pc
open Go Go.RowKit Go.Proofs Vm
set_option linter.unusedVariables false
set_option linter.unusedSimpArgs false
set_option maxRecDepth 100000
/-! impl.CmdFault -/
def F_impl_CmdFault (fu : Nat) (x_0 : S_impl_Cmd) : Option (Int) :=
  ((F_impl_in fu x_0.Kind 1 9).bind fun y312 => (bif (!y312) then (some 1) else ((F_impl_needs fu x_0.Kind).bind fun y313 => ((((F_impl_in fu x_0.Expect (-1) 1000000).bind fun y314 =>
    (bif (!y314) then (some true) else (bif y313.1 then ((F_impl_isName fu x_0.Name).bind fun y315 => (bif (!y315) then (some true) else (bif y313.2.1 then ((F_impl_isAddress fu x_0.Addr).bind fun y316 =>
    (bif (!y316) then (some true) else (bif y313.2.2.1 then ((F_impl_isNumber fu x_0).bind fun y317 => (bif (!y317) then (some true) else (bif y313.2.2.2 then ((F_impl_isProto fu x_0.Proto).bind fun y318 =>
    (some (!y318))) else (some false)))) else (bif y313.2.2.2 then ((F_impl_isProto fu x_0.Proto).bind fun y319 => (some (!y319))) else (some false))))) else (bif y313.2.2.1 then
    ((F_impl_isNumber fu x_0).bind fun y320 => (bif (!y320) then (some true) else (bif y313.2.2.2 then ((F_impl_isProto fu x_0.Proto).bind fun y321 => (some (!y321))) else (some false)))) else
    (bif y313.2.2.2 then ((F_impl_isProto fu x_0.Proto).bind fun y322 => (some (!y322))) else (some false)))))) else (bif y313.2.1 then ((F_impl_isAddress fu x_0.Addr).bind fun y323 =>
    (bif (!y323) then (some true) else (bif y313.2.2.1 then ((F_impl_isNumber fu x_0).bind fun y324 => (bif (!y324) then (some true) else (bif y313.2.2.2 then ((F_impl_isProto fu x_0.Proto).bind fun y325 =>
    (some (!y325))) else (some false)))) else (bif y313.2.2.2 then ((F_impl_isProto fu x_0.Proto).bind fun y326 => (some (!y326))) else (some false))))) else (bif y313.2.2.1 then
    ((F_impl_isNumber fu x_0).bind fun y327 => (bif (!y327) then (some true) else (bif y313.2.2.2 then ((F_impl_isProto fu x_0.Proto).bind fun y328 => (some (!y328))) else (some false)))) else
    (bif y313.2.2.2 then ((F_impl_isProto fu x_0.Proto).bind fun y329 => (some (!y329))) else (some false))))))) : Option Bool).bind fun m330 => (bif m330 then (some 3) else (((bif (!y313.1) then
    (bif (x_0.Name != 0) then (some true) else (bif (!y313.2.1) then (bif (x_0.Addr != 0) then (some true) else (bif (!y313.2.2.1) then (bif (x_0.Number != 0) then (some true) else
    (bif (!y313.2.2.2) then (some (x_0.Proto != 0)) else (some false))) else (bif (!y313.2.2.2) then (some (x_0.Proto != 0)) else (some false)))) else (bif (!y313.2.2.1) then (bif (x_0.Number != 0) then
    (some true) else (bif (!y313.2.2.2) then (some (x_0.Proto != 0)) else (some false))) else (bif (!y313.2.2.2) then (some (x_0.Proto != 0)) else (some false))))) else (bif (!y313.2.1) then
    (bif (x_0.Addr != 0) then (some true) else (bif (!y313.2.2.1) then (bif (x_0.Number != 0) then (some true) else (bif (!y313.2.2.2) then (some (x_0.Proto != 0)) else (some false))) else
    (bif (!y313.2.2.2) then (some (x_0.Proto != 0)) else (some false)))) else (bif (!y313.2.2.1) then (bif (x_0.Number != 0) then (some true) else (bif (!y313.2.2.2) then (some (x_0.Proto != 0)) else
    (some false))) else (bif (!y313.2.2.2) then (some (x_0.Proto != 0)) else (some false))))) : Option Bool).bind fun m331 => (bif m331 then (some 1) else (some 0))))))))
def pcf_b6 (fu : Nat) (f : Nat) (xs : List (D RT den)) : Option (Out RT den) := match f with | 72 => S_a37 fu xs | 93 => S_b2 fu xs | 133 => S_b5 fu xs | 136 => S_b1 fu xs | 197 => S_b0 fu xs | 198 => S_b4 fu xs | _ => none
def pc_b6 (fu : Nat) : Pc RT den := ⟨pcf_b6 fu, fun _ => false, fun _ => false, pcd0, pcx0⟩
def msk_b6 (b : Nat) : List Nat := match b with | 200004 => [19] | 200006 => [59] | _ => []
def lp_b6 (fu : Nat) : Lp RT den (Int) := fun b s k => none
theorem ev_b6 (fu : Nat) (x_0 : S_impl_Cmd) : evFun E (pc_b6 fu) msk_b6 (lp_b6 fu) out_i64 174 [(.agg [(.int .i64 x_0.Kind), (.int .i64 x_0.Expect), (.int .i64 x_0.Name), (.int .i64 x_0.Addr), (.int .i64 x_0.Number), (.int .i64 x_0.Proto)])] = F_impl_CmdFault fu x_0 := by kernel_rfl
noncomputable def body_b6 : Code := Try.f174.body.getD .skip
theorem lpok_b6 (fu : Nat) : LpOk E (pc_b6 fu) msk_b6 (lp_b6 fu) (loops 0 body_b6) := by
  have h : loops 0 body_b6 = [] := by kernel_rfl
  rw [h]; intro p hp; cases hp
def S_b6 (fu : Nat) (xs : List (D RT den)) : Option (Out RT den) := match xs with | [.agg [.int .i64 a0_1, .int .i64 a0_2, .int .i64 a0_3, .int .i64 a0_4, .int .i64 a0_5, .int .i64 a0_6]] => some ⟨Int, F_impl_CmdFault fu (⟨a0_1, a0_2, a0_3, a0_4, a0_5, a0_6⟩ : S_impl_Cmd), enc_i64, fun _ => true⟩ | _ => none
theorem hpc_b6 (fu : Nat) : ∀ f xs o, pcf_b6 fu f xs = some o → ∀ y, o.x = some y → Good E Try.prog f xs (o.g y) := by
  intro f xs o h
  unfold pcf_b6 at h
  split at h
  · exact good_a37 fu xs o h
  · exact good_b2 fu xs o h
  · exact good_b5 fu xs o h
  · exact good_b1 fu xs o h
  · exact good_b0 fu xs o h
  · exact good_b4 fu xs o h
  · cases h
theorem goodv_b6 (fu : Nat) (x_0 : S_impl_Cmd) (y : Int) (hy : F_impl_CmdFault fu x_0 = some y) : Good E Try.prog 174 [(.agg [(.int .i64 x_0.Kind), (.int .i64 x_0.Expect), (.int .i64 x_0.Name), (.int .i64 x_0.Addr), (.int .i64 x_0.Number), (.int .i64 x_0.Proto)])] (enc_i64 y) :=
  fun_good E_ok (pc_good (pc := pc_b6 fu) (hpc_b6 fu) hpx0) (fn := Try.f174) (c := body_b6) (out := out_i64) (y := y) (by kernel_rfl) (by kernel_rfl) (by kernel_rfl) (lpok_b6 fu) (fun d hd => out_i64_enc d _ hd) ((ev_b6 fu x_0).trans hy)
theorem good_b6 (fu : Nat) : ∀ xs o, S_b6 fu xs = some o → ∀ y, o.x = some y → Good E Try.prog 174 xs (o.g y) := by
  intro xs o h y hy
  unfold S_b6 at h
  split at h
  · rename_i a0_1 a0_2 a0_3 a0_4 a0_5 a0_6
    cases h
    exact goodv_b6 fu (⟨a0_1, a0_2, a0_3, a0_4, a0_5, a0_6⟩ : S_impl_Cmd) y hy
  · cases h

/-! impl.EntryFault -/
def F_impl_EntryFault (fu : Nat) (x_0 : S_impl_Entry) : Option (Int) :=
  ((((F_impl_in fu x_0.Term 1 100000).bind fun y307 => (bif (!y307) then (some true) else ((F_impl_in fu x_0.Client 0 999).bind fun y308 => (bif (!y308) then (some true) else
    ((F_impl_in fu x_0.Seq 0 1000000).bind fun y309 => (some (!y309))))))) : Option Bool).bind fun m310 => (bif m310 then (some 3) else (bif (!((x_0.Client == 0) == (x_0.Seq == 0))) then
    (some 1) else (bif (x_0.Client != 0) then ((F_impl_CmdFault fu x_0.Cmd).bind fun y311 => (some y311)) else (bif (!((x_0.Cmd.Kind == 0) && ((x_0.Cmd.Expect == 0) &&
    ((x_0.Cmd.Name == 0) && ((x_0.Cmd.Addr == 0) && ((x_0.Cmd.Number == 0) && ((x_0.Cmd.Proto == 0) && true))))))) then (some 1) else (some 0))))))
def pcf_b7 (fu : Nat) (f : Nat) (xs : List (D RT den)) : Option (Out RT den) := match f with | 72 => S_a37 fu xs | 174 => S_b6 fu xs | _ => none
def pc_b7 (fu : Nat) : Pc RT den := ⟨pcf_b7 fu, fun _ => false, fun _ => false, pcd0, pcx0⟩
def msk_b7 (b : Nat) : List Nat := match b with | 200001 => [3] | _ => []
def lp_b7 (fu : Nat) : Lp RT den (Int) := fun b s k => none
theorem ev_b7 (fu : Nat) (x_0 : S_impl_Entry) : evFun E (pc_b7 fu) msk_b7 (lp_b7 fu) out_i64 116 [(.agg [(.int .i64 x_0.Term), (.int .i64 x_0.Client), (.int .i64 x_0.Seq), (.int .i64 x_0.Cmd.Kind), (.int .i64 x_0.Cmd.Expect), (.int .i64 x_0.Cmd.Name), (.int .i64 x_0.Cmd.Addr), (.int .i64 x_0.Cmd.Number), (.int .i64 x_0.Cmd.Proto)])] = F_impl_EntryFault fu x_0 := by kernel_rfl
noncomputable def body_b7 : Code := Try.f116.body.getD .skip
theorem lpok_b7 (fu : Nat) : LpOk E (pc_b7 fu) msk_b7 (lp_b7 fu) (loops 0 body_b7) := by
  have h : loops 0 body_b7 = [] := by kernel_rfl
  rw [h]; intro p hp; cases hp
def S_b7 (fu : Nat) (xs : List (D RT den)) : Option (Out RT den) := match xs with | [.agg [.int .i64 a0_1, .int .i64 a0_2, .int .i64 a0_3, .int .i64 a0_5, .int .i64 a0_6, .int .i64 a0_7, .int .i64 a0_8, .int .i64 a0_9, .int .i64 a0_10]] => some ⟨Int, F_impl_EntryFault fu (⟨a0_1, a0_2, a0_3, (⟨a0_5, a0_6, a0_7, a0_8, a0_9, a0_10⟩ : S_impl_Cmd)⟩ : S_impl_Entry), enc_i64, fun _ => true⟩ | _ => none
theorem hpc_b7 (fu : Nat) : ∀ f xs o, pcf_b7 fu f xs = some o → ∀ y, o.x = some y → Good E Try.prog f xs (o.g y) := by
  intro f xs o h
  unfold pcf_b7 at h
  split at h
  · exact good_a37 fu xs o h
  · exact good_b6 fu xs o h
  · cases h
theorem goodv_b7 (fu : Nat) (x_0 : S_impl_Entry) (y : Int) (hy : F_impl_EntryFault fu x_0 = some y) : Good E Try.prog 116 [(.agg [(.int .i64 x_0.Term), (.int .i64 x_0.Client), (.int .i64 x_0.Seq), (.int .i64 x_0.Cmd.Kind), (.int .i64 x_0.Cmd.Expect), (.int .i64 x_0.Cmd.Name), (.int .i64 x_0.Cmd.Addr), (.int .i64 x_0.Cmd.Number), (.int .i64 x_0.Cmd.Proto)])] (enc_i64 y) :=
  fun_good E_ok (pc_good (pc := pc_b7 fu) (hpc_b7 fu) hpx0) (fn := Try.f116) (c := body_b7) (out := out_i64) (y := y) (by kernel_rfl) (by kernel_rfl) (by kernel_rfl) (lpok_b7 fu) (fun d hd => out_i64_enc d _ hd) ((ev_b7 fu x_0).trans hy)
theorem good_b7 (fu : Nat) : ∀ xs o, S_b7 fu xs = some o → ∀ y, o.x = some y → Good E Try.prog 116 xs (o.g y) := by
  intro xs o h y hy
  unfold S_b7 at h
  split at h
  · rename_i a0_1 a0_2 a0_3 a0_5 a0_6 a0_7 a0_8 a0_9 a0_10
    cases h
    exact goodv_b7 fu (⟨a0_1, a0_2, a0_3, (⟨a0_5, a0_6, a0_7, a0_8, a0_9, a0_10⟩ : S_impl_Cmd)⟩ : S_impl_Entry) y hy
  · cases h

/-! impl.LogFault -/
def F_impl_LogFault_B0 {ρ : Type} (fu : Nat) (log0_0 : (Sl S_impl_Entry)) (t9_1 : (Sl S_impl_Entry)) (t10_2 : Int) (k0 : Int → Int → Int → Int → Int → Int → Int → Int → Int → Int → Option ρ) (k1 : Int → Int → Int → Int → Int → Int → Int → Int → Int → Option ρ) (k2 : Option ρ) (t11_3 : Int) (go : Int → Option ρ) : Option ρ :=
  (bif (decide (t11_3 < t10_2)) then ((bif (decide (0 ≤ t11_3) && decide ((Int.toNat t11_3) < t9_1.n)) then some () else none : Option Unit).bind fun _ => ((F_impl_EntryFault fu (t9_1.f (Int.toNat t11_3))).bind fun y286 =>
    (bif (y286 != 0) then (k0 y286 (t9_1.f (Int.toNat t11_3)).Term (t9_1.f (Int.toNat t11_3)).Client (t9_1.f (Int.toNat t11_3)).Seq (t9_1.f (Int.toNat t11_3)).Cmd.Kind (t9_1.f (Int.toNat t11_3)).Cmd.Expect (t9_1.f (Int.toNat t11_3)).Cmd.Name (t9_1.f (Int.toNat t11_3)).Cmd.Addr (t9_1.f (Int.toNat t11_3)).Cmd.Number (t9_1.f (Int.toNat t11_3)).Cmd.Proto) else
    (((bif (decide (t11_3 > 0)) then ((bif (decide (0 ≤ (IntKind.wrap .i64 (t11_3 - 1))) && decide ((Int.toNat (IntKind.wrap .i64 (t11_3 - 1))) < log0_0.n)) then some () else none : Option Unit).bind fun _ =>
    (some (decide ((t9_1.f (Int.toNat t11_3)).Term < (log0_0.f (Int.toNat (IntKind.wrap .i64 (t11_3 - 1)))).Term)))) else (some false)) : Option Bool).bind fun m287 => (bif m287 then
    (k1 (t9_1.f (Int.toNat t11_3)).Term (t9_1.f (Int.toNat t11_3)).Client (t9_1.f (Int.toNat t11_3)).Seq (t9_1.f (Int.toNat t11_3)).Cmd.Kind (t9_1.f (Int.toNat t11_3)).Cmd.Expect (t9_1.f (Int.toNat t11_3)).Cmd.Name (t9_1.f (Int.toNat t11_3)).Cmd.Addr (t9_1.f (Int.toNat t11_3)).Cmd.Number (t9_1.f (Int.toNat t11_3)).Cmd.Proto) else
    (go (IntKind.wrap .i64 (t11_3 + 1)))))))) else k2)
def F_impl_LogFault (fu : Nat) (log_0 : (Sl S_impl_Entry)) : Option (Int) :=
  (bif (decide (((log_0.n : Nat) : Int) > 40)) then (some 2) else (L (fun w0 go0 => F_impl_LogFault_B0 fu log_0 log_0 ((log_0.n : Nat) : Int) (fun z288 z289 z290 z291 z292 z293 z294 z295 z296 z297 =>
    (some z288)) (fun z298 z299 z300 z301 z302 z303 z304 z305 z306 => (some 1)) (some 0) w0 go0) fu (0 : Int)))
def pcf_b8 (fu : Nat) (f : Nat) (xs : List (D RT den)) : Option (Out RT den) := match f with | 116 => S_b7 fu xs | _ => none
def pc_b8 (fu : Nat) : Pc RT den := ⟨pcf_b8 fu, fun _ => false, fun _ => false, pcd0, pcx0⟩
def msk_b8 (b : Nat) : List Nat := match b with | 0 => [1, 2, 3, 4, 5, 6, 7, 8, 12, 13, 14, 15, 16, 17, 18, 19, 20, 21, 22, 23, 24, 25, 26, 27, 28, 29, 30, 31, 32, 33, 34] | 100000 => [0, 1, 3, 4, 5, 6, 7, 8, 9, 10, 11, 12, 13, 14, 15, 16, 17, 18, 19, 20, 21, 22, 23, 24, 25, 26, 27, 28, 29, 30, 31, 32, 33, 34] | 200009 => [33] | _ => []
def ps_b8_0 : List (Pat RT) := [.flat (.rs .impl_Entry), .flat .q, .flat .q, .flat .q, .flat .q, .flat .q, .flat .q, .flat .q, .flat .q, .flat (.rs .impl_Entry), .flat (.int .i64), .flat (.int .i64), .flat .q, .flat .q, .flat .q, .flat .q, .flat .q, .flat .q, .flat .q, .flat .q, .flat .q, .flat .q, .flat .q, .flat .q, .flat .q, .flat .q, .flat .q, .flat .q, .flat .q, .flat .q, .flat .q, .flat .q, .flat .q, .flat .q, .flat .q]
def os_b8_0 : List (OP RT) := []
def conv_b8_0 (r : Raw den ps_b8_0 os_b8_0) : ((Sl S_impl_Entry) × (Sl S_impl_Entry) × Int) × (Int) := ((r.1.1, r.1.2.2.2.2.2.2.2.2.2.1, r.1.2.2.2.2.2.2.2.2.2.2.1), r.1.2.2.2.2.2.2.2.2.2.2.2.1)
def back_b8_0 (c : (Sl S_impl_Entry) × (Sl S_impl_Entry) × Int) (w : Int) : St RT den := ⟨[(.rs c.1.z .impl_Entry c.1.n c.1.f), .q, .q, .q, .q, .q, .q, .q, .q, (.rs c.2.1.z .impl_Entry c.2.1.n c.2.1.f), (.int .i64 c.2.2), (.int .i64 w), .q, .q, .q, .q, .q, .q, .q, .q, .q, .q, .q, .q, .q, .q, .q, .q, .q, .q, .q, .q, .q, .q, .q], []⟩
def Bk_b8_0 {ρ : Type} (fu : Nat) (c : (Sl S_impl_Entry) × (Sl S_impl_Entry) × Int) (k : Ex → St RT den → Option ρ) (w : Int) (go : (Int) → Option ρ) : Option ρ := F_impl_LogFault_B0 fu c.1 c.2.1 c.2.2 (fun a0 a1 a2 a3 a4 a5 a6 a7 a8 a9 => k .ret ⟨[.q, .q, (.int .i64 a0), .q, .q, .q, .q, .q, .q, .q, .q, .q, .q, .q, .q, .q, .q, .q, .q, .q, .q, .q, .q, .q, .q, .q, .q, .q, .q, .q, .q, .q, .q, .q, .q], [(.box false [(.int .i64 a1), (.int .i64 a2), (.int .i64 a3), (.int .i64 a4), (.int .i64 a5), (.int .i64 a6), (.int .i64 a7), (.int .i64 a8), (.int .i64 a9)])]⟩) (fun a0 a1 a2 a3 a4 a5 a6 a7 a8 => k .ret ⟨[.q, .q, (.int .i64 1), .q, .q, .q, .q, .q, .q, .q, .q, .q, .q, .q, .q, .q, .q, .q, .q, .q, .q, .q, .q, .q, .q, .q, .q, .q, .q, .q, .q, .q, .q, .q, .q], [(.box false [(.int .i64 a0), (.int .i64 a1), (.int .i64 a2), (.int .i64 a3), (.int .i64 a4), (.int .i64 a5), (.int .i64 a6), (.int .i64 a7), (.int .i64 a8)])]⟩) (k (.exit 0) ⟨[.q, .q, .q, .q, .q, .q, .q, .q, .q, .q, .q, .q, .q, .q, .q, .q, .q, .q, .q, .q, .q, .q, .q, .q, .q, .q, .q, .q, .q, .q, .q, .q, .q, .q, .q], []⟩) w go
def lp_b8 (fu : Nat) : Lp RT den (Int) := fun b s k => match b with | 0 => handle ps_b8_0 os_b8_0 conv_b8_0 (Bk_b8_0 fu) fu s k | _ => none
theorem ev_b8 (fu : Nat) (log_0 : (Sl S_impl_Entry)) : evFun E (pc_b8 fu) msk_b8 (lp_b8 fu) out_i64 168 [(.rs log_0.z .impl_Entry log_0.n log_0.f)] = F_impl_LogFault fu log_0 := by kernel_rfl
noncomputable def body_b8 : Code := Try.f168.body.getD .skip
noncomputable def lc_b8_0 : Code := ((loops 0 body_b8).getD 0 (0, .skip)).2
theorem round_b8_0 (fu : Nat) (it : St RT den → Option (Int)) (k : Ex → St RT den → Option (Int)) c w : evCode E (pc_b8 fu) msk_b8 (lp_b8 fu) 0 lc_b8_0 (back_b8_0 c w) (after (msk_b8 0) (msk_b8 100000) 0 it k) = Bk_b8_0 fu c k w (fun w => it (back_b8_0 c w)) := by kernel_rfl
theorem lpok_b8_0 (fu : Nat) : ∀ s k r, lp_b8 fu 0 s k = some r → ∃ fuel, iter (msk_b8 0) (msk_b8 100000) s.objs.length (evCode E (pc_b8 fu) msk_b8 (lp_b8 fu) 0 lc_b8_0) fuel s k = some r :=
  handle_ok (ps := ps_b8_0) (os := os_b8_0) (conv := conv_b8_0) (B := Bk_b8_0 fu) (fu := fu) back_b8_0 (fun raw => by kernel_rfl) 0 (fun c w => by kernel_rfl) (round_b8_0 fu)
theorem lpok_b8 (fu : Nat) : LpOk E (pc_b8 fu) msk_b8 (lp_b8 fu) (loops 0 body_b8) := loop_all 1 (by kernel_rfl) fun i hi => match i, hi with
  | 0, _ => by
    have h : (loops 0 body_b8).getD 0 (0, .skip) = (0, lc_b8_0) := by kernel_rfl
    rw [h]; exact lpok_b8_0 fu
  | i + 1, hi => absurd hi (by omega)
def S_b8 (fu : Nat) (xs : List (D RT den)) : Option (Out RT den) := match xs with | [.rs za0_0 .impl_Entry na0_0 fa0_0] => some ⟨Int, F_impl_LogFault fu (⟨za0_0, na0_0, fa0_0⟩ : (Sl S_impl_Entry)), enc_i64, fun _ => true⟩ | _ => none
theorem hpc_b8 (fu : Nat) : ∀ f xs o, pcf_b8 fu f xs = some o → ∀ y, o.x = some y → Good E Try.prog f xs (o.g y) := by
  intro f xs o h
  unfold pcf_b8 at h
  split at h
  · exact good_b7 fu xs o h
  · cases h
theorem goodv_b8 (fu : Nat) (log_0 : (Sl S_impl_Entry)) (y : Int) (hy : F_impl_LogFault fu log_0 = some y) : Good E Try.prog 168 [(.rs log_0.z .impl_Entry log_0.n log_0.f)] (enc_i64 y) :=
  fun_good E_ok (pc_good (pc := pc_b8 fu) (hpc_b8 fu) hpx0) (fn := Try.f168) (c := body_b8) (out := out_i64) (y := y) (by kernel_rfl) (by kernel_rfl) (by kernel_rfl) (lpok_b8 fu) (fun d hd => out_i64_enc d _ hd) ((ev_b8 fu log_0).trans hy)
theorem good_b8 (fu : Nat) : ∀ xs o, S_b8 fu xs = some o → ∀ y, o.x = some y → Good E Try.prog 168 xs (o.g y) := by
  intro xs o h y hy
  unfold S_b8 at h
  split at h
  · rename_i za0_0 na0_0 fa0_0
    cases h
    exact goodv_b8 fu (⟨za0_0, na0_0, fa0_0⟩ : (Sl S_impl_Entry)) y hy
  · cases h

/-! impl.size[impl.Entry] -/
def F_impl_size_impl_Entry (fu : Nat) (list_0 : (Sl S_impl_Entry)) : Option (Int) :=
  (some ((list_0.n : Nat) : Int))
def pc_b9 (fu : Nat) : Pc RT den := ⟨pcf0, fun _ => false, fun _ => false, pcd0, pcx0⟩
def msk_b9 (b : Nat) : List Nat := []
def lp_b9 (fu : Nat) : Lp RT den (Int) := fun b s k => none
theorem ev_b9 (fu : Nat) (list_0 : (Sl S_impl_Entry)) : evFun E (pc_b9 fu) msk_b9 (lp_b9 fu) out_i64 169 [(.rs list_0.z .impl_Entry list_0.n list_0.f)] = F_impl_size_impl_Entry fu list_0 := by kernel_rfl
noncomputable def body_b9 : Code := Try.f169.body.getD .skip
theorem lpok_b9 (fu : Nat) : LpOk E (pc_b9 fu) msk_b9 (lp_b9 fu) (loops 0 body_b9) := by
  have h : loops 0 body_b9 = [] := by kernel_rfl
  rw [h]; intro p hp; cases hp
def S_b9 (fu : Nat) (xs : List (D RT den)) : Option (Out RT den) := match xs with | [.rs za0_0 .impl_Entry na0_0 fa0_0] => some ⟨Int, F_impl_size_impl_Entry fu (⟨za0_0, na0_0, fa0_0⟩ : (Sl S_impl_Entry)), enc_i64, fun _ => true⟩ | _ => none
theorem goodv_b9 (fu : Nat) (list_0 : (Sl S_impl_Entry)) (y : Int) (hy : F_impl_size_impl_Entry fu list_0 = some y) : Good E Try.prog 169 [(.rs list_0.z .impl_Entry list_0.n list_0.f)] (enc_i64 y) :=
  fun_good E_ok (pc_good (pc := pc_b9 fu) hpc0 hpx0) (fn := Try.f169) (c := body_b9) (out := out_i64) (y := y) (by kernel_rfl) (by kernel_rfl) (by kernel_rfl) (lpok_b9 fu) (fun d hd => out_i64_enc d _ hd) ((ev_b9 fu list_0).trans hy)
theorem good_b9 (fu : Nat) : ∀ xs o, S_b9 fu xs = some o → ∀ y, o.x = some y → Good E Try.prog 169 xs (o.g y) := by
  intro xs o h y hy
  unfold S_b9 at h
  split at h
  · rename_i za0_0 na0_0 fa0_0
    cases h
    exact goodv_b9 fu (⟨za0_0, na0_0, fa0_0⟩ : (Sl S_impl_Entry)) y hy
  · cases h

/-! impl.last -/
def F_impl_last (fu : Nat) (log_0 : (Sl S_impl_Entry)) : Option (S_impl_Entry) :=
  (bif (((log_0.n : Nat) : Int) == 0) then (some (⟨0, 0, 0, (⟨0, 0, 0, 0, 0, 0⟩ : S_impl_Cmd)⟩ : S_impl_Entry)) else ((bif (decide (0 ≤ (IntKind.wrap .i64 (((log_0.n : Nat) : Int) - 1))) &&
    decide ((Int.toNat (IntKind.wrap .i64 (((log_0.n : Nat) : Int) - 1))) < log_0.n)) then some () else none : Option Unit).bind fun _ => (some (log_0.f (Int.toNat (IntKind.wrap .i64 (((log_0.n : Nat) : Int) - 1)))))))
def pc_b10 (fu : Nat) : Pc RT den := ⟨pcf0, fun _ => false, fun _ => false, pcd0, pcx0⟩
def msk_b10 (b : Nat) : List Nat := []
def lp_b10 (fu : Nat) : Lp RT den (S_impl_Entry) := fun b s k => none
theorem ev_b10 (fu : Nat) (log_0 : (Sl S_impl_Entry)) : evFun E (pc_b10 fu) msk_b10 (lp_b10 fu) out_impl_Entry 170 [(.rs log_0.z .impl_Entry log_0.n log_0.f)] = F_impl_last fu log_0 := by kernel_rfl
noncomputable def body_b10 : Code := Try.f170.body.getD .skip
theorem lpok_b10 (fu : Nat) : LpOk E (pc_b10 fu) msk_b10 (lp_b10 fu) (loops 0 body_b10) := by
  have h : loops 0 body_b10 = [] := by kernel_rfl
  rw [h]; intro p hp; cases hp
def S_b10 (fu : Nat) (xs : List (D RT den)) : Option (Out RT den) := match xs with | [.rs za0_0 .impl_Entry na0_0 fa0_0] => some ⟨S_impl_Entry, F_impl_last fu (⟨za0_0, na0_0, fa0_0⟩ : (Sl S_impl_Entry)), enc_impl_Entry, fun _ => true⟩ | _ => none
theorem goodv_b10 (fu : Nat) (log_0 : (Sl S_impl_Entry)) (y : S_impl_Entry) (hy : F_impl_last fu log_0 = some y) : Good E Try.prog 170 [(.rs log_0.z .impl_Entry log_0.n log_0.f)] (enc_impl_Entry y) :=
  fun_good E_ok (pc_good (pc := pc_b10 fu) hpc0 hpx0) (fn := Try.f170) (c := body_b10) (out := out_impl_Entry) (y := y) (by kernel_rfl) (by kernel_rfl) (by kernel_rfl) (lpok_b10 fu) (fun d hd => out_impl_Entry_enc d _ hd) ((ev_b10 fu log_0).trans hy)
theorem good_b10 (fu : Nat) : ∀ xs o, S_b10 fu xs = some o → ∀ y, o.x = some y → Good E Try.prog 170 xs (o.g y) := by
  intro xs o h y hy
  unfold S_b10 at h
  split at h
  · rename_i za0_0 na0_0 fa0_0
    cases h
    exact goodv_b10 fu (⟨za0_0, na0_0, fa0_0⟩ : (Sl S_impl_Entry)) y hy
  · cases h

/-! impl.size[int64] -/
def F_impl_size_int64 (fu : Nat) (list_0 : (Sl Int)) : Option (Int) :=
  (some ((list_0.n : Nat) : Int))
def pc_b11 (fu : Nat) : Pc RT den := ⟨pcf0, fun _ => false, fun _ => false, pcd0, pcx0⟩
def msk_b11 (b : Nat) : List Nat := []
def lp_b11 (fu : Nat) : Lp RT den (Int) := fun b s k => none
theorem ev_b11 (fu : Nat) (list_0 : (Sl Int)) : evFun E (pc_b11 fu) msk_b11 (lp_b11 fu) out_i64 171 [(.rs list_0.z .i64 list_0.n list_0.f)] = F_impl_size_int64 fu list_0 := by kernel_rfl
noncomputable def body_b11 : Code := Try.f171.body.getD .skip
theorem lpok_b11 (fu : Nat) : LpOk E (pc_b11 fu) msk_b11 (lp_b11 fu) (loops 0 body_b11) := by
  have h : loops 0 body_b11 = [] := by kernel_rfl
  rw [h]; intro p hp; cases hp
def S_b11 (fu : Nat) (xs : List (D RT den)) : Option (Out RT den) := match xs with | [.rs za0_0 .i64 na0_0 fa0_0] => some ⟨Int, F_impl_size_int64 fu (⟨za0_0, na0_0, fa0_0⟩ : (Sl Int)), enc_i64, fun _ => true⟩ | _ => none
theorem goodv_b11 (fu : Nat) (list_0 : (Sl Int)) (y : Int) (hy : F_impl_size_int64 fu list_0 = some y) : Good E Try.prog 171 [(.rs list_0.z .i64 list_0.n list_0.f)] (enc_i64 y) :=
  fun_good E_ok (pc_good (pc := pc_b11 fu) hpc0 hpx0) (fn := Try.f171) (c := body_b11) (out := out_i64) (y := y) (by kernel_rfl) (by kernel_rfl) (by kernel_rfl) (lpok_b11 fu) (fun d hd => out_i64_enc d _ hd) ((ev_b11 fu list_0).trans hy)
theorem good_b11 (fu : Nat) : ∀ xs o, S_b11 fu xs = some o → ∀ y, o.x = some y → Good E Try.prog 171 xs (o.g y) := by
  intro xs o h y hy
  unfold S_b11 at h
  split at h
  · rename_i za0_0 na0_0 fa0_0
    cases h
    exact goodv_b11 fu (⟨za0_0, na0_0, fa0_0⟩ : (Sl Int)) y hy
  · cases h

/-! impl.NodeFault'1 -/
def F_impl_NodeFault_c1 (fu : Nat) (k_0 : Int) (x_1_1 : Int) : Option (Bool) :=
  ((F_impl_in fu k_0 1 (IntKind.wrap .i64 (x_1_1 + 1))).bind fun y346 => (some (!y346)))
def pcf_b12 (fu : Nat) (f : Nat) (xs : List (D RT den)) : Option (Out RT den) := match f with | 72 => S_a37 fu xs | _ => none
def pc_b12 (fu : Nat) : Pc RT den := ⟨pcf_b12 fu, fun _ => false, fun _ => false, pcd0, pcx0⟩
def msk_b12 (b : Nat) : List Nat := []
def lp_b12 (fu : Nat) : Lp RT den (Bool) := fun b s k => none
theorem ev_b12 (fu : Nat) (k_0 : Int) (x_1_1 : Int) : evFun E (pc_b12 fu) msk_b12 (lp_b12 fu) out_bo 172 [(.int .i64 k_0), (.rptr [(.int .i64 x_1_1)])] = F_impl_NodeFault_c1 fu k_0 x_1_1 := by kernel_rfl
noncomputable def body_b12 : Code := Try.f172.body.getD .skip
theorem lpok_b12 (fu : Nat) : LpOk E (pc_b12 fu) msk_b12 (lp_b12 fu) (loops 0 body_b12) := by
  have h : loops 0 body_b12 = [] := by kernel_rfl
  rw [h]; intro p hp; cases hp
def S_b12 (fu : Nat) (xs : List (D RT den)) : Option (Out RT den) := match xs with | [.int .i64 a0_0, .rptr [.int .i64 a1_0]] => some ⟨Bool, F_impl_NodeFault_c1 fu a0_0 a1_0, enc_bo, fun _ => true⟩ | _ => none
theorem hpc_b12 (fu : Nat) : ∀ f xs o, pcf_b12 fu f xs = some o → ∀ y, o.x = some y → Good E Try.prog f xs (o.g y) := by
  intro f xs o h
  unfold pcf_b12 at h
  split at h
  · exact good_a37 fu xs o h
  · cases h
theorem goodv_b12 (fu : Nat) (k_0 : Int) (x_1_1 : Int) (y : Bool) (hy : F_impl_NodeFault_c1 fu k_0 x_1_1 = some y) : Good E Try.prog 172 [(.int .i64 k_0), (.rptr [(.int .i64 x_1_1)])] (enc_bo y) :=
  fun_good E_ok (pc_good (pc := pc_b12 fu) (hpc_b12 fu) hpx0) (fn := Try.f172) (c := body_b12) (out := out_bo) (y := y) (by kernel_rfl) (by kernel_rfl) (by kernel_rfl) (lpok_b12 fu) (fun d hd => out_bo_enc d _ hd) ((ev_b12 fu k_0 x_1_1).trans hy)
theorem good_b12 (fu : Nat) : ∀ xs o, S_b12 fu xs = some o → ∀ y, o.x = some y → Good E Try.prog 172 xs (o.g y) := by
  intro xs o h y hy
  unfold S_b12 at h
  split at h
  · rename_i a0_0 a1_0
    cases h
    exact goodv_b12 fu a0_0 a1_0 y hy
  · cases h

/-! slices.IndexFunc[[]int64,int64] -/
def F_slices_IndexFunc_int64_int64_w_impl_NodeFault_c1_B0 {ρ : Type} (fu : Nat) (s0_0 : (Sl Int)) (f1_1 : Int) (t7_2 : Int) (k0 : Int → Option ρ) (k1 : Option ρ) (t8_3 : Int) (go : Int → Option ρ) : Option ρ :=
  (bif (decide (t8_3 < t7_2)) then ((bif (decide (0 ≤ t8_3) && decide ((Int.toNat t8_3) < s0_0.n)) then some () else none : Option Unit).bind fun _ => ((F_impl_NodeFault_c1 fu (s0_0.f (Int.toNat t8_3)) f1_1).bind fun y344 =>
    (bif y344 then (k0 t8_3) else (go (IntKind.wrap .i64 (t8_3 + 1)))))) else k1)
def F_slices_IndexFunc_int64_int64_w_impl_NodeFault_c1 (fu : Nat) (s_0 : (Sl Int)) (f_1_1 : Int) : Option (Int) :=
  (L (fun w0 go0 => F_slices_IndexFunc_int64_int64_w_impl_NodeFault_c1_B0 fu s_0 f_1_1 ((s_0.n : Nat) : Int) (fun z345 => (some z345)) (some (-1)) w0 go0) fu (0 : Int))
def pcf_b13 (fu : Nat) (f : Nat) (xs : List (D RT den)) : Option (Out RT den) := match f with | 172 => S_b12 fu xs | _ => none
def pc_b13 (fu : Nat) : Pc RT den := ⟨pcf_b13 fu, fun _ => false, fun _ => false, pcd0, pcx0⟩
def msk_b13 (b : Nat) : List Nat := match b with | 0 => [2, 3, 4, 5, 6, 9, 10, 11, 12, 13, 14, 15, 16, 17, 18] | 100000 => [0, 1, 2, 3, 5, 6, 7, 8, 9, 10, 11, 12, 13, 14, 15, 16, 17, 18] | _ => []
def ps_b13_0 : List (Pat RT) := [.flat (.rs .i64), .fn 172 [.rptr [(.int .i64)]], .flat .q, .flat .q, .flat .q, .flat .q, .flat .q, .flat (.int .i64), .flat (.int .i64), .flat .q, .flat .q, .flat .q, .flat .q, .flat .q, .flat .q, .flat .q, .flat .q, .flat .q, .flat .q]
def os_b13_0 : List (OP RT) := []
def conv_b13_0 (r : Raw den ps_b13_0 os_b13_0) : ((Sl Int) × Int × Int) × (Int) := ((r.1.1, r.1.2.1.1.1, r.1.2.2.2.2.2.2.2.1), r.1.2.2.2.2.2.2.2.2.1)
def back_b13_0 (c : (Sl Int) × Int × Int) (w : Int) : St RT den := ⟨[(.rs c.1.z .i64 c.1.n c.1.f), (.fn 172 [(.rptr [(.int .i64 c.2.1)])]), .q, .q, .q, .q, .q, (.int .i64 c.2.2), (.int .i64 w), .q, .q, .q, .q, .q, .q, .q, .q, .q, .q], []⟩
def Bk_b13_0 {ρ : Type} (fu : Nat) (c : (Sl Int) × Int × Int) (k : Ex → St RT den → Option ρ) (w : Int) (go : (Int) → Option ρ) : Option ρ := F_slices_IndexFunc_int64_int64_w_impl_NodeFault_c1_B0 fu c.1 c.2.1 c.2.2 (fun a0 => k .ret ⟨[.q, .q, .q, .q, (.int .i64 a0), .q, .q, .q, .q, .q, .q, .q, .q, .q, .q, .q, .q, .q, .q], []⟩) (k (.exit 0) ⟨[.q, .q, .q, .q, .q, .q, .q, .q, .q, .q, .q, .q, .q, .q, .q, .q, .q, .q, .q], []⟩) w go
def lp_b13 (fu : Nat) : Lp RT den (Int) := fun b s k => match b with | 0 => handle ps_b13_0 os_b13_0 conv_b13_0 (Bk_b13_0 fu) fu s k | _ => none
theorem ev_b13 (fu : Nat) (s_0 : (Sl Int)) (f_1_1 : Int) : evFun E (pc_b13 fu) msk_b13 (lp_b13 fu) out_i64 151 [(.rs s_0.z .i64 s_0.n s_0.f), (.fn 172 [(.rptr [(.int .i64 f_1_1)])])] = F_slices_IndexFunc_int64_int64_w_impl_NodeFault_c1 fu s_0 f_1_1 := by kernel_rfl
noncomputable def body_b13 : Code := Try.f151.body.getD .skip
noncomputable def lc_b13_0 : Code := ((loops 0 body_b13).getD 0 (0, .skip)).2
theorem round_b13_0 (fu : Nat) (it : St RT den → Option (Int)) (k : Ex → St RT den → Option (Int)) c w : evCode E (pc_b13 fu) msk_b13 (lp_b13 fu) 0 lc_b13_0 (back_b13_0 c w) (after (msk_b13 0) (msk_b13 100000) 0 it k) = Bk_b13_0 fu c k w (fun w => it (back_b13_0 c w)) := by kernel_rfl
theorem lpok_b13_0 (fu : Nat) : ∀ s k r, lp_b13 fu 0 s k = some r → ∃ fuel, iter (msk_b13 0) (msk_b13 100000) s.objs.length (evCode E (pc_b13 fu) msk_b13 (lp_b13 fu) 0 lc_b13_0) fuel s k = some r :=
  handle_ok (ps := ps_b13_0) (os := os_b13_0) (conv := conv_b13_0) (B := Bk_b13_0 fu) (fu := fu) back_b13_0 (fun raw => by kernel_rfl) 0 (fun c w => by kernel_rfl) (round_b13_0 fu)
theorem lpok_b13 (fu : Nat) : LpOk E (pc_b13 fu) msk_b13 (lp_b13 fu) (loops 0 body_b13) := loop_all 1 (by kernel_rfl) fun i hi => match i, hi with
  | 0, _ => by
    have h : (loops 0 body_b13).getD 0 (0, .skip) = (0, lc_b13_0) := by kernel_rfl
    rw [h]; exact lpok_b13_0 fu
  | i + 1, hi => absurd hi (by omega)
def S_b13 (fu : Nat) (xs : List (D RT den)) : Option (Out RT den) := match xs with | [.rs za0_0 .i64 na0_0 fa0_0, .fn 172 [.rptr [.int .i64 a1_0]]] => some ⟨Int, F_slices_IndexFunc_int64_int64_w_impl_NodeFault_c1 fu (⟨za0_0, na0_0, fa0_0⟩ : (Sl Int)) a1_0, enc_i64, fun _ => true⟩ | _ => none
theorem hpc_b13 (fu : Nat) : ∀ f xs o, pcf_b13 fu f xs = some o → ∀ y, o.x = some y → Good E Try.prog f xs (o.g y) := by
  intro f xs o h
  unfold pcf_b13 at h
  split at h
  · exact good_b12 fu xs o h
  · cases h
theorem goodv_b13 (fu : Nat) (s_0 : (Sl Int)) (f_1_1 : Int) (y : Int) (hy : F_slices_IndexFunc_int64_int64_w_impl_NodeFault_c1 fu s_0 f_1_1 = some y) : Good E Try.prog 151 [(.rs s_0.z .i64 s_0.n s_0.f), (.fn 172 [(.rptr [(.int .i64 f_1_1)])])] (enc_i64 y) :=
  fun_good E_ok (pc_good (pc := pc_b13 fu) (hpc_b13 fu) hpx0) (fn := Try.f151) (c := body_b13) (out := out_i64) (y := y) (by kernel_rfl) (by kernel_rfl) (by kernel_rfl) (lpok_b13 fu) (fun d hd => out_i64_enc d _ hd) ((ev_b13 fu s_0 f_1_1).trans hy)
theorem good_b13 (fu : Nat) : ∀ xs o, S_b13 fu xs = some o → ∀ y, o.x = some y → Good E Try.prog 151 xs (o.g y) := by
  intro xs o h y hy
  unfold S_b13 at h
  split at h
  · rename_i za0_0 na0_0 fa0_0 a1_0
    cases h
    exact goodv_b13 fu (⟨za0_0, na0_0, fa0_0⟩ : (Sl Int)) a1_0 y hy
  · cases h

/-! slices.ContainsFunc[[]int64,int64] -/
def F_slices_ContainsFunc_int64_int64_w_impl_NodeFault_c1 (fu : Nat) (s_0 : (Sl Int)) (f_1_1 : Int) : Option (Bool) :=
  ((F_slices_IndexFunc_int64_int64_w_impl_NodeFault_c1 fu s_0 f_1_1).bind fun y343 => (some (decide (y343 ≥ 0))))
def pcf_b14 (fu : Nat) (f : Nat) (xs : List (D RT den)) : Option (Out RT den) := match f with | 151 => S_b13 fu xs | _ => none
def pc_b14 (fu : Nat) : Pc RT den := ⟨pcf_b14 fu, fun _ => false, fun _ => false, pcd0, pcx0⟩
def msk_b14 (b : Nat) : List Nat := []
def lp_b14 (fu : Nat) : Lp RT den (Bool) := fun b s k => none
theorem ev_b14 (fu : Nat) (s_0 : (Sl Int)) (f_1_1 : Int) : evFun E (pc_b14 fu) msk_b14 (lp_b14 fu) out_bo 96 [(.rs s_0.z .i64 s_0.n s_0.f), (.fn 172 [(.rptr [(.int .i64 f_1_1)])])] = F_slices_ContainsFunc_int64_int64_w_impl_NodeFault_c1 fu s_0 f_1_1 := by kernel_rfl
noncomputable def body_b14 : Code := Try.f96.body.getD .skip
theorem lpok_b14 (fu : Nat) : LpOk E (pc_b14 fu) msk_b14 (lp_b14 fu) (loops 0 body_b14) := by
  have h : loops 0 body_b14 = [] := by kernel_rfl
  rw [h]; intro p hp; cases hp
def S_b14 (fu : Nat) (xs : List (D RT den)) : Option (Out RT den) := match xs with | [.rs za0_0 .i64 na0_0 fa0_0, .fn 172 [.rptr [.int .i64 a1_0]]] => some ⟨Bool, F_slices_ContainsFunc_int64_int64_w_impl_NodeFault_c1 fu (⟨za0_0, na0_0, fa0_0⟩ : (Sl Int)) a1_0, enc_bo, fun _ => true⟩ | _ => none
theorem hpc_b14 (fu : Nat) : ∀ f xs o, pcf_b14 fu f xs = some o → ∀ y, o.x = some y → Good E Try.prog f xs (o.g y) := by
  intro f xs o h
  unfold pcf_b14 at h
  split at h
  · exact good_b13 fu xs o h
  · cases h
theorem goodv_b14 (fu : Nat) (s_0 : (Sl Int)) (f_1_1 : Int) (y : Bool) (hy : F_slices_ContainsFunc_int64_int64_w_impl_NodeFault_c1 fu s_0 f_1_1 = some y) : Good E Try.prog 96 [(.rs s_0.z .i64 s_0.n s_0.f), (.fn 172 [(.rptr [(.int .i64 f_1_1)])])] (enc_bo y) :=
  fun_good E_ok (pc_good (pc := pc_b14 fu) (hpc_b14 fu) hpx0) (fn := Try.f96) (c := body_b14) (out := out_bo) (y := y) (by kernel_rfl) (by kernel_rfl) (by kernel_rfl) (lpok_b14 fu) (fun d hd => out_bo_enc d _ hd) ((ev_b14 fu s_0 f_1_1).trans hy)
theorem good_b14 (fu : Nat) : ∀ xs o, S_b14 fu xs = some o → ∀ y, o.x = some y → Good E Try.prog 96 xs (o.g y) := by
  intro xs o h y hy
  unfold S_b14 at h
  split at h
  · rename_i za0_0 na0_0 fa0_0 a1_0
    cases h
    exact goodv_b14 fu (⟨za0_0, na0_0, fa0_0⟩ : (Sl Int)) a1_0 y hy
  · cases h

/-! impl.NodeFault'2 -/
def F_impl_NodeFault_c2 (fu : Nat) (k_0 : Int) (x_1_1 : Int) : Option (Bool) :=
  ((F_impl_in fu k_0 0 x_1_1).bind fun y350 => (some (!y350)))
def pcf_b15 (fu : Nat) (f : Nat) (xs : List (D RT den)) : Option (Out RT den) := match f with | 72 => S_a37 fu xs | _ => none
def pc_b15 (fu : Nat) : Pc RT den := ⟨pcf_b15 fu, fun _ => false, fun _ => false, pcd0, pcx0⟩
def msk_b15 (b : Nat) : List Nat := []
def lp_b15 (fu : Nat) : Lp RT den (Bool) := fun b s k => none
theorem ev_b15 (fu : Nat) (k_0 : Int) (x_1_1 : Int) : evFun E (pc_b15 fu) msk_b15 (lp_b15 fu) out_bo 173 [(.int .i64 k_0), (.rptr [(.int .i64 x_1_1)])] = F_impl_NodeFault_c2 fu k_0 x_1_1 := by kernel_rfl
noncomputable def body_b15 : Code := Try.f173.body.getD .skip
theorem lpok_b15 (fu : Nat) : LpOk E (pc_b15 fu) msk_b15 (lp_b15 fu) (loops 0 body_b15) := by
  have h : loops 0 body_b15 = [] := by kernel_rfl
  rw [h]; intro p hp; cases hp
def S_b15 (fu : Nat) (xs : List (D RT den)) : Option (Out RT den) := match xs with | [.int .i64 a0_0, .rptr [.int .i64 a1_0]] => some ⟨Bool, F_impl_NodeFault_c2 fu a0_0 a1_0, enc_bo, fun _ => true⟩ | _ => none
theorem hpc_b15 (fu : Nat) : ∀ f xs o, pcf_b15 fu f xs = some o → ∀ y, o.x = some y → Good E Try.prog f xs (o.g y) := by
  intro f xs o h
  unfold pcf_b15 at h
  split at h
  · exact good_a37 fu xs o h
  · cases h
theorem goodv_b15 (fu : Nat) (k_0 : Int) (x_1_1 : Int) (y : Bool) (hy : F_impl_NodeFault_c2 fu k_0 x_1_1 = some y) : Good E Try.prog 173 [(.int .i64 k_0), (.rptr [(.int .i64 x_1_1)])] (enc_bo y) :=
  fun_good E_ok (pc_good (pc := pc_b15 fu) (hpc_b15 fu) hpx0) (fn := Try.f173) (c := body_b15) (out := out_bo) (y := y) (by kernel_rfl) (by kernel_rfl) (by kernel_rfl) (lpok_b15 fu) (fun d hd => out_bo_enc d _ hd) ((ev_b15 fu k_0 x_1_1).trans hy)
theorem good_b15 (fu : Nat) : ∀ xs o, S_b15 fu xs = some o → ∀ y, o.x = some y → Good E Try.prog 173 xs (o.g y) := by
  intro xs o h y hy
  unfold S_b15 at h
  split at h
  · rename_i a0_0 a1_0
    cases h
    exact goodv_b15 fu a0_0 a1_0 y hy
  · cases h

/-! slices.IndexFunc[[]int64,int64] -/
def F_slices_IndexFunc_int64_int64_w_impl_NodeFault_c2_B0 {ρ : Type} (fu : Nat) (s0_0 : (Sl Int)) (f1_1 : Int) (t7_2 : Int) (k0 : Int → Option ρ) (k1 : Option ρ) (t8_3 : Int) (go : Int → Option ρ) : Option ρ :=
  (bif (decide (t8_3 < t7_2)) then ((bif (decide (0 ≤ t8_3) && decide ((Int.toNat t8_3) < s0_0.n)) then some () else none : Option Unit).bind fun _ => ((F_impl_NodeFault_c2 fu (s0_0.f (Int.toNat t8_3)) f1_1).bind fun y348 =>
    (bif y348 then (k0 t8_3) else (go (IntKind.wrap .i64 (t8_3 + 1)))))) else k1)
def F_slices_IndexFunc_int64_int64_w_impl_NodeFault_c2 (fu : Nat) (s_0 : (Sl Int)) (f_1_1 : Int) : Option (Int) :=
  (L (fun w0 go0 => F_slices_IndexFunc_int64_int64_w_impl_NodeFault_c2_B0 fu s_0 f_1_1 ((s_0.n : Nat) : Int) (fun z349 => (some z349)) (some (-1)) w0 go0) fu (0 : Int))
def pcf_b16 (fu : Nat) (f : Nat) (xs : List (D RT den)) : Option (Out RT den) := match f with | 173 => S_b15 fu xs | _ => none
def pc_b16 (fu : Nat) : Pc RT den := ⟨pcf_b16 fu, fun _ => false, fun _ => false, pcd0, pcx0⟩
def msk_b16 (b : Nat) : List Nat := match b with | 0 => [2, 3, 4, 5, 6, 9, 10, 11, 12, 13, 14, 15, 16, 17, 18] | 100000 => [0, 1, 2, 3, 5, 6, 7, 8, 9, 10, 11, 12, 13, 14, 15, 16, 17, 18] | _ => []
def ps_b16_0 : List (Pat RT) := [.flat (.rs .i64), .fn 173 [.rptr [(.int .i64)]], .flat .q, .flat .q, .flat .q, .flat .q, .flat .q, .flat (.int .i64), .flat (.int .i64), .flat .q, .flat .q, .flat .q, .flat .q, .flat .q, .flat .q, .flat .q, .flat .q, .flat .q, .flat .q]
def os_b16_0 : List (OP RT) := []
def conv_b16_0 (r : Raw den ps_b16_0 os_b16_0) : ((Sl Int) × Int × Int) × (Int) := ((r.1.1, r.1.2.1.1.1, r.1.2.2.2.2.2.2.2.1), r.1.2.2.2.2.2.2.2.2.1)
def back_b16_0 (c : (Sl Int) × Int × Int) (w : Int) : St RT den := ⟨[(.rs c.1.z .i64 c.1.n c.1.f), (.fn 173 [(.rptr [(.int .i64 c.2.1)])]), .q, .q, .q, .q, .q, (.int .i64 c.2.2), (.int .i64 w), .q, .q, .q, .q, .q, .q, .q, .q, .q, .q], []⟩
def Bk_b16_0 {ρ : Type} (fu : Nat) (c : (Sl Int) × Int × Int) (k : Ex → St RT den → Option ρ) (w : Int) (go : (Int) → Option ρ) : Option ρ := F_slices_IndexFunc_int64_int64_w_impl_NodeFault_c2_B0 fu c.1 c.2.1 c.2.2 (fun a0 => k .ret ⟨[.q, .q, .q, .q, (.int .i64 a0), .q, .q, .q, .q, .q, .q, .q, .q, .q, .q, .q, .q, .q, .q], []⟩) (k (.exit 0) ⟨[.q, .q, .q, .q, .q, .q, .q, .q, .q, .q, .q, .q, .q, .q, .q, .q, .q, .q, .q], []⟩) w go
def lp_b16 (fu : Nat) : Lp RT den (Int) := fun b s k => match b with | 0 => handle ps_b16_0 os_b16_0 conv_b16_0 (Bk_b16_0 fu) fu s k | _ => none
theorem ev_b16 (fu : Nat) (s_0 : (Sl Int)) (f_1_1 : Int) : evFun E (pc_b16 fu) msk_b16 (lp_b16 fu) out_i64 151 [(.rs s_0.z .i64 s_0.n s_0.f), (.fn 173 [(.rptr [(.int .i64 f_1_1)])])] = F_slices_IndexFunc_int64_int64_w_impl_NodeFault_c2 fu s_0 f_1_1 := by kernel_rfl
noncomputable def body_b16 : Code := Try.f151.body.getD .skip
noncomputable def lc_b16_0 : Code := ((loops 0 body_b16).getD 0 (0, .skip)).2
theorem round_b16_0 (fu : Nat) (it : St RT den → Option (Int)) (k : Ex → St RT den → Option (Int)) c w : evCode E (pc_b16 fu) msk_b16 (lp_b16 fu) 0 lc_b16_0 (back_b16_0 c w) (after (msk_b16 0) (msk_b16 100000) 0 it k) = Bk_b16_0 fu c k w (fun w => it (back_b16_0 c w)) := by kernel_rfl
theorem lpok_b16_0 (fu : Nat) : ∀ s k r, lp_b16 fu 0 s k = some r → ∃ fuel, iter (msk_b16 0) (msk_b16 100000) s.objs.length (evCode E (pc_b16 fu) msk_b16 (lp_b16 fu) 0 lc_b16_0) fuel s k = some r :=
  handle_ok (ps := ps_b16_0) (os := os_b16_0) (conv := conv_b16_0) (B := Bk_b16_0 fu) (fu := fu) back_b16_0 (fun raw => by kernel_rfl) 0 (fun c w => by kernel_rfl) (round_b16_0 fu)
theorem lpok_b16 (fu : Nat) : LpOk E (pc_b16 fu) msk_b16 (lp_b16 fu) (loops 0 body_b16) := loop_all 1 (by kernel_rfl) fun i hi => match i, hi with
  | 0, _ => by
    have h : (loops 0 body_b16).getD 0 (0, .skip) = (0, lc_b16_0) := by kernel_rfl
    rw [h]; exact lpok_b16_0 fu
  | i + 1, hi => absurd hi (by omega)
def S_b16 (fu : Nat) (xs : List (D RT den)) : Option (Out RT den) := match xs with | [.rs za0_0 .i64 na0_0 fa0_0, .fn 173 [.rptr [.int .i64 a1_0]]] => some ⟨Int, F_slices_IndexFunc_int64_int64_w_impl_NodeFault_c2 fu (⟨za0_0, na0_0, fa0_0⟩ : (Sl Int)) a1_0, enc_i64, fun _ => true⟩ | _ => none
theorem hpc_b16 (fu : Nat) : ∀ f xs o, pcf_b16 fu f xs = some o → ∀ y, o.x = some y → Good E Try.prog f xs (o.g y) := by
  intro f xs o h
  unfold pcf_b16 at h
  split at h
  · exact good_b15 fu xs o h
  · cases h
theorem goodv_b16 (fu : Nat) (s_0 : (Sl Int)) (f_1_1 : Int) (y : Int) (hy : F_slices_IndexFunc_int64_int64_w_impl_NodeFault_c2 fu s_0 f_1_1 = some y) : Good E Try.prog 151 [(.rs s_0.z .i64 s_0.n s_0.f), (.fn 173 [(.rptr [(.int .i64 f_1_1)])])] (enc_i64 y) :=
  fun_good E_ok (pc_good (pc := pc_b16 fu) (hpc_b16 fu) hpx0) (fn := Try.f151) (c := body_b16) (out := out_i64) (y := y) (by kernel_rfl) (by kernel_rfl) (by kernel_rfl) (lpok_b16 fu) (fun d hd => out_i64_enc d _ hd) ((ev_b16 fu s_0 f_1_1).trans hy)
theorem good_b16 (fu : Nat) : ∀ xs o, S_b16 fu xs = some o → ∀ y, o.x = some y → Good E Try.prog 151 xs (o.g y) := by
  intro xs o h y hy
  unfold S_b16 at h
  split at h
  · rename_i za0_0 na0_0 fa0_0 a1_0
    cases h
    exact goodv_b16 fu (⟨za0_0, na0_0, fa0_0⟩ : (Sl Int)) a1_0 y hy
  · cases h

/-! slices.ContainsFunc[[]int64,int64] -/
def F_slices_ContainsFunc_int64_int64_w_impl_NodeFault_c2 (fu : Nat) (s_0 : (Sl Int)) (f_1_1 : Int) : Option (Bool) :=
  ((F_slices_IndexFunc_int64_int64_w_impl_NodeFault_c2 fu s_0 f_1_1).bind fun y347 => (some (decide (y347 ≥ 0))))
def pcf_b17 (fu : Nat) (f : Nat) (xs : List (D RT den)) : Option (Out RT den) := match f with | 151 => S_b16 fu xs | _ => none
def pc_b17 (fu : Nat) : Pc RT den := ⟨pcf_b17 fu, fun _ => false, fun _ => false, pcd0, pcx0⟩
def msk_b17 (b : Nat) : List Nat := []
def lp_b17 (fu : Nat) : Lp RT den (Bool) := fun b s k => none
theorem ev_b17 (fu : Nat) (s_0 : (Sl Int)) (f_1_1 : Int) : evFun E (pc_b17 fu) msk_b17 (lp_b17 fu) out_bo 96 [(.rs s_0.z .i64 s_0.n s_0.f), (.fn 173 [(.rptr [(.int .i64 f_1_1)])])] = F_slices_ContainsFunc_int64_int64_w_impl_NodeFault_c2 fu s_0 f_1_1 := by kernel_rfl
noncomputable def body_b17 : Code := Try.f96.body.getD .skip
theorem lpok_b17 (fu : Nat) : LpOk E (pc_b17 fu) msk_b17 (lp_b17 fu) (loops 0 body_b17) := by
  have h : loops 0 body_b17 = [] := by kernel_rfl
  rw [h]; intro p hp; cases hp
def S_b17 (fu : Nat) (xs : List (D RT den)) : Option (Out RT den) := match xs with | [.rs za0_0 .i64 na0_0 fa0_0, .fn 173 [.rptr [.int .i64 a1_0]]] => some ⟨Bool, F_slices_ContainsFunc_int64_int64_w_impl_NodeFault_c2 fu (⟨za0_0, na0_0, fa0_0⟩ : (Sl Int)) a1_0, enc_bo, fun _ => true⟩ | _ => none
theorem hpc_b17 (fu : Nat) : ∀ f xs o, pcf_b17 fu f xs = some o → ∀ y, o.x = some y → Good E Try.prog f xs (o.g y) := by
  intro f xs o h
  unfold pcf_b17 at h
  split at h
  · exact good_b16 fu xs o h
  · cases h
theorem goodv_b17 (fu : Nat) (s_0 : (Sl Int)) (f_1_1 : Int) (y : Bool) (hy : F_slices_ContainsFunc_int64_int64_w_impl_NodeFault_c2 fu s_0 f_1_1 = some y) : Good E Try.prog 96 [(.rs s_0.z .i64 s_0.n s_0.f), (.fn 173 [(.rptr [(.int .i64 f_1_1)])])] (enc_bo y) :=
  fun_good E_ok (pc_good (pc := pc_b17 fu) (hpc_b17 fu) hpx0) (fn := Try.f96) (c := body_b17) (out := out_bo) (y := y) (by kernel_rfl) (by kernel_rfl) (by kernel_rfl) (lpok_b17 fu) (fun d hd => out_bo_enc d _ hd) ((ev_b17 fu s_0 f_1_1).trans hy)
theorem good_b17 (fu : Nat) : ∀ xs o, S_b17 fu xs = some o → ∀ y, o.x = some y → Good E Try.prog 96 xs (o.g y) := by
  intro xs o h y hy
  unfold S_b17 at h
  split at h
  · rename_i za0_0 na0_0 fa0_0 a1_0
    cases h
    exact goodv_b17 fu (⟨za0_0, na0_0, fa0_0⟩ : (Sl Int)) a1_0 y hy
  · cases h

/-! impl.NodeFault -/
def F_impl_NodeFault_B1 {ρ : Type} (fu : Nat) (t75_0 : (Sl Int)) (t76_1 : Int) (o0_3 : Int) (o0_4 : Int) (o0_5 : Int) (o0_6 : Int) (o0_7 : (Sl S_impl_Entry)) (o0_8 : Int) (o0_9 : Int) (o0_10 : (Sl Int)) (o0_11 : (Sl Int)) (o0_12 : (Sl Int)) (o1_13 : Int) (k0 : Option ρ) (k1 : Option ρ) (t77_2 : Int) (go : Int → Option ρ) : Option ρ :=
  (bif (decide (t77_2 < t76_1)) then ((bif (decide (0 ≤ t77_2) && decide ((Int.toNat t77_2) < t75_0.n)) then some () else none : Option Unit).bind fun _ => ((((F_impl_Node_isId fu (⟨o0_3,
    o0_4, o0_5, o0_6, o0_7, o0_8, o0_9, o0_10, o0_11, o0_12⟩ : S_impl_Node) (t75_0.f (Int.toNat t77_2))).bind fun y272 => (bif (!y272) then (some true) else (bif (decide (t77_2 > 0)) then
    ((bif (decide (0 ≤ (IntKind.wrap .i64 (t77_2 - 1))) && decide ((Int.toNat (IntKind.wrap .i64 (t77_2 - 1))) < o0_10.n)) then some () else none : Option Unit).bind fun _ => (some (decide ((t75_0.f (Int.toNat t77_2)) ≤ (o0_10.f (Int.toNat (IntKind.wrap .i64 (t77_2 - 1)))))))) else
    (some false)))) : Option Bool).bind fun m273 => (bif m273 then k0 else (go (IntKind.wrap .i64 (t77_2 + 1)))))) else k1)
def F_impl_NodeFault (fu : Nat) (t_0 : S_impl_Node) : Option (Int) :=
  ((((F_impl_in fu t_0.Peers 1 5).bind fun y259 => (bif (!y259) then (some true) else ((F_impl_Node_isId fu t_0 t_0.Id).bind fun y261 => (bif (!y261) then (some true) else
    ((F_impl_in fu t_0.Term 0 100000).bind fun y262 => (bif (!y262) then (some true) else (bif (t_0.Voted != (-1)) then ((F_impl_Node_isId fu t_0 t_0.Voted).bind fun y263 => (bif (!y263) then
    (some true) else ((F_impl_in fu t_0.Role 0 2).bind fun y264 => (some (!y264))))) else ((F_impl_in fu t_0.Role 0 2).bind fun y265 => (some (!y265)))))))))) : Option Bool).bind fun m266 =>
    (bif m266 then (some 3) else ((F_impl_LogFault fu t_0.Log).bind fun y267 => (bif (y267 != 0) then (some y267) else ((F_impl_size_impl_Entry fu t_0.Log).bind fun y268 =>
    ((F_impl_last fu t_0.Log).bind fun y269 => (bif (decide (y269.Term > t_0.Term)) then (some 1) else ((F_impl_in fu t_0.Commit 0 y268).bind fun y270 => (bif (!y270) then (some 3) else
    (((bif (decide (((t_0.Votes.n : Nat) : Int) > 0)) then (some (t_0.Role != 1)) else (some false)) : Option Bool).bind fun m271 => (bif m271 then (some 1) else (L (fun w1 go1 =>
    F_impl_NodeFault_B1 fu t_0.Votes ((t_0.Votes.n : Nat) : Int) t_0.Id t_0.Peers t_0.Term t_0.Voted t_0.Log t_0.Role t_0.Commit t_0.Votes t_0.Next t_0.Match y268 (some 1) (bif (t_0.Role == 2) then
    ((((F_impl_size_int64 fu t_0.Next).bind fun y274 => (bif (y274 != t_0.Peers) then (some true) else ((F_impl_size_int64 fu t_0.Match).bind fun y275 => (some (y275 != t_0.Peers))))) : Option Bool).bind fun m276 =>
    (bif m276 then (some 1) else ((F_slices_ContainsFunc_int64_int64_w_impl_NodeFault_c1 fu t_0.Next y268).bind fun y277 => (bif y277 then (some 3) else
    ((F_slices_ContainsFunc_int64_int64_w_impl_NodeFault_c2 fu t_0.Match y268).bind fun y278 => (bif y278 then (some 3) else (((bif (t_0.Role != 0) then (bif (t_0.Voted != t_0.Id) then
    (some true) else (some (t_0.Term == 0))) else (some false)) : Option Bool).bind fun m279 => (bif m279 then (some 1) else (some 0))))))))) else ((((F_impl_size_int64 fu t_0.Next).bind fun y280 =>
    (bif (y280 != 0) then (some true) else ((F_impl_size_int64 fu t_0.Match).bind fun y281 => (some (y281 != 0))))) : Option Bool).bind fun m282 => (bif m282 then (some 1) else
    ((F_slices_ContainsFunc_int64_int64_w_impl_NodeFault_c1 fu t_0.Next y268).bind fun y283 => (bif y283 then (some 3) else ((F_slices_ContainsFunc_int64_int64_w_impl_NodeFault_c2 fu t_0.Match y268).bind fun y284 =>
    (bif y284 then (some 3) else (((bif (t_0.Role != 0) then (bif (t_0.Voted != t_0.Id) then (some true) else (some (t_0.Term == 0))) else (some false)) : Option Bool).bind fun m285 =>
    (bif m285 then (some 1) else (some 0)))))))))) w1 go1) fu (0 : Int)))))))))))))
def pcf_b18 (fu : Nat) (f : Nat) (xs : List (D RT den)) : Option (Out RT den) := match f with | 72 => S_a37 fu xs | 96 => (match S_b14 fu xs with | some o => some o | none => S_b17 fu xs) | 167 => S_a39 fu xs | 168 => S_b8 fu xs | 169 => S_b9 fu xs | 170 => S_b10 fu xs | 171 => S_b11 fu xs | _ => none
def pc_b18 (fu : Nat) : Pc RT den := ⟨pcf_b18 fu, fun _ => false, fun _ => false, pcd0, pcx0⟩
def msk_b18 (b : Nat) : List Nat := match b with | 1 => [0, 2, 3, 5, 6, 7, 8, 9, 10, 11, 12, 13, 14, 15, 16, 17, 18, 19, 20, 21, 22, 23, 24, 25, 26, 27, 28, 29, 30, 31, 32, 33, 34, 35, 36, 37, 38, 39, 40, 41, 42, 43, 44, 45, 46, 47, 48, 49, 50, 51, 52, 53, 54, 55, 56, 57, 58, 59, 60, 61, 62, 63, 64, 65, 66, 67, 68, 69, 70, 71, 72, 73, 74, 78, 79, 80, 81, 82, 83, 84, 85, 86, 87, 88, 89, 90, 91, 92, 93, 94, 95, 96, 97, 98, 99, 100, 101, 102, 103, 104, 105, 106, 107, 108, 109, 110, 111, 112, 113, 114, 115, 116, 117, 118, 119, 120, 121, 122, 123, 124, 125, 126, 127, 128, 129, 130, 131, 132, 133, 134, 135, 136, 137, 138, 139, 140, 141, 142, 143] | 100001 => [0, 3, 5, 6, 7, 8, 9, 10, 11, 12, 13, 14, 15, 16, 17, 18, 19, 20, 21, 22, 23, 24, 25, 26, 27, 28, 29, 30, 31, 32, 33, 34, 35, 36, 37, 38, 39, 40, 41, 42, 43, 44, 45, 46, 47, 48, 49, 50, 51, 52, 53, 54, 55, 56, 57, 58, 59, 60, 61, 62, 63, 64, 65, 66, 67, 68, 69, 70, 71, 72, 73, 74, 75, 76, 77, 78, 79, 80, 81, 82, 83, 84, 85, 86, 87, 88, 89, 90, 91, 92, 93, 94, 95, 96, 97, 98, 99, 100, 101, 102, 103, 104, 105, 106, 107, 108, 109, 110, 111, 112, 113, 114, 115, 116, 117, 118, 119, 120, 121, 122, 123, 124, 125, 126, 127, 128, 129, 130, 131, 132, 133, 134, 135, 136, 137, 138, 139, 140, 141, 142, 143] | 200001 => [40] | 200011 => [64] | 200016 => [98] | 200022 => [105] | 200028 => [128] | _ => []
def ps_b18_1 : List (Pat RT) := [.flat .q, .flat (.ref 0 0), .flat .q, .flat .q, .flat (.ref 1 0), .flat .q, .flat .q, .flat .q, .flat .q, .flat .q, .flat .q, .flat .q, .flat .q, .flat .q, .flat .q, .flat .q, .flat .q, .flat .q, .flat .q, .flat .q, .flat .q, .flat .q, .flat .q, .flat .q, .flat .q, .flat .q, .flat .q, .flat .q, .flat .q, .flat .q, .flat .q, .flat .q, .flat .q, .flat .q, .flat .q, .flat .q, .flat .q, .flat .q, .flat .q, .flat .q, .flat .q, .flat .q, .flat .q, .flat .q, .flat .q, .flat .q, .flat .q, .flat .q, .flat .q, .flat .q, .flat .q, .flat .q, .flat .q, .flat .q, .flat .q, .flat .q, .flat .q, .flat .q, .flat .q, .flat .q, .flat .q, .flat .q, .flat .q, .flat .q, .flat .q, .flat .q, .flat .q, .flat .q, .flat .q, .flat .q, .flat .q, .flat .q, .flat .q, .flat .q, .flat .q, .flat (.rs .i64), .flat (.int .i64), .flat (.int .i64), .flat .q, .flat .q, .flat .q, .flat .q, .flat .q, .flat .q, .flat .q, .flat .q, .flat .q, .flat .q, .flat .q, .flat .q, .flat .q, .flat .q, .flat .q, .flat .q, .flat .q, .flat .q, .flat .q, .flat .q, .flat .q, .flat .q, .flat .q, .flat .q, .flat .q, .flat .q, .flat .q, .flat .q, .flat .q, .flat .q, .flat .q, .flat .q, .flat .q, .flat .q, .flat .q, .flat .q, .flat .q, .flat .q, .flat .q, .flat .q, .flat .q, .flat .q, .flat .q, .flat .q, .flat .q, .flat .q, .flat .q, .flat .q, .flat .q, .flat .q, .flat .q, .flat .q, .flat .q, .flat .q, .flat .q, .flat .q, .flat .q, .flat .q, .flat .q, .flat .q, .flat .q, .flat .q, .flat .q, .flat .q, .flat .q, .flat .q]
def os_b18_1 : List (OP RT) := [.box false [(.int .i64), (.int .i64), (.int .i64), (.int .i64), (.rs .impl_Entry), (.int .i64), (.int .i64), (.rs .i64), (.rs .i64), (.rs .i64)], .box false [(.int .i64)]]
def conv_b18_1 (r : Raw den ps_b18_1 os_b18_1) : ((Sl Int) × Int × Int × Int × Int × Int × (Sl S_impl_Entry) × Int × Int × (Sl Int) × (Sl Int) × (Sl Int) × Int) × (Int) := ((r.1.2.2.2.2.2.2.2.2.2.2.2.2.2.2.2.2.2.2.2.2.2.2.2.2.2.2.2.2.2.2.2.2.2.2.2.2.2.2.2.2.2.2.2.2.2.2.2.2.2.2.2.2.2.2.2.2.2.2.2.2.2.2.2.2.2.2.2.2.2.2.2.2.2.2.2.1, r.1.2.2.2.2.2.2.2.2.2.2.2.2.2.2.2.2.2.2.2.2.2.2.2.2.2.2.2.2.2.2.2.2.2.2.2.2.2.2.2.2.2.2.2.2.2.2.2.2.2.2.2.2.2.2.2.2.2.2.2.2.2.2.2.2.2.2.2.2.2.2.2.2.2.2.2.2.1, r.2.1.1, r.2.1.2.1, r.2.1.2.2.1, r.2.1.2.2.2.1, r.2.1.2.2.2.2.1, r.2.1.2.2.2.2.2.1, r.2.1.2.2.2.2.2.2.1, r.2.1.2.2.2.2.2.2.2.1, r.2.1.2.2.2.2.2.2.2.2.1, r.2.1.2.2.2.2.2.2.2.2.2.1, r.2.2.1.1), r.1.2.2.2.2.2.2.2.2.2.2.2.2.2.2.2.2.2.2.2.2.2.2.2.2.2.2.2.2.2.2.2.2.2.2.2.2.2.2.2.2.2.2.2.2.2.2.2.2.2.2.2.2.2.2.2.2.2.2.2.2.2.2.2.2.2.2.2.2.2.2.2.2.2.2.2.2.2.1)
def back_b18_1 (c : (Sl Int) × Int × Int × Int × Int × Int × (Sl S_impl_Entry) × Int × Int × (Sl Int) × (Sl Int) × (Sl Int) × Int) (w : Int) : St RT den := ⟨[.q, (.ref 0 0), .q, .q, (.ref 1 0), .q, .q, .q, .q, .q, .q, .q, .q, .q, .q, .q, .q, .q, .q, .q, .q, .q, .q, .q, .q, .q, .q, .q, .q, .q, .q, .q, .q, .q, .q, .q, .q, .q, .q, .q, .q, .q, .q, .q, .q, .q, .q, .q, .q, .q, .q, .q, .q, .q, .q, .q, .q, .q, .q, .q, .q, .q, .q, .q, .q, .q, .q, .q, .q, .q, .q, .q, .q, .q, .q, (.rs c.1.z .i64 c.1.n c.1.f), (.int .i64 c.2.1), (.int .i64 w), .q, .q, .q, .q, .q, .q, .q, .q, .q, .q, .q, .q, .q, .q, .q, .q, .q, .q, .q, .q, .q, .q, .q, .q, .q, .q, .q, .q, .q, .q, .q, .q, .q, .q, .q, .q, .q, .q, .q, .q, .q, .q, .q, .q, .q, .q, .q, .q, .q, .q, .q, .q, .q, .q, .q, .q, .q, .q, .q, .q, .q, .q, .q, .q, .q, .q], [(.box false [(.int .i64 c.2.2.1), (.int .i64 c.2.2.2.1), (.int .i64 c.2.2.2.2.1), (.int .i64 c.2.2.2.2.2.1), (.rs c.2.2.2.2.2.2.1.z .impl_Entry c.2.2.2.2.2.2.1.n c.2.2.2.2.2.2.1.f), (.int .i64 c.2.2.2.2.2.2.2.1), (.int .i64 c.2.2.2.2.2.2.2.2.1), (.rs c.2.2.2.2.2.2.2.2.2.1.z .i64 c.2.2.2.2.2.2.2.2.2.1.n c.2.2.2.2.2.2.2.2.2.1.f), (.rs c.2.2.2.2.2.2.2.2.2.2.1.z .i64 c.2.2.2.2.2.2.2.2.2.2.1.n c.2.2.2.2.2.2.2.2.2.2.1.f), (.rs c.2.2.2.2.2.2.2.2.2.2.2.1.z .i64 c.2.2.2.2.2.2.2.2.2.2.2.1.n c.2.2.2.2.2.2.2.2.2.2.2.1.f)]), (.box false [(.int .i64 c.2.2.2.2.2.2.2.2.2.2.2.2)])]⟩
def Bk_b18_1 {ρ : Type} (fu : Nat) (c : (Sl Int) × Int × Int × Int × Int × Int × (Sl S_impl_Entry) × Int × Int × (Sl Int) × (Sl Int) × (Sl Int) × Int) (k : Ex → St RT den → Option ρ) (w : Int) (go : (Int) → Option ρ) : Option ρ := F_impl_NodeFault_B1 fu c.1 c.2.1 c.2.2.1 c.2.2.2.1 c.2.2.2.2.1 c.2.2.2.2.2.1 c.2.2.2.2.2.2.1 c.2.2.2.2.2.2.2.1 c.2.2.2.2.2.2.2.2.1 c.2.2.2.2.2.2.2.2.2.1 c.2.2.2.2.2.2.2.2.2.2.1 c.2.2.2.2.2.2.2.2.2.2.2.1 c.2.2.2.2.2.2.2.2.2.2.2.2 (k .ret ⟨[.q, (.ref 0 0), (.int .i64 1), .q, (.ref 1 0), .q, .q, .q, .q, .q, .q, .q, .q, .q, .q, .q, .q, .q, .q, .q, .q, .q, .q, .q, .q, .q, .q, .q, .q, .q, .q, .q, .q, .q, .q, .q, .q, .q, .q, .q, .q, .q, .q, .q, .q, .q, .q, .q, .q, .q, .q, .q, .q, .q, .q, .q, .q, .q, .q, .q, .q, .q, .q, .q, .q, .q, .q, .q, .q, .q, .q, .q, .q, .q, .q, .q, .q, .q, .q, .q, .q, .q, .q, .q, .q, .q, .q, .q, .q, .q, .q, .q, .q, .q, .q, .q, .q, .q, .q, .q, .q, .q, .q, .q, .q, .q, .q, .q, .q, .q, .q, .q, .q, .q, .q, .q, .q, .q, .q, .q, .q, .q, .q, .q, .q, .q, .q, .q, .q, .q, .q, .q, .q, .q, .q, .q, .q, .q, .q, .q, .q, .q, .q, .q], [(.box false [(.int .i64 c.2.2.1), (.int .i64 c.2.2.2.1), (.int .i64 c.2.2.2.2.1), (.int .i64 c.2.2.2.2.2.1), (.rs c.2.2.2.2.2.2.1.z .impl_Entry c.2.2.2.2.2.2.1.n c.2.2.2.2.2.2.1.f), (.int .i64 c.2.2.2.2.2.2.2.1), (.int .i64 c.2.2.2.2.2.2.2.2.1), (.rs c.2.2.2.2.2.2.2.2.2.1.z .i64 c.2.2.2.2.2.2.2.2.2.1.n c.2.2.2.2.2.2.2.2.2.1.f), (.rs c.2.2.2.2.2.2.2.2.2.2.1.z .i64 c.2.2.2.2.2.2.2.2.2.2.1.n c.2.2.2.2.2.2.2.2.2.2.1.f), (.rs c.2.2.2.2.2.2.2.2.2.2.2.1.z .i64 c.2.2.2.2.2.2.2.2.2.2.2.1.n c.2.2.2.2.2.2.2.2.2.2.2.1.f)]), (.box false [(.int .i64 c.2.2.2.2.2.2.2.2.2.2.2.2)])]⟩) (k (.exit 1) ⟨[.q, (.ref 0 0), .q, .q, (.ref 1 0), .q, .q, .q, .q, .q, .q, .q, .q, .q, .q, .q, .q, .q, .q, .q, .q, .q, .q, .q, .q, .q, .q, .q, .q, .q, .q, .q, .q, .q, .q, .q, .q, .q, .q, .q, .q, .q, .q, .q, .q, .q, .q, .q, .q, .q, .q, .q, .q, .q, .q, .q, .q, .q, .q, .q, .q, .q, .q, .q, .q, .q, .q, .q, .q, .q, .q, .q, .q, .q, .q, .q, .q, .q, .q, .q, .q, .q, .q, .q, .q, .q, .q, .q, .q, .q, .q, .q, .q, .q, .q, .q, .q, .q, .q, .q, .q, .q, .q, .q, .q, .q, .q, .q, .q, .q, .q, .q, .q, .q, .q, .q, .q, .q, .q, .q, .q, .q, .q, .q, .q, .q, .q, .q, .q, .q, .q, .q, .q, .q, .q, .q, .q, .q, .q, .q, .q, .q, .q, .q], [(.box false [(.int .i64 c.2.2.1), (.int .i64 c.2.2.2.1), (.int .i64 c.2.2.2.2.1), (.int .i64 c.2.2.2.2.2.1), (.rs c.2.2.2.2.2.2.1.z .impl_Entry c.2.2.2.2.2.2.1.n c.2.2.2.2.2.2.1.f), (.int .i64 c.2.2.2.2.2.2.2.1), (.int .i64 c.2.2.2.2.2.2.2.2.1), (.rs c.2.2.2.2.2.2.2.2.2.1.z .i64 c.2.2.2.2.2.2.2.2.2.1.n c.2.2.2.2.2.2.2.2.2.1.f), (.rs c.2.2.2.2.2.2.2.2.2.2.1.z .i64 c.2.2.2.2.2.2.2.2.2.2.1.n c.2.2.2.2.2.2.2.2.2.2.1.f), (.rs c.2.2.2.2.2.2.2.2.2.2.2.1.z .i64 c.2.2.2.2.2.2.2.2.2.2.2.1.n c.2.2.2.2.2.2.2.2.2.2.2.1.f)]), (.box false [(.int .i64 c.2.2.2.2.2.2.2.2.2.2.2.2)])]⟩) w go
def lp_b18 (fu : Nat) : Lp RT den (Int) := fun b s k => match b with | 1 => handle ps_b18_1 os_b18_1 conv_b18_1 (Bk_b18_1 fu) fu s k | _ => none
theorem ev_b18 (fu : Nat) (t_0 : S_impl_Node) : evFun E (pc_b18 fu) msk_b18 (lp_b18 fu) out_i64 113 [(.agg [(.int .i64 t_0.Id), (.int .i64 t_0.Peers), (.int .i64 t_0.Term), (.int .i64 t_0.Voted), (.rs t_0.Log.z .impl_Entry t_0.Log.n t_0.Log.f), (.int .i64 t_0.Role), (.int .i64 t_0.Commit), (.rs t_0.Votes.z .i64 t_0.Votes.n t_0.Votes.f), (.rs t_0.Next.z .i64 t_0.Next.n t_0.Next.f), (.rs t_0.Match.z .i64 t_0.Match.n t_0.Match.f)])] = F_impl_NodeFault fu t_0 := by kernel_rfl
noncomputable def body_b18 : Code := Try.f113.body.getD .skip
noncomputable def lc_b18_1 : Code := ((loops 0 body_b18).getD 0 (0, .skip)).2
theorem round_b18_1 (fu : Nat) (it : St RT den → Option (Int)) (k : Ex → St RT den → Option (Int)) c w : evCode E (pc_b18 fu) msk_b18 (lp_b18 fu) 1 lc_b18_1 (back_b18_1 c w) (after (msk_b18 1) (msk_b18 100001) 2 it k) = Bk_b18_1 fu c k w (fun w => it (back_b18_1 c w)) := by kernel_rfl
theorem lpok_b18_1 (fu : Nat) : ∀ s k r, lp_b18 fu 1 s k = some r → ∃ fuel, iter (msk_b18 1) (msk_b18 100001) s.objs.length (evCode E (pc_b18 fu) msk_b18 (lp_b18 fu) 1 lc_b18_1) fuel s k = some r :=
  handle_ok (ps := ps_b18_1) (os := os_b18_1) (conv := conv_b18_1) (B := Bk_b18_1 fu) (fu := fu) back_b18_1 (fun raw => by kernel_rfl) 2 (fun c w => by kernel_rfl) (round_b18_1 fu)
theorem lpok_b18 (fu : Nat) : LpOk E (pc_b18 fu) msk_b18 (lp_b18 fu) (loops 0 body_b18) := loop_all 1 (by kernel_rfl) fun i hi => match i, hi with
  | 0, _ => by
    have h : (loops 0 body_b18).getD 0 (0, .skip) = (1, lc_b18_1) := by kernel_rfl
    rw [h]; exact lpok_b18_1 fu
  | i + 1, hi => absurd hi (by omega)
def S_b18 (fu : Nat) (xs : List (D RT den)) : Option (Out RT den) := match xs with | [.agg [.int .i64 a0_1, .int .i64 a0_2, .int .i64 a0_3, .int .i64 a0_4, .rs za0_5 .impl_Entry na0_5 fa0_5, .int .i64 a0_6, .int .i64 a0_7, .rs za0_8 .i64 na0_8 fa0_8, .rs za0_9 .i64 na0_9 fa0_9, .rs za0_10 .i64 na0_10 fa0_10]] => some ⟨Int, F_impl_NodeFault fu (⟨a0_1, a0_2, a0_3, a0_4, (⟨za0_5, na0_5, fa0_5⟩ : (Sl S_impl_Entry)), a0_6, a0_7, (⟨za0_8, na0_8, fa0_8⟩ : (Sl Int)), (⟨za0_9, na0_9, fa0_9⟩ : (Sl Int)), (⟨za0_10, na0_10, fa0_10⟩ : (Sl Int))⟩ : S_impl_Node), enc_i64, fun _ => true⟩ | _ => none
theorem hpc_b18 (fu : Nat) : ∀ f xs o, pcf_b18 fu f xs = some o → ∀ y, o.x = some y → Good E Try.prog f xs (o.g y) := by
  intro f xs o h
  unfold pcf_b18 at h
  split at h
  · exact good_a37 fu xs o h
  · split at h
    · rename_i o' ho; cases h; exact good_b14 fu xs _ ho
    · exact good_b17 fu xs o h
  · exact good_a39 fu xs o h
  · exact good_b8 fu xs o h
  · exact good_b9 fu xs o h
  · exact good_b10 fu xs o h
  · exact good_b11 fu xs o h
  · cases h
theorem goodv_b18 (fu : Nat) (t_0 : S_impl_Node) (y : Int) (hy : F_impl_NodeFault fu t_0 = some y) : Good E Try.prog 113 [(.agg [(.int .i64 t_0.Id), (.int .i64 t_0.Peers), (.int .i64 t_0.Term), (.int .i64 t_0.Voted), (.rs t_0.Log.z .impl_Entry t_0.Log.n t_0.Log.f), (.int .i64 t_0.Role), (.int .i64 t_0.Commit), (.rs t_0.Votes.z .i64 t_0.Votes.n t_0.Votes.f), (.rs t_0.Next.z .i64 t_0.Next.n t_0.Next.f), (.rs t_0.Match.z .i64 t_0.Match.n t_0.Match.f)])] (enc_i64 y) :=
  fun_good E_ok (pc_good (pc := pc_b18 fu) (hpc_b18 fu) hpx0) (fn := Try.f113) (c := body_b18) (out := out_i64) (y := y) (by kernel_rfl) (by kernel_rfl) (by kernel_rfl) (lpok_b18 fu) (fun d hd => out_i64_enc d _ hd) ((ev_b18 fu t_0).trans hy)
theorem good_b18 (fu : Nat) : ∀ xs o, S_b18 fu xs = some o → ∀ y, o.x = some y → Good E Try.prog 113 xs (o.g y) := by
  intro xs o h y hy
  unfold S_b18 at h
  split at h
  · rename_i a0_1 a0_2 a0_3 a0_4 za0_5 na0_5 fa0_5 a0_6 a0_7 za0_8 na0_8 fa0_8 za0_9 na0_9 fa0_9 za0_10 na0_10 fa0_10
    cases h
    exact goodv_b18 fu (⟨a0_1, a0_2, a0_3, a0_4, (⟨za0_5, na0_5, fa0_5⟩ : (Sl S_impl_Entry)), a0_6, a0_7, (⟨za0_8, na0_8, fa0_8⟩ : (Sl Int)), (⟨za0_9, na0_9, fa0_9⟩ : (Sl Int)), (⟨za0_10, na0_10, fa0_10⟩ : (Sl Int))⟩ : S_impl_Node) y hy
  · cases h

/-! impl.MailFault -/
def F_impl_MailFault (fu : Nat) (t_0 : S_impl_Node) (o_1 : S_impl_Mail) : Option (Int) :=
  ((F_impl_NodeFault fu t_0).bind fun y351 => (bif (y351 != 0) then (some y351) else ((F_impl_in fu o_1.Kind 1 4).bind fun y352 => (bif (!y352) then (some 5) else
    ((((F_impl_Node_isId fu t_0 o_1.From).bind fun y353 => (bif (!y353) then (some true) else (bif (o_1.From == t_0.Id) then (some true) else (bif (o_1.To != t_0.Id) then (some true) else
    ((F_impl_in fu o_1.Term 1 100000).bind fun y354 => (some (!y354))))))) : Option Bool).bind fun m355 => (bif m355 then (some 3) else ((((F_impl_in fu o_1.Index 0 40).bind fun y356 =>
    (bif (!y356) then (some true) else ((F_impl_in fu o_1.Last 0 o_1.Term).bind fun y357 => (bif (!y357) then (some true) else ((F_impl_in fu o_1.Commit 0 40).bind fun y358 => (some (!y358))))))) : Option Bool).bind fun m359 =>
    (bif m359 then (some 3) else ((F_impl_LogFault fu o_1.Entries).bind fun y360 => (bif (y360 != 0) then (some y360) else (((bif (decide (((o_1.Entries.n : Nat) : Int) > 0)) then
    (bif (o_1.Kind != 3) then (some true) else ((F_impl_last fu o_1.Entries).bind fun y361 => (bif (decide (y361.Term > o_1.Term)) then (some true) else ((bif (decide (0 ≤ (0 : Int)) &&
    decide ((Int.toNat 0) < o_1.Entries.n)) then some () else none : Option Unit).bind fun _ => (some (decide ((o_1.Entries.f (Int.toNat 0)).Term < o_1.Last))))))) else (some false)) : Option Bool).bind fun m362 =>
    (((bif m362 then (some true) else (bif o_1.Ok then (bif (o_1.Kind != 2) then (some (o_1.Kind != 4)) else (some false)) else (some false))) : Option Bool).bind fun m363 => (bif (o_1.Kind == 2) then
    (((bif m363 then (some true) else (bif (o_1.Index != 0) then (some true) else (bif (o_1.Last != 0) then (some true) else (some (o_1.Commit != 0))))) : Option Bool).bind fun m364 =>
    (((bif m364 then (some true) else (bif (o_1.Index == 0) then (some (o_1.Last != 0)) else (some false))) : Option Bool).bind fun m365 => (bif m365 then (some 1) else (some 0)))) else
    (bif (o_1.Kind == 1) then (((bif m363 then (some true) else (some (o_1.Commit != 0))) : Option Bool).bind fun m366 => (((bif m366 then (some true) else (bif (o_1.Index == 0) then
    (some (o_1.Last != 0)) else (some false))) : Option Bool).bind fun m367 => (bif m367 then (some 1) else (some 0)))) else (bif (o_1.Kind == 4) then (((bif m363 then (some true) else
    (bif (o_1.Last != 0) then (some true) else (some (o_1.Commit != 0)))) : Option Bool).bind fun m368 => (((bif m368 then (some true) else (bif (o_1.Index == 0) then (some (o_1.Last != 0)) else
    (some false))) : Option Bool).bind fun m369 => (bif m369 then (some 1) else (some 0)))) else (((bif m363 then (some true) else (bif (o_1.Index == 0) then (some (o_1.Last != 0)) else
    (some false))) : Option Bool).bind fun m370 => (bif m370 then (some 1) else (some 0))))))))))))))))))
def pcf_b19 (fu : Nat) (f : Nat) (xs : List (D RT den)) : Option (Out RT den) := match f with | 72 => S_a37 fu xs | 113 => S_b18 fu xs | 167 => S_a39 fu xs | 168 => S_b8 fu xs | 170 => S_b10 fu xs | _ => none
def pc_b19 (fu : Nat) : Pc RT den := ⟨pcf_b19 fu, fun _ => false, fun _ => false, pcd0, pcx0⟩
def msk_b19 (b : Nat) : List Nat := match b with | 200006 => [18] | 200008 => [43] | 200013 => [7] | 200014 => [7] | 200017 => [7] | 200019 => [7] | 200021 => [7] | 200022 => [162] | _ => []
def lp_b19 (fu : Nat) : Lp RT den (Int) := fun b s k => none
theorem ev_b19 (fu : Nat) (t_0 : S_impl_Node) (o_1 : S_impl_Mail) : evFun E (pc_b19 fu) msk_b19 (lp_b19 fu) out_i64 115 [(.agg [(.int .i64 t_0.Id), (.int .i64 t_0.Peers), (.int .i64 t_0.Term), (.int .i64 t_0.Voted), (.rs t_0.Log.z .impl_Entry t_0.Log.n t_0.Log.f), (.int .i64 t_0.Role), (.int .i64 t_0.Commit), (.rs t_0.Votes.z .i64 t_0.Votes.n t_0.Votes.f), (.rs t_0.Next.z .i64 t_0.Next.n t_0.Next.f), (.rs t_0.Match.z .i64 t_0.Match.n t_0.Match.f)]), (.agg [(.int .i64 o_1.Kind), (.int .i64 o_1.From), (.int .i64 o_1.To), (.int .i64 o_1.Term), (.int .i64 o_1.Index), (.int .i64 o_1.Last), (.int .i64 o_1.Commit), (.bool o_1.Ok), (.rs o_1.Entries.z .impl_Entry o_1.Entries.n o_1.Entries.f)])] = F_impl_MailFault fu t_0 o_1 := by kernel_rfl
noncomputable def body_b19 : Code := Try.f115.body.getD .skip
theorem lpok_b19 (fu : Nat) : LpOk E (pc_b19 fu) msk_b19 (lp_b19 fu) (loops 0 body_b19) := by
  have h : loops 0 body_b19 = [] := by kernel_rfl
  rw [h]; intro p hp; cases hp
def S_b19 (fu : Nat) (xs : List (D RT den)) : Option (Out RT den) := match xs with | [.agg [.int .i64 a0_1, .int .i64 a0_2, .int .i64 a0_3, .int .i64 a0_4, .rs za0_5 .impl_Entry na0_5 fa0_5, .int .i64 a0_6, .int .i64 a0_7, .rs za0_8 .i64 na0_8 fa0_8, .rs za0_9 .i64 na0_9 fa0_9, .rs za0_10 .i64 na0_10 fa0_10], .agg [.int .i64 a1_1, .int .i64 a1_2, .int .i64 a1_3, .int .i64 a1_4, .int .i64 a1_5, .int .i64 a1_6, .int .i64 a1_7, .bool a1_8, .rs za1_9 .impl_Entry na1_9 fa1_9]] => some ⟨Int, F_impl_MailFault fu (⟨a0_1, a0_2, a0_3, a0_4, (⟨za0_5, na0_5, fa0_5⟩ : (Sl S_impl_Entry)), a0_6, a0_7, (⟨za0_8, na0_8, fa0_8⟩ : (Sl Int)), (⟨za0_9, na0_9, fa0_9⟩ : (Sl Int)), (⟨za0_10, na0_10, fa0_10⟩ : (Sl Int))⟩ : S_impl_Node) (⟨a1_1, a1_2, a1_3, a1_4, a1_5, a1_6, a1_7, a1_8, (⟨za1_9, na1_9, fa1_9⟩ : (Sl S_impl_Entry))⟩ : S_impl_Mail), enc_i64, fun _ => true⟩ | _ => none
theorem hpc_b19 (fu : Nat) : ∀ f xs o, pcf_b19 fu f xs = some o → ∀ y, o.x = some y → Good E Try.prog f xs (o.g y) := by
  intro f xs o h
  unfold pcf_b19 at h
  split at h
  · exact good_a37 fu xs o h
  · exact good_b18 fu xs o h
  · exact good_a39 fu xs o h
  · exact good_b8 fu xs o h
  · exact good_b10 fu xs o h
  · cases h
theorem goodv_b19 (fu : Nat) (t_0 : S_impl_Node) (o_1 : S_impl_Mail) (y : Int) (hy : F_impl_MailFault fu t_0 o_1 = some y) : Good E Try.prog 115 [(.agg [(.int .i64 t_0.Id), (.int .i64 t_0.Peers), (.int .i64 t_0.Term), (.int .i64 t_0.Voted), (.rs t_0.Log.z .impl_Entry t_0.Log.n t_0.Log.f), (.int .i64 t_0.Role), (.int .i64 t_0.Commit), (.rs t_0.Votes.z .i64 t_0.Votes.n t_0.Votes.f), (.rs t_0.Next.z .i64 t_0.Next.n t_0.Next.f), (.rs t_0.Match.z .i64 t_0.Match.n t_0.Match.f)]), (.agg [(.int .i64 o_1.Kind), (.int .i64 o_1.From), (.int .i64 o_1.To), (.int .i64 o_1.Term), (.int .i64 o_1.Index), (.int .i64 o_1.Last), (.int .i64 o_1.Commit), (.bool o_1.Ok), (.rs o_1.Entries.z .impl_Entry o_1.Entries.n o_1.Entries.f)])] (enc_i64 y) :=
  fun_good E_ok (pc_good (pc := pc_b19 fu) (hpc_b19 fu) hpx0) (fn := Try.f115) (c := body_b19) (out := out_i64) (y := y) (by kernel_rfl) (by kernel_rfl) (by kernel_rfl) (lpok_b19 fu) (fun d hd => out_i64_enc d _ hd) ((ev_b19 fu t_0 o_1).trans hy)
theorem good_b19 (fu : Nat) : ∀ xs o, S_b19 fu xs = some o → ∀ y, o.x = some y → Good E Try.prog 115 xs (o.g y) := by
  intro xs o h y hy
  unfold S_b19 at h
  split at h
  · rename_i a0_1 a0_2 a0_3 a0_4 za0_5 na0_5 fa0_5 a0_6 a0_7 za0_8 na0_8 fa0_8 za0_9 na0_9 fa0_9 za0_10 na0_10 fa0_10 a1_1 a1_2 a1_3 a1_4 a1_5 a1_6 a1_7 a1_8 za1_9 na1_9 fa1_9
    cases h
    exact goodv_b19 fu (⟨a0_1, a0_2, a0_3, a0_4, (⟨za0_5, na0_5, fa0_5⟩ : (Sl S_impl_Entry)), a0_6, a0_7, (⟨za0_8, na0_8, fa0_8⟩ : (Sl Int)), (⟨za0_9, na0_9, fa0_9⟩ : (Sl Int)), (⟨za0_10, na0_10, fa0_10⟩ : (Sl Int))⟩ : S_impl_Node) (⟨a1_1, a1_2, a1_3, a1_4, a1_5, a1_6, a1_7, a1_8, (⟨za1_9, na1_9, fa1_9⟩ : (Sl S_impl_Entry))⟩ : S_impl_Mail) y hy
  · cases h
end Go.Proofs.Ytmnbmponjhglcaa.Pc
