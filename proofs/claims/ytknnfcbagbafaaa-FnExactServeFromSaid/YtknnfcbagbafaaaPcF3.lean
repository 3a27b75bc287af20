/- The functions' evaluated forms, each a proved summary. Conditions: none. -/
import Derived.Test.YtknnfcbagbafaaaPcF2
namespace Go.Proofs.Ytknnfcbagbafaaa.Pc
open Go Go.RowKit Go.Proofs Vm
set_option linter.unusedVariables false
set_option linter.unusedSimpArgs false
set_option maxRecDepth 100000
/-! impl.CmdFault -/
def F_impl_CmdFault (fu : Nat) (x_0 : S_impl_Cmd) : Option (Int) :=
  ((F_impl_in fu x_0.Kind 1 9).bind fun y211 => (bif (!y211) then (some 1) else ((F_impl_needs fu x_0.Kind).bind fun y212 => ((((F_impl_in fu x_0.Expect (-1) 1000000).bind fun y213 =>
    (bif (!y213) then (some true) else (bif y212.1 then ((F_impl_isName fu x_0.Name).bind fun y214 => (bif (!y214) then (some true) else (bif y212.2.1 then ((F_impl_isAddress fu x_0.Addr).bind fun y215 =>
    (bif (!y215) then (some true) else (bif y212.2.2.1 then ((F_impl_isNumber fu x_0).bind fun y216 => (bif (!y216) then (some true) else (bif y212.2.2.2 then ((F_impl_isProto fu x_0.Proto).bind fun y217 =>
    (some (!y217))) else (some false)))) else (bif y212.2.2.2 then ((F_impl_isProto fu x_0.Proto).bind fun y218 => (some (!y218))) else (some false))))) else (bif y212.2.2.1 then
    ((F_impl_isNumber fu x_0).bind fun y219 => (bif (!y219) then (some true) else (bif y212.2.2.2 then ((F_impl_isProto fu x_0.Proto).bind fun y220 => (some (!y220))) else (some false)))) else
    (bif y212.2.2.2 then ((F_impl_isProto fu x_0.Proto).bind fun y221 => (some (!y221))) else (some false)))))) else (bif y212.2.1 then ((F_impl_isAddress fu x_0.Addr).bind fun y222 =>
    (bif (!y222) then (some true) else (bif y212.2.2.1 then ((F_impl_isNumber fu x_0).bind fun y223 => (bif (!y223) then (some true) else (bif y212.2.2.2 then ((F_impl_isProto fu x_0.Proto).bind fun y224 =>
    (some (!y224))) else (some false)))) else (bif y212.2.2.2 then ((F_impl_isProto fu x_0.Proto).bind fun y225 => (some (!y225))) else (some false))))) else (bif y212.2.2.1 then
    ((F_impl_isNumber fu x_0).bind fun y226 => (bif (!y226) then (some true) else (bif y212.2.2.2 then ((F_impl_isProto fu x_0.Proto).bind fun y227 => (some (!y227))) else (some false)))) else
    (bif y212.2.2.2 then ((F_impl_isProto fu x_0.Proto).bind fun y228 => (some (!y228))) else (some false))))))) : Option Bool).bind fun m229 => (bif m229 then (some 3) else (((bif (!y212.1) then
    (bif (x_0.Name != 0) then (some true) else (bif (!y212.2.1) then (bif (x_0.Addr != 0) then (some true) else (bif (!y212.2.2.1) then (bif (x_0.Number != 0) then (some true) else
    (bif (!y212.2.2.2) then (some (x_0.Proto != 0)) else (some false))) else (bif (!y212.2.2.2) then (some (x_0.Proto != 0)) else (some false)))) else (bif (!y212.2.2.1) then (bif (x_0.Number != 0) then
    (some true) else (bif (!y212.2.2.2) then (some (x_0.Proto != 0)) else (some false))) else (bif (!y212.2.2.2) then (some (x_0.Proto != 0)) else (some false))))) else (bif (!y212.2.1) then
    (bif (x_0.Addr != 0) then (some true) else (bif (!y212.2.2.1) then (bif (x_0.Number != 0) then (some true) else (bif (!y212.2.2.2) then (some (x_0.Proto != 0)) else (some false))) else
    (bif (!y212.2.2.2) then (some (x_0.Proto != 0)) else (some false)))) else (bif (!y212.2.2.1) then (bif (x_0.Number != 0) then (some true) else (bif (!y212.2.2.2) then (some (x_0.Proto != 0)) else
    (some false))) else (bif (!y212.2.2.2) then (some (x_0.Proto != 0)) else (some false))))) : Option Bool).bind fun m230 => (bif m230 then (some 1) else (some 0))))))))
def pcf_b13 (fu : Nat) (f : Nat) (xs : List (D RT den)) : Option (Out RT den) := match f with | 69 => S_a34 fu xs | 85 => S_a36 fu xs | 87 => S_a39 fu xs | 101 => S_b11 fu xs | 102 => S_a35 fu xs | 103 => S_b12 fu xs | _ => none
def pc_b13 (fu : Nat) : Pc RT den := ⟨pcf_b13 fu, fun _ => false, fun _ => false, pcd0, pcx0⟩
def msk_b13 (b : Nat) : List Nat := match b with | 200004 => [19] | 200006 => [59] | _ => []
def lp_b13 (fu : Nat) : Lp RT den (Int) := fun b s k => none
theorem ev_b13 (fu : Nat) (x_0 : S_impl_Cmd) : evFun E (pc_b13 fu) msk_b13 (lp_b13 fu) out_i64 54 [(.agg [(.int .i64 x_0.Kind), (.int .i64 x_0.Expect), (.int .i64 x_0.Name), (.int .i64 x_0.Addr), (.int .i64 x_0.Number), (.int .i64 x_0.Proto)])] = F_impl_CmdFault fu x_0 := by kernel_rfl
noncomputable def body_b13 : Code := Try.f54.body.getD .skip
theorem lpok_b13 (fu : Nat) : LpOk E (pc_b13 fu) msk_b13 (lp_b13 fu) (loops 0 body_b13) := by
  have h : loops 0 body_b13 = [] := by kernel_rfl
  rw [h]; intro p hp; cases hp
def S_b13 (fu : Nat) (xs : List (D RT den)) : Option (Out RT den) := match xs with | [.agg [.int .i64 a0_1, .int .i64 a0_2, .int .i64 a0_3, .int .i64 a0_4, .int .i64 a0_5, .int .i64 a0_6]] => some ⟨Int, F_impl_CmdFault fu (⟨a0_1, a0_2, a0_3, a0_4, a0_5, a0_6⟩ : S_impl_Cmd), enc_i64, fun _ => true⟩ | _ => none
theorem hpc_b13 (fu : Nat) : ∀ f xs o, pcf_b13 fu f xs = some o → ∀ y, o.x = some y → Good E Try.prog f xs (o.g y) := by
  intro f xs o h
  unfold pcf_b13 at h
  split at h
  · exact good_a34 fu xs o h
  · exact good_a36 fu xs o h
  · exact good_a39 fu xs o h
  · exact good_b11 fu xs o h
  · exact good_a35 fu xs o h
  · exact good_b12 fu xs o h
  · cases h
theorem goodv_b13 (fu : Nat) (x_0 : S_impl_Cmd) (y : Int) (hy : F_impl_CmdFault fu x_0 = some y) : Good E Try.prog 54 [(.agg [(.int .i64 x_0.Kind), (.int .i64 x_0.Expect), (.int .i64 x_0.Name), (.int .i64 x_0.Addr), (.int .i64 x_0.Number), (.int .i64 x_0.Proto)])] (enc_i64 y) :=
  fun_good E_ok (pc_good (pc := pc_b13 fu) (hpc_b13 fu) hpx0) (fn := Try.f54) (c := body_b13) (out := out_i64) (y := y) (by kernel_rfl) (by kernel_rfl) (by kernel_rfl) (lpok_b13 fu) (fun d hd => out_i64_enc d _ hd) ((ev_b13 fu x_0).trans hy)
theorem good_b13 (fu : Nat) : ∀ xs o, S_b13 fu xs = some o → ∀ y, o.x = some y → Good E Try.prog 54 xs (o.g y) := by
  intro xs o h y hy
  unfold S_b13 at h
  split at h
  · rename_i a0_1 a0_2 a0_3 a0_4 a0_5 a0_6
    cases h
    exact goodv_b13 fu (⟨a0_1, a0_2, a0_3, a0_4, a0_5, a0_6⟩ : S_impl_Cmd) y hy
  · cases h

/-! impl.cmdsFault -/
def F_impl_cmdsFault_B0 {ρ : Type} (fu : Nat) (t6_0 : (Sl S_impl_Cmd)) (t7_1 : Int) (k0 : Int → Int → Int → Int → Int → Int → Int → Option ρ) (k1 : Option ρ) (t8_2 : Int) (go : Int → Option ρ) : Option ρ :=
  (bif (decide (t8_2 < t7_1)) then ((bif (decide (0 ≤ t8_2) && decide ((Int.toNat t8_2) < t6_0.n)) then some () else none : Option Unit).bind fun _ => ((F_impl_CmdFault fu (t6_0.f (Int.toNat t8_2))).bind fun y203 =>
    (bif (y203 != 0) then (k0 y203 (t6_0.f (Int.toNat t8_2)).Kind (t6_0.f (Int.toNat t8_2)).Expect (t6_0.f (Int.toNat t8_2)).Name (t6_0.f (Int.toNat t8_2)).Addr (t6_0.f (Int.toNat t8_2)).Number (t6_0.f (Int.toNat t8_2)).Proto) else
    (go (IntKind.wrap .i64 (t8_2 + 1)))))) else k1)
def F_impl_cmdsFault (fu : Nat) (list_0 : (Sl S_impl_Cmd)) : Option (Int) :=
  (L (fun w0 go0 => F_impl_cmdsFault_B0 fu list_0 ((list_0.n : Nat) : Int) (fun z204 z205 z206 z207 z208 z209 z210 => (some z204)) (some 0) w0 go0) fu (0 : Int))
def pcf_b14 (fu : Nat) (f : Nat) (xs : List (D RT den)) : Option (Out RT den) := match f with | 54 => S_b13 fu xs | _ => none
def pc_b14 (fu : Nat) : Pc RT den := ⟨pcf_b14 fu, fun _ => false, fun _ => false, pcd0, pcx0⟩
def msk_b14 (b : Nat) : List Nat := match b with | 0 => [0, 1, 2, 3, 4, 5, 9, 10, 11, 12, 13, 14, 15, 16, 17] | 100000 => [0, 1, 3, 4, 5, 6, 7, 8, 9, 10, 11, 12, 13, 14, 15, 16, 17] | _ => []
def ps_b14_0 : List (Pat RT) := [.flat .q, .flat .q, .flat .q, .flat .q, .flat .q, .flat .q, .flat (.rs .impl_Cmd), .flat (.int .i64), .flat (.int .i64), .flat .q, .flat .q, .flat .q, .flat .q, .flat .q, .flat .q, .flat .q, .flat .q, .flat .q]
def os_b14_0 : List (OP RT) := []
def conv_b14_0 (r : Raw den ps_b14_0 os_b14_0) : ((Sl S_impl_Cmd) × Int) × (Int) := ((r.1.2.2.2.2.2.2.1, r.1.2.2.2.2.2.2.2.1), r.1.2.2.2.2.2.2.2.2.1)
def back_b14_0 (c : (Sl S_impl_Cmd) × Int) (w : Int) : St RT den := ⟨[.q, .q, .q, .q, .q, .q, (.rs c.1.z .impl_Cmd c.1.n c.1.f), (.int .i64 c.2), (.int .i64 w), .q, .q, .q, .q, .q, .q, .q, .q, .q], []⟩
def Bk_b14_0 {ρ : Type} (fu : Nat) (c : (Sl S_impl_Cmd) × Int) (k : Ex → St RT den → Option ρ) (w : Int) (go : (Int) → Option ρ) : Option ρ := F_impl_cmdsFault_B0 fu c.1 c.2 (fun a0 a1 a2 a3 a4 a5 a6 => k .ret ⟨[.q, .q, (.int .i64 a0), .q, .q, .q, .q, .q, .q, .q, .q, .q, .q, .q, .q, .q, .q, .q], [(.box false [(.int .i64 a1), (.int .i64 a2), (.int .i64 a3), (.int .i64 a4), (.int .i64 a5), (.int .i64 a6)])]⟩) (k (.exit 0) ⟨[.q, .q, .q, .q, .q, .q, .q, .q, .q, .q, .q, .q, .q, .q, .q, .q, .q, .q], []⟩) w go
def lp_b14 (fu : Nat) : Lp RT den (Int) := fun b s k => match b with | 0 => handle ps_b14_0 os_b14_0 conv_b14_0 (Bk_b14_0 fu) fu s k | _ => none
theorem ev_b14 (fu : Nat) (list_0 : (Sl S_impl_Cmd)) : evFun E (pc_b14 fu) msk_b14 (lp_b14 fu) out_i64 71 [(.rs list_0.z .impl_Cmd list_0.n list_0.f)] = F_impl_cmdsFault fu list_0 := by kernel_rfl
noncomputable def body_b14 : Code := Try.f71.body.getD .skip
noncomputable def lc_b14_0 : Code := ((loops 0 body_b14).getD 0 (0, .skip)).2
theorem round_b14_0 (fu : Nat) (it : St RT den → Option (Int)) (k : Ex → St RT den → Option (Int)) c w : evCode E (pc_b14 fu) msk_b14 (lp_b14 fu) 0 lc_b14_0 (back_b14_0 c w) (after (msk_b14 0) (msk_b14 100000) 0 it k) = Bk_b14_0 fu c k w (fun w => it (back_b14_0 c w)) := by kernel_rfl
theorem lpok_b14_0 (fu : Nat) : ∀ s k r, lp_b14 fu 0 s k = some r → ∃ fuel, iter (msk_b14 0) (msk_b14 100000) s.objs.length (evCode E (pc_b14 fu) msk_b14 (lp_b14 fu) 0 lc_b14_0) fuel s k = some r :=
  handle_ok (ps := ps_b14_0) (os := os_b14_0) (conv := conv_b14_0) (B := Bk_b14_0 fu) (fu := fu) back_b14_0 (fun raw => by kernel_rfl) 0 (fun c w => by kernel_rfl) (round_b14_0 fu)
theorem lpok_b14 (fu : Nat) : LpOk E (pc_b14 fu) msk_b14 (lp_b14 fu) (loops 0 body_b14) := loop_all 1 (by kernel_rfl) fun i hi => match i, hi with
  | 0, _ => by
    have h : (loops 0 body_b14).getD 0 (0, .skip) = (0, lc_b14_0) := by kernel_rfl
    rw [h]; exact lpok_b14_0 fu
  | i + 1, hi => absurd hi (by omega)
def S_b14 (fu : Nat) (xs : List (D RT den)) : Option (Out RT den) := match xs with | [.rs za0_0 .impl_Cmd na0_0 fa0_0] => some ⟨Int, F_impl_cmdsFault fu (⟨za0_0, na0_0, fa0_0⟩ : (Sl S_impl_Cmd)), enc_i64, fun _ => true⟩ | _ => none
theorem hpc_b14 (fu : Nat) : ∀ f xs o, pcf_b14 fu f xs = some o → ∀ y, o.x = some y → Good E Try.prog f xs (o.g y) := by
  intro f xs o h
  unfold pcf_b14 at h
  split at h
  · exact good_b13 fu xs o h
  · cases h
theorem goodv_b14 (fu : Nat) (list_0 : (Sl S_impl_Cmd)) (y : Int) (hy : F_impl_cmdsFault fu list_0 = some y) : Good E Try.prog 71 [(.rs list_0.z .impl_Cmd list_0.n list_0.f)] (enc_i64 y) :=
  fun_good E_ok (pc_good (pc := pc_b14 fu) (hpc_b14 fu) hpx0) (fn := Try.f71) (c := body_b14) (out := out_i64) (y := y) (by kernel_rfl) (by kernel_rfl) (by kernel_rfl) (lpok_b14 fu) (fun d hd => out_i64_enc d _ hd) ((ev_b14 fu list_0).trans hy)
theorem good_b14 (fu : Nat) : ∀ xs o, S_b14 fu xs = some o → ∀ y, o.x = some y → Good E Try.prog 71 xs (o.g y) := by
  intro xs o h y hy
  unfold S_b14 at h
  split at h
  · rename_i za0_0 na0_0 fa0_0
    cases h
    exact goodv_b14 fu (⟨za0_0, na0_0, fa0_0⟩ : (Sl S_impl_Cmd)) y hy
  · cases h

/-! impl.ServeFrom -/
def F_impl_ServeFrom_U_B0 {ρ : Type} (fu : Nat) (all0_0 : (Sl S_impl_Config)) (cmds1_1 : (Sl S_impl_Cmd)) (from2_2 : Int) (t26_3 : (Sl S_impl_Config)) (t27_4 : Int) (o0_6 : Int) (o0_7 : Int) (o0_8 : Int) (o0_9 : Bool) (o0_10 : Int) (k0 : Int → Int → (Sl S_impl_Backend) → (Sl S_impl_Vip) → Option ρ) (k1 : Int → (Sl S_impl_Backend) → (Sl S_impl_Vip) → Option ρ) (k2 : Option ρ) (t28_5 : Int) (go : Int → Option ρ) : Option ρ :=
  (bif (decide (t28_5 < t27_4)) then ((bif (decide (0 ≤ t28_5) && decide ((Int.toNat t28_5) < t26_3.n)) then some () else none : Option Unit).bind fun _ => ((F_impl_ConfigFault fu (t26_3.f (Int.toNat t28_5))).bind fun y115 =>
    (bif (y115 != 0) then (k0 y115 (t26_3.f (Int.toNat t28_5)).Version (t26_3.f (Int.toNat t28_5)).Backends (t26_3.f (Int.toNat t28_5)).Vips) else ((bif (decide (0 ≤ (0 : Int)) &&
    decide ((Int.toNat 0) < all0_0.n)) then some () else none : Option Unit).bind fun _ => (bif ((t26_3.f (Int.toNat t28_5)).Version != (IntKind.wrap .i64 ((all0_0.f (Int.toNat 0)).Version + t28_5))) then
    (k1 (t26_3.f (Int.toNat t28_5)).Version (t26_3.f (Int.toNat t28_5)).Backends (t26_3.f (Int.toNat t28_5)).Vips) else (go (IntKind.wrap .i64 (t28_5 + 1)))))))) else k2)
def F_impl_ServeFrom_U (fu : Nat) (all_0 : (Sl S_impl_Config)) (cmds_1 : (Sl S_impl_Cmd)) (from_2 : Int) : Option (Int × Int × Int × Bool × Int × Nat × Nat × Nat × Nat × (Nat → S_impl_Backend) × Nat × (Nat → S_impl_Vip) × Nat × (Nat → S_impl_Cmd)) :=
  ((((F_impl_size_impl_Config fu all_0).bind fun y112 => ((F_impl_in fu y112 1 60).bind fun y113 => (bif (!y113) then (some true) else (some (((cmds_1.n : Nat) : Int) != (IntKind.wrap .i64 (((all_0.n : Nat) : Int) - 1))))))) : Option Bool).bind fun m114 =>
    (bif m114 then (bif (decide ((0 : Nat) = 0) && true) then (some (2, 0, 0, false, 0, 0, 0, 0, 0, (fun _ => dflt .impl_Backend), 0, (fun _ => dflt .impl_Vip), 0, (fun _ => dflt .impl_Cmd))) else
    none) else (L (fun w0 go0 => F_impl_ServeFrom_U_B0 fu all_0 cmds_1 from_2 all_0 ((all_0.n : Nat) : Int) 0 0 0 false 0 (fun z116 z117 z118 z119 => (bif (decide ((0 : Nat) = 0) &&
    true) then (some (z116, 0, 0, false, 0, 0, 0, 0, 0, (fun _ => dflt .impl_Backend), 0, (fun _ => dflt .impl_Vip), 0, (fun _ => dflt .impl_Cmd))) else none)) (fun z120 z121 z122 =>
    (bif (decide ((0 : Nat) = 0) && true) then (some (1, 0, 0, false, 0, 0, 0, 0, 0, (fun _ => dflt .impl_Backend), 0, (fun _ => dflt .impl_Vip), 0, (fun _ => dflt .impl_Cmd))) else
    none)) ((F_impl_cmdsFault fu cmds_1).bind fun y123 => (((bif (y123 == 0) then (some (decide (from_2 < 0))) else (some false)) : Option Bool).bind fun m124 => (bif m124 then (bif (decide ((0 : Nat) = 0) &&
    true) then (some (3, 0, 0, false, 0, 0, 0, 0, 0, (fun _ => dflt .impl_Backend), 0, (fun _ => dflt .impl_Vip), 0, (fun _ => dflt .impl_Cmd))) else none) else (bif (y123 != 0) then
    (bif (decide ((0 : Nat) = 0) && true) then (some (y123, 0, 0, false, 0, 0, 0, 0, 0, (fun _ => dflt .impl_Backend), 0, (fun _ => dflt .impl_Vip), 0, (fun _ => dflt .impl_Cmd))) else
    none) else ((bif (decide (0 ≤ (IntKind.wrap .i64 (((all_0.n : Nat) : Int) - 1))) && decide ((Int.toNat (IntKind.wrap .i64 (((all_0.n : Nat) : Int) - 1))) < all_0.n)) then some () else
    none : Option Unit).bind fun _ => ((bif (decide (0 ≤ (0 : Int)) && decide ((Int.toNat 0) < all_0.n)) then some () else none : Option Unit).bind fun _ =>
    ((((F_impl_size_impl_Config fu all_0).bind fun y125 => ((F_impl_in fu (IntKind.wrap .i64 (from_2 - (all_0.f (Int.toNat 0)).Version)) 0 (IntKind.wrap .i64 (y125 - 2))).bind fun y126 =>
    (bif y126 then (some (decide ((IntKind.wrap .i64 ((all_0.f (Int.toNat (IntKind.wrap .i64 (((all_0.n : Nat) : Int) - 1)))).Version - from_2)) < 5))) else (some false)))) : Option Bool).bind fun m127 =>
    (bif m127 then ((bif (decide (0 ≤ (IntKind.wrap .i64 (from_2 - (all_0.f (Int.toNat 0)).Version))) && (decide ((IntKind.wrap .i64 (from_2 - (all_0.f (Int.toNat 0)).Version)) ≤ ((cmds_1.n : Nat) : Int)) &&
    decide (cmds_1.n ≤ cmds_1.n))) then some () else none : Option Unit).bind fun _ => ((F_slices_Clone_impl_Cmd_impl_Cmd_H fu (⟨cmds_1.z, (cmds_1.n - (Int.toNat (IntKind.wrap .i64 (from_2 - (all_0.f (Int.toNat 0)).Version)))),
    (fun i => cmds_1.f ((Int.toNat (IntKind.wrap .i64 (from_2 - (all_0.f (Int.toNat 0)).Version))) + i))⟩ : (Sl S_impl_Cmd))).bind fun y130 => (bif (decide ((0 : Nat) = 0) && true) then
    (some (0, from_2, (all_0.f (Int.toNat (IntKind.wrap .i64 (((all_0.n : Nat) : Int) - 1)))).Version, false, 0, 0, 0, y130.n, 0, (fun _ => dflt .impl_Backend), 0, (fun _ => dflt .impl_Vip),
    y130.n, y130.f)) else none))) else ((F_impl_full_U fu (all_0.f (Int.toNat (IntKind.wrap .i64 (((all_0.n : Nat) : Int) - 1))))).bind fun y145 => (bif (decide (y145.2.2.2.2.2.1 ≤ y145.2.2.2.2.2.2.2.2.2.1) &&
    true) then (bif (decide (y145.2.2.2.2.2.1 = y145.2.2.2.2.2.1) && true) then (some (0, y145.1, y145.2.1, y145.2.2.1, y145.2.2.2.1, y145.2.2.2.2.1, y145.2.2.2.2.2.1,
    y145.2.2.2.2.2.2.1, y145.2.2.2.2.1, y145.2.2.2.2.2.2.2.2.1, y145.2.2.2.2.2.1, y145.2.2.2.2.2.2.2.2.2.2.1, y145.2.2.2.2.2.2.1, y145.2.2.2.2.2.2.2.2.2.2.2.2)) else none) else
    none)))))))))) w0 go0) fu (0 : Int))))
def pcf_b15 (fu : Nat) (f : Nat) (xs : List (D RT den)) : Option (Out RT den) := match f with | 43 => S_b10 fu xs | 69 => S_a34 fu xs | 70 => S_a33 fu xs | 71 => S_b14 fu xs | _ => none
def pcx_b15 (fu : Nat) (f : Nat) (xs : List (D RT den)) (ins : List (Ob RT den)) : Option (OutX RT den) := match f with | 72 => S_a27 fu xs ins | 73 => S_a32 fu xs ins | _ => none
def pcd_b15 : Nat → Bool := fun f => match f with | 73 => true | _ => false
def pc_b15 (fu : Nat) : Pc RT den := ⟨pcf_b15 fu, fun f => match f with | 72 => true | 73 => true | _ => false, fun _ => false, pcd_b15, pcx_b15 fu⟩
def msk_b15 (b : Nat) : List Nat := match b with | 0 => [3, 4, 5, 7, 8, 9, 10, 11, 12, 13, 14, 15, 16, 17, 18, 19, 20, 21, 22, 23, 24, 25, 29, 30, 31, 32, 33, 34, 35, 36, 37, 38, 39, 40, 41, 42, 43, 44, 45, 46, 47, 48, 49, 50, 51, 52, 53, 54, 55, 56, 57, 58, 59, 60, 61, 62, 63, 64, 65, 66, 67, 68, 69, 70, 71, 72, 73, 74, 75, 76, 77, 78, 79, 80, 81, 82, 83, 84, 85, 86, 87, 88, 89, 90, 91, 92, 93, 94, 95, 96, 97] | 100000 => [3, 4, 5, 7, 8, 9, 10, 11, 12, 13, 14, 15, 16, 17, 18, 19, 20, 21, 22, 23, 24, 25, 26, 27, 28, 29, 30, 31, 32, 33, 34, 35, 36, 37, 38, 39, 40, 41, 42, 43, 44, 45, 46, 47, 48, 49, 50, 51, 52, 53, 54, 55, 56, 57, 58, 59, 60, 61, 62, 63, 64, 65, 66, 67, 68, 69, 70, 71, 72, 73, 74, 75, 76, 77, 78, 79, 80, 81, 82, 83, 84, 85, 86, 87, 88, 89, 90, 91, 92, 93, 94, 95, 96, 97] | 200001 => [24] | 200013 => [57] | 200019 => [85] | _ => []
def ps_b15_0 : List (Pat RT) := [.flat (.rs .impl_Config), .flat (.rs .impl_Cmd), .flat (.int .i64), .flat .q, .flat .q, .flat .q, .flat (.ref 0 0), .flat .q, .flat .q, .flat .q, .flat .q, .flat .q, .flat .q, .flat .q, .flat .q, .flat .q, .flat .q, .flat .q, .flat .q, .flat .q, .flat .q, .flat .q, .flat .q, .flat .q, .flat .q, .flat .q, .flat (.rs .impl_Config), .flat (.int .i64), .flat (.int .i64), .flat .q, .flat .q, .flat .q, .flat .q, .flat .q, .flat .q, .flat .q, .flat .q, .flat .q, .flat .q, .flat .q, .flat .q, .flat .q, .flat .q, .flat .q, .flat .q, .flat .q, .flat .q, .flat .q, .flat .q, .flat .q, .flat .q, .flat .q, .flat .q, .flat .q, .flat .q, .flat .q, .flat .q, .flat .q, .flat .q, .flat .q, .flat .q, .flat .q, .flat .q, .flat .q, .flat .q, .flat .q, .flat .q, .flat .q, .flat .q, .flat .q, .flat .q, .flat .q, .flat .q, .flat .q, .flat .q, .flat .q, .flat .q, .flat .q, .flat .q, .flat .q, .flat .q, .flat .q, .flat .q, .flat .q, .flat .q, .flat .q, .flat .q, .flat .q, .flat .q, .flat .q, .flat .q, .flat .q, .flat .q, .flat .q, .flat .q, .flat .q, .flat .q, .flat .q]
def os_b15_0 : List (OP RT) := [.box false [(.int .i64), (.int .i64), (.int .i64), .bool, (.int .i64), (.emp true .impl_Backend), (.emp true .impl_Vip), (.emp true .impl_Cmd)]]
def conv_b15_0 (r : Raw den ps_b15_0 os_b15_0) : ((Sl S_impl_Config) × (Sl S_impl_Cmd) × Int × (Sl S_impl_Config) × Int × Int × Int × Int × Bool × Int) × (Int) := ((r.1.1, r.1.2.1, r.1.2.2.1, r.1.2.2.2.2.2.2.2.2.2.2.2.2.2.2.2.2.2.2.2.2.2.2.2.2.2.2.1, r.1.2.2.2.2.2.2.2.2.2.2.2.2.2.2.2.2.2.2.2.2.2.2.2.2.2.2.2.1, r.2.1.1, r.2.1.2.1, r.2.1.2.2.1, r.2.1.2.2.2.1, r.2.1.2.2.2.2.1), r.1.2.2.2.2.2.2.2.2.2.2.2.2.2.2.2.2.2.2.2.2.2.2.2.2.2.2.2.2.1)
def back_b15_0 (c : (Sl S_impl_Config) × (Sl S_impl_Cmd) × Int × (Sl S_impl_Config) × Int × Int × Int × Int × Bool × Int) (w : Int) : St RT den := ⟨[(.rs c.1.z .impl_Config c.1.n c.1.f), (.rs c.2.1.z .impl_Cmd c.2.1.n c.2.1.f), (.int .i64 c.2.2.1), .q, .q, .q, (.ref 0 0), .q, .q, .q, .q, .q, .q, .q, .q, .q, .q, .q, .q, .q, .q, .q, .q, .q, .q, .q, (.rs c.2.2.2.1.z .impl_Config c.2.2.2.1.n c.2.2.2.1.f), (.int .i64 c.2.2.2.2.1), (.int .i64 w), .q, .q, .q, .q, .q, .q, .q, .q, .q, .q, .q, .q, .q, .q, .q, .q, .q, .q, .q, .q, .q, .q, .q, .q, .q, .q, .q, .q, .q, .q, .q, .q, .q, .q, .q, .q, .q, .q, .q, .q, .q, .q, .q, .q, .q, .q, .q, .q, .q, .q, .q, .q, .q, .q, .q, .q, .q, .q, .q, .q, .q, .q, .q, .q, .q, .q, .q, .q, .q], [(.box false [(.int .i64 c.2.2.2.2.2.1), (.int .i64 c.2.2.2.2.2.2.1), (.int .i64 c.2.2.2.2.2.2.2.1), (.bool c.2.2.2.2.2.2.2.2.1), (.int .i64 c.2.2.2.2.2.2.2.2.2), (.emp true .impl_Backend), (.emp true .impl_Vip), (.emp true .impl_Cmd)])]⟩
def Bk_b15_0 {ρ : Type} (fu : Nat) (c : (Sl S_impl_Config) × (Sl S_impl_Cmd) × Int × (Sl S_impl_Config) × Int × Int × Int × Int × Bool × Int) (k : Ex → St RT den → Option ρ) (w : Int) (go : (Int) → Option ρ) : Option ρ := F_impl_ServeFrom_U_B0 fu c.1 c.2.1 c.2.2.1 c.2.2.2.1 c.2.2.2.2.1 c.2.2.2.2.2.1 c.2.2.2.2.2.2.1 c.2.2.2.2.2.2.2.1 c.2.2.2.2.2.2.2.2.1 c.2.2.2.2.2.2.2.2.2 (fun a0 a1 a2 a3 => k .ret ⟨[(.rs c.1.z .impl_Config c.1.n c.1.f), (.rs c.2.1.z .impl_Cmd c.2.1.n c.2.1.f), (.int .i64 c.2.2.1), .q, .q, .q, (.ref 0 0), .q, .q, .q, .q, .q, .q, .q, .q, .q, .q, .q, .q, .q, .q, .q, .q, .q, .q, .q, .q, .q, .q, .q, .q, .q, .q, .q, .q, .q, .q, .q, .q, .q, .q, .q, .q, .q, .q, .q, .q, .q, .q, .q, .q, .q, .q, .q, .q, .q, .q, .q, .q, .q, .q, .q, .q, .q, .q, .q, .q, .q, .q, .q, .q, .q, .q, .q, .q, .q, .q, .q, .q, .q, .q, .q, .q, .q, .q, .q, .q, .q, .q, .q, .q, .q, .q, .q, .q, .q, .q, .q], [(.box false [(.int .i64 a0), (.int .i64 0), (.int .i64 0), (.bool false), (.int .i64 0), (.emp true .impl_Backend), (.emp true .impl_Vip), (.emp true .impl_Cmd)]), (.box false [(.int .i64 a1), (.rs a2.z .impl_Backend a2.n a2.f), (.rs a3.z .impl_Vip a3.n a3.f)])]⟩) (fun a0 a1 a2 => k .ret ⟨[(.rs c.1.z .impl_Config c.1.n c.1.f), (.rs c.2.1.z .impl_Cmd c.2.1.n c.2.1.f), (.int .i64 c.2.2.1), .q, .q, .q, (.ref 0 0), .q, .q, .q, .q, .q, .q, .q, .q, .q, .q, .q, .q, .q, .q, .q, .q, .q, .q, .q, .q, .q, .q, .q, .q, .q, .q, .q, .q, .q, .q, .q, .q, .q, .q, .q, .q, .q, .q, .q, .q, .q, .q, .q, .q, .q, .q, .q, .q, .q, .q, .q, .q, .q, .q, .q, .q, .q, .q, .q, .q, .q, .q, .q, .q, .q, .q, .q, .q, .q, .q, .q, .q, .q, .q, .q, .q, .q, .q, .q, .q, .q, .q, .q, .q, .q, .q, .q, .q, .q, .q, .q], [(.box false [(.int .i64 1), (.int .i64 0), (.int .i64 0), (.bool false), (.int .i64 0), (.emp true .impl_Backend), (.emp true .impl_Vip), (.emp true .impl_Cmd)]), (.box false [(.int .i64 a0), (.rs a1.z .impl_Backend a1.n a1.f), (.rs a2.z .impl_Vip a2.n a2.f)])]⟩) (k (.exit 0) ⟨[(.rs c.1.z .impl_Config c.1.n c.1.f), (.rs c.2.1.z .impl_Cmd c.2.1.n c.2.1.f), (.int .i64 c.2.2.1), .q, .q, .q, (.ref 0 0), .q, .q, .q, .q, .q, .q, .q, .q, .q, .q, .q, .q, .q, .q, .q, .q, .q, .q, .q, .q, .q, .q, .q, .q, .q, .q, .q, .q, .q, .q, .q, .q, .q, .q, .q, .q, .q, .q, .q, .q, .q, .q, .q, .q, .q, .q, .q, .q, .q, .q, .q, .q, .q, .q, .q, .q, .q, .q, .q, .q, .q, .q, .q, .q, .q, .q, .q, .q, .q, .q, .q, .q, .q, .q, .q, .q, .q, .q, .q, .q, .q, .q, .q, .q, .q, .q, .q, .q, .q, .q, .q], [(.box false [(.int .i64 c.2.2.2.2.2.1), (.int .i64 c.2.2.2.2.2.2.1), (.int .i64 c.2.2.2.2.2.2.2.1), (.bool c.2.2.2.2.2.2.2.2.1), (.int .i64 c.2.2.2.2.2.2.2.2.2), (.emp true .impl_Backend), (.emp true .impl_Vip), (.emp true .impl_Cmd)])]⟩) w go
def lp_b15 (fu : Nat) : Lp RT den (Int × Int × Int × Bool × Int × Nat × Nat × Nat × Nat × (Nat → S_impl_Backend) × Nat × (Nat → S_impl_Vip) × Nat × (Nat → S_impl_Cmd)) := fun b s k => match b with | 0 => handle ps_b15_0 os_b15_0 conv_b15_0 (Bk_b15_0 fu) fu s k | _ => none
def pso_b15 : List (Pat RT) := [.agg [(.int .i64), (.int .i64), (.int .i64), .bool, (.int .i64), (.os 0), (.os 1), (.os 2)]]
def oso_b15 : List (OP RT) := [.row false .impl_Backend, .deep false .impl_Vip, .row false .impl_Cmd]
def conv_b15 (r : Raw den pso_b15 oso_b15) : Int × Int × Int × Bool × Int × Nat × Nat × Nat × Nat × (Nat → S_impl_Backend) × Nat × (Nat → S_impl_Vip) × Nat × (Nat → S_impl_Cmd) := (r.1.1.1, r.1.1.2.1, r.1.1.2.2.1, r.1.1.2.2.2.1, r.1.1.2.2.2.2.1, r.1.1.2.2.2.2.2.1, r.1.1.2.2.2.2.2.2.1, r.1.1.2.2.2.2.2.2.2.1, r.2.1.1, r.2.1.2, r.2.2.1.1, r.2.2.1.2.2, r.2.2.2.1.1, r.2.2.2.1.2)
def enc_b15 (y : Int × Int × Int × Bool × Int × Nat × Nat × Nat × Nat × (Nat → S_impl_Backend) × Nat × (Nat → S_impl_Vip) × Nat × (Nat → S_impl_Cmd)) : D RT den × List (Ob RT den) := ((.agg [(.int .i64 y.1), (.int .i64 y.2.1), (.int .i64 y.2.2.1), (.bool y.2.2.2.1), (.int .i64 y.2.2.2.2.1), (.os 0 y.2.2.2.2.2.1), (.os 1 y.2.2.2.2.2.2.1), (.os 2 y.2.2.2.2.2.2.2.1)]), [(.row false .impl_Backend y.2.2.2.2.2.2.2.2.1 y.2.2.2.2.2.2.2.2.2.1), (.deep false .impl_Vip y.2.2.2.2.2.2.2.2.2.2.1 y.2.2.2.2.2.2.2.2.2.2.1 y.2.2.2.2.2.2.2.2.2.2.2.1), (.row false .impl_Cmd y.2.2.2.2.2.2.2.2.2.2.2.2.1 y.2.2.2.2.2.2.2.2.2.2.2.2.2)])
def chk_b15 (r : Raw den pso_b15 oso_b15) : Bool := (decide (r.2.2.1.2.1 = r.2.2.1.1) && true)
def raw_b15 (r : Raw den pso_b15 oso_b15) : St RT den := ⟨[(.agg [(.int .i64 r.1.1.1), (.int .i64 r.1.1.2.1), (.int .i64 r.1.1.2.2.1), (.bool r.1.1.2.2.2.1), (.int .i64 r.1.1.2.2.2.2.1), (.os 0 r.1.1.2.2.2.2.2.1), (.os 1 r.1.1.2.2.2.2.2.2.1), (.os 2 r.1.1.2.2.2.2.2.2.2.1)])], [(.row false .impl_Backend r.2.1.1 r.2.1.2), (.deep false .impl_Vip r.2.2.1.1 r.2.2.1.2.1 r.2.2.1.2.2), (.row false .impl_Cmd r.2.2.2.1.1 r.2.2.2.1.2)]⟩
theorem chkd_b15 (r : Raw den pso_b15 oso_b15) (h : chk_b15 r = true) : raw_b15 r = ⟨[(enc_b15 (conv_b15 r)).1], (enc_b15 (conv_b15 r)).2⟩ := by
  simp only [chk_b15, Bool.and_eq_true, decide_eq_true_eq, and_true] at h
  simp only [raw_b15, enc_b15, conv_b15, h]
def out_b15 (d : D RT den) (os : List (Ob RT den)) : Option (Int × Int × Int × Bool × Int × Nat × Nat × Nat × Nat × (Nat → S_impl_Backend) × Nat × (Nat → S_impl_Vip) × Nat × (Nat → S_impl_Cmd)) := (unSt pso_b15 oso_b15 ⟨[d], os⟩).bind fun v => bif chk_b15 v.1 then some (conv_b15 v.1) else none
theorem out_b15_enc (d : D RT den) (os : List (Ob RT den)) (y : Int × Int × Int × Bool × Int × Nat × Nat × Nat × Nat × (Nat → S_impl_Backend) × Nat × (Nat → S_impl_Vip) × Nat × (Nat → S_impl_Cmd)) (h : out_b15 d os = some y) : d = (enc_b15 y).1 ∧ os = (enc_b15 y).2 :=
  outU (conv := conv_b15) (enc := enc_b15) (chk := chk_b15) (fun raw h => Eq.trans (by kernel_rfl) (chkd_b15 raw h)) h
theorem ev_b15 (fu : Nat) (all_0 : (Sl S_impl_Config)) (cmds_1 : (Sl S_impl_Cmd)) (from_2 : Int) : evFunU E (pc_b15 fu) msk_b15 (lp_b15 fu) out_b15 31 [(.rs all_0.z .impl_Config all_0.n all_0.f), (.rs cmds_1.z .impl_Cmd cmds_1.n cmds_1.f), (.int .i64 from_2)] [] = F_impl_ServeFrom_U fu all_0 cmds_1 from_2 := by kernel_rfl
noncomputable def body_b15 : Code := Try.f31.body.getD .skip
noncomputable def lc_b15_0 : Code := ((loops 0 body_b15).getD 0 (0, .skip)).2
theorem round_b15_0 (fu : Nat) (it : St RT den → Option (Int × Int × Int × Bool × Int × Nat × Nat × Nat × Nat × (Nat → S_impl_Backend) × Nat × (Nat → S_impl_Vip) × Nat × (Nat → S_impl_Cmd))) (k : Ex → St RT den → Option (Int × Int × Int × Bool × Int × Nat × Nat × Nat × Nat × (Nat → S_impl_Backend) × Nat × (Nat → S_impl_Vip) × Nat × (Nat → S_impl_Cmd))) c w : evCode E (pc_b15 fu) msk_b15 (lp_b15 fu) 0 lc_b15_0 (back_b15_0 c w) (after (msk_b15 0) (msk_b15 100000) 1 it k) = Bk_b15_0 fu c k w (fun w => it (back_b15_0 c w)) := by kernel_rfl
theorem lpok_b15_0 (fu : Nat) : ∀ s k r, lp_b15 fu 0 s k = some r → ∃ fuel, iter (msk_b15 0) (msk_b15 100000) s.objs.length (evCode E (pc_b15 fu) msk_b15 (lp_b15 fu) 0 lc_b15_0) fuel s k = some r :=
  handle_ok (ps := ps_b15_0) (os := os_b15_0) (conv := conv_b15_0) (B := Bk_b15_0 fu) (fu := fu) back_b15_0 (fun raw => by kernel_rfl) 1 (fun c w => by kernel_rfl) (round_b15_0 fu)
theorem lpok_b15 (fu : Nat) : LpOk E (pc_b15 fu) msk_b15 (lp_b15 fu) (loops 0 body_b15) := loop_all 1 (by kernel_rfl) fun i hi => match i, hi with
  | 0, _ => by
    have h : (loops 0 body_b15).getD 0 (0, .skip) = (0, lc_b15_0) := by kernel_rfl
    rw [h]; exact lpok_b15_0 fu
  | i + 1, hi => absurd hi (by omega)
def S_b15 (fu : Nat) (xs : List (D RT den)) (ins : List (Ob RT den)) : Option (OutX RT den) := match xs, ins with | [.rs za0_0 .impl_Config na0_0 fa0_0, .rs za1_0 .impl_Cmd na1_0 fa1_0, .int .i64 a2_0], [] => some ⟨Int × Int × Int × Bool × Int × Nat × Nat × Nat × Nat × (Nat → S_impl_Backend) × Nat × (Nat → S_impl_Vip) × Nat × (Nat → S_impl_Cmd), F_impl_ServeFrom_U fu (⟨za0_0, na0_0, fa0_0⟩ : (Sl S_impl_Config)) (⟨za1_0, na1_0, fa1_0⟩ : (Sl S_impl_Cmd)) a2_0, enc_b15⟩ | _, _ => none
theorem hpc_b15 (fu : Nat) : ∀ f xs o, pcf_b15 fu f xs = some o → ∀ y, o.x = some y → Good E Try.prog f xs (o.g y) := by
  intro f xs o h
  unfold pcf_b15 at h
  split at h
  · exact good_b10 fu xs o h
  · exact good_a34 fu xs o h
  · exact good_a33 fu xs o h
  · exact good_b14 fu xs o h
  · cases h
theorem hpx_b15 (fu : Nat) : ∀ f xs ins o, pcx_b15 fu f xs ins = some o → ∀ y, o.x = some y → GoodXD E Try.prog (pcd_b15 f) f xs ins (o.g y).1 (o.g y).2 := by
  intro f xs ins o h
  unfold pcx_b15 at h
  split at h
  · exact good_a27 fu xs ins o h
  · exact good_a32 fu xs ins o h
  · cases h
theorem goodv_b15 (fu : Nat) (all_0 : (Sl S_impl_Config)) (cmds_1 : (Sl S_impl_Cmd)) (from_2 : Int) (y : Int × Int × Int × Bool × Int × Nat × Nat × Nat × Nat × (Nat → S_impl_Backend) × Nat × (Nat → S_impl_Vip) × Nat × (Nat → S_impl_Cmd)) (hy : F_impl_ServeFrom_U fu all_0 cmds_1 from_2 = some y) : GoodD E Try.prog 31 [(.rs all_0.z .impl_Config all_0.n all_0.f), (.rs cmds_1.z .impl_Cmd cmds_1.n cmds_1.f), (.int .i64 from_2)] [] (enc_b15 y).1 (enc_b15 y).2 :=
  funU_good E_ok (pc_good (pc := pc_b15 fu) (hpc_b15 fu) (hpx_b15 fu)) (fn := Try.f31) (c := body_b15) (out := out_b15) (y := y) (by kernel_rfl) (by kernel_rfl) (by kernel_rfl) (lpok_b15 fu) (by kernel_rfl) (Nat.le_of_ble_eq_true (by kernel_rfl)) (Fulls.get 0 (And.intro (Nat.le_refl _) trivial)) (fun d os hd => out_b15_enc d os _ hd) ((ev_b15 fu all_0 cmds_1 from_2).trans hy)
theorem good_b15 (fu : Nat) : ∀ xs ins o, S_b15 fu xs ins = some o → ∀ y, o.x = some y → GoodD E Try.prog 31 xs ins (o.g y).1 (o.g y).2 := by
  intro xs ins o h y hy
  unfold S_b15 at h
  split at h
  · rename_i za0_0 na0_0 fa0_0 za1_0 na1_0 fa1_0 a2_0
    cases h
    exact goodv_b15 fu (⟨za0_0, na0_0, fa0_0⟩ : (Sl S_impl_Config)) (⟨za1_0, na1_0, fa1_0⟩ : (Sl S_impl_Cmd)) a2_0 y hy
  · cases h

/-! laws.markBackendS -/
def F_laws_markBackendS_U_B0 {ρ : Type} (fu : Nat) (a0_0 : Nat) (on0_3 : Nat) (k0 : Int → (Nat → S_impl_Backend) → Option ρ) (k1_1 : Int) (i5_2 : Int) (of0_4 : (Nat → S_impl_Backend)) (go : Int → Int → (Nat → S_impl_Backend) → Option ρ) : Option ρ :=
  (bif (decide (i5_2 < ((a0_0 : Nat) : Int))) then ((bif (decide (0 ≤ i5_2) && decide ((Int.toNat i5_2) < a0_0)) then some () else none : Option Unit).bind fun _ => ((bif (decide (0 ≤ i5_2) &&
    decide ((Int.toNat i5_2) < a0_0)) then some () else none : Option Unit).bind fun _ => ((bif (decide (0 ≤ i5_2) && decide ((Int.toNat i5_2) < a0_0)) then some () else none : Option Unit).bind fun _ =>
    ((bif (decide (0 ≤ i5_2) && decide ((Int.toNat i5_2) < a0_0)) then some () else none : Option Unit).bind fun _ => ((bif (decide (0 ≤ i5_2) && decide ((Int.toNat i5_2) < a0_0)) then
    some () else none : Option Unit).bind fun _ => (go (IntKind.wrap .i64 ((IntKind.wrap .i64 ((IntKind.wrap .i64 ((IntKind.wrap .i64 ((IntKind.wrap .i64 (k1_1 + 1)) + 1)) + 1)) + 1)) + 1)) (IntKind.wrap .i64 (i5_2 + 1)) (upd_impl_Backend_4_1 (upd_impl_Backend_3_1 (upd_impl_Backend_2_1 (upd_impl_Backend_1_1 (upd_impl_Backend_0_1 of0_4 (Int.toNat i5_2) k1_1) (Int.toNat i5_2) (IntKind.wrap .i64 (k1_1 + 1))) (Int.toNat i5_2) (IntKind.wrap .i64 ((IntKind.wrap .i64 (k1_1 + 1)) + 1))) (Int.toNat i5_2) (IntKind.wrap .i64 ((IntKind.wrap .i64 ((IntKind.wrap .i64 (k1_1 + 1)) + 1)) + 1))) (Int.toNat i5_2) ((Int.tmod (IntKind.wrap .i64 ((IntKind.wrap .i64 ((IntKind.wrap .i64 ((IntKind.wrap .i64 (k1_1 + 1)) + 1)) + 1)) + 1)) 3) == 0)))))))) else
    (k0 k1_1 of0_4))
def F_laws_markBackendS_U (fu : Nat) (a_0_0 : Nat) (k_1 : Int) (rn0 : Nat) (rf0 : (Nat → S_impl_Backend)) : Option (Int × Nat × (Nat → S_impl_Backend)) :=
  (L (fun w0 go0 => F_laws_markBackendS_U_B0 fu a_0_0 rn0 (fun z244 z245 => (some (z244, rn0, z245))) w0.1 w0.2.1 w0.2.2 (fun q0 q1 q2 => go0 (q0, q1, q2))) fu ((k_1, 0, rf0) : Int × Int × (Nat → S_impl_Backend)))
def pc_b16 (fu : Nat) : Pc RT den := ⟨pcf0, fun _ => false, fun _ => false, pcd0, pcx0⟩
def msk_b16 (b : Nat) : List Nat := match b with | 0 => [2, 3, 4, 6, 7, 8, 9, 10, 11, 12, 13, 14, 15, 16, 17, 18, 19, 20, 21, 22, 23, 24, 25, 26, 27, 28, 29, 30, 31, 32, 33, 34, 35, 36, 37, 38, 39, 40, 41, 42, 43, 44, 45, 46, 47, 48, 49] | 100000 => [0, 2, 3, 5, 6, 7, 8, 9, 10, 11, 12, 13, 14, 15, 16, 17, 18, 19, 20, 21, 22, 23, 24, 25, 26, 27, 28, 29, 30, 31, 32, 33, 34, 35, 36, 37, 38, 39, 40, 41, 42, 43, 44, 45, 46, 47, 48, 49] | _ => []
def ps_b16_0 : List (Pat RT) := [.flat (.os 0), .flat (.int .i64), .flat .q, .flat .q, .flat .q, .flat (.int .i64), .flat .q, .flat .q, .flat .q, .flat .q, .flat .q, .flat .q, .flat .q, .flat .q, .flat .q, .flat .q, .flat .q, .flat .q, .flat .q, .flat .q, .flat .q, .flat .q, .flat .q, .flat .q, .flat .q, .flat .q, .flat .q, .flat .q, .flat .q, .flat .q, .flat .q, .flat .q, .flat .q, .flat .q, .flat .q, .flat .q, .flat .q, .flat .q, .flat .q, .flat .q, .flat .q, .flat .q, .flat .q, .flat .q, .flat .q, .flat .q, .flat .q, .flat .q, .flat .q, .flat .q]
def os_b16_0 : List (OP RT) := [.row true .impl_Backend]
def conv_b16_0 (r : Raw den ps_b16_0 os_b16_0) : (Nat × Nat) × (Int × Int × (Nat → S_impl_Backend)) := ((r.1.1, r.2.1.1), (r.1.2.1, r.1.2.2.2.2.2.1, r.2.1.2))
def back_b16_0 (c : Nat × Nat) (w : Int × Int × (Nat → S_impl_Backend)) : St RT den := ⟨[(.os 0 c.1), (.int .i64 w.1), .q, .q, .q, (.int .i64 w.2.1), .q, .q, .q, .q, .q, .q, .q, .q, .q, .q, .q, .q, .q, .q, .q, .q, .q, .q, .q, .q, .q, .q, .q, .q, .q, .q, .q, .q, .q, .q, .q, .q, .q, .q, .q, .q, .q, .q, .q, .q, .q, .q, .q, .q], [(.row true .impl_Backend c.2 w.2.2)]⟩
def Bk_b16_0 {ρ : Type} (fu : Nat) (c : Nat × Nat) (k : Ex → St RT den → Option ρ) (w : Int × Int × (Nat → S_impl_Backend)) (go : (Int × Int × (Nat → S_impl_Backend)) → Option ρ) : Option ρ := F_laws_markBackendS_U_B0 fu c.1 c.2 (fun a0 a1 => k (.exit 0) ⟨[.q, (.int .i64 a0), .q, .q, .q, .q, .q, .q, .q, .q, .q, .q, .q, .q, .q, .q, .q, .q, .q, .q, .q, .q, .q, .q, .q, .q, .q, .q, .q, .q, .q, .q, .q, .q, .q, .q, .q, .q, .q, .q, .q, .q, .q, .q, .q, .q, .q, .q, .q, .q], [(.row true .impl_Backend c.2 a1)]⟩) w.1 w.2.1 w.2.2 (fun q0 q1 q2 => go (q0, q1, q2))
def lp_b16 (fu : Nat) : Lp RT den (Int × Nat × (Nat → S_impl_Backend)) := fun b s k => match b with | 0 => handle ps_b16_0 os_b16_0 conv_b16_0 (Bk_b16_0 fu) fu s k | _ => none
def pso_b16 : List (Pat RT) := [.flat (.int .i64)]
def oso_b16 : List (OP RT) := [.row true .impl_Backend]
def conv_b16 (r : Raw den pso_b16 oso_b16) : Int × Nat × (Nat → S_impl_Backend) := (r.1.1, r.2.1.1, r.2.1.2)
def enc_b16 (y : Int × Nat × (Nat → S_impl_Backend)) : D RT den × List (Ob RT den) := ((.int .i64 y.1), [(.row true .impl_Backend y.2.1 y.2.2)])
def out_b16 (d : D RT den) (os : List (Ob RT den)) : Option (Int × Nat × (Nat → S_impl_Backend)) := (unSt pso_b16 oso_b16 ⟨[d], os⟩).bind fun v => some (conv_b16 v.1)
theorem out_b16_enc (d : D RT den) (os : List (Ob RT den)) (y : Int × Nat × (Nat → S_impl_Backend)) (h : out_b16 d os = some y) : d = (enc_b16 y).1 ∧ os = (enc_b16 y).2 :=
  outM (conv := conv_b16) (enc := enc_b16) (fun raw => by kernel_rfl) h
theorem ev_b16 (fu : Nat) (a_0_0 : Nat) (k_1 : Int) (rn0 : Nat) (rf0 : (Nat → S_impl_Backend)) : evFunU E (pc_b16 fu) msk_b16 (lp_b16 fu) out_b16 76 [(.os 0 a_0_0), (.int .i64 k_1)] [(.row true .impl_Backend rn0 rf0)] = F_laws_markBackendS_U fu a_0_0 k_1 rn0 rf0 := by kernel_rfl
noncomputable def body_b16 : Code := Try.f76.body.getD .skip
noncomputable def lc_b16_0 : Code := ((loops 0 body_b16).getD 0 (0, .skip)).2
theorem round_b16_0 (fu : Nat) (it : St RT den → Option (Int × Nat × (Nat → S_impl_Backend))) (k : Ex → St RT den → Option (Int × Nat × (Nat → S_impl_Backend))) c w : evCode E (pc_b16 fu) msk_b16 (lp_b16 fu) 0 lc_b16_0 (back_b16_0 c w) (after (msk_b16 0) (msk_b16 100000) 1 it k) = Bk_b16_0 fu c k w (fun w => it (back_b16_0 c w)) := by kernel_rfl
theorem lpok_b16_0 (fu : Nat) : ∀ s k r, lp_b16 fu 0 s k = some r → ∃ fuel, iter (msk_b16 0) (msk_b16 100000) s.objs.length (evCode E (pc_b16 fu) msk_b16 (lp_b16 fu) 0 lc_b16_0) fuel s k = some r :=
  handle_ok (ps := ps_b16_0) (os := os_b16_0) (conv := conv_b16_0) (B := Bk_b16_0 fu) (fu := fu) back_b16_0 (fun raw => by kernel_rfl) 1 (fun c w => by kernel_rfl) (round_b16_0 fu)
theorem lpok_b16 (fu : Nat) : LpOk E (pc_b16 fu) msk_b16 (lp_b16 fu) (loops 0 body_b16) := loop_all 1 (by kernel_rfl) fun i hi => match i, hi with
  | 0, _ => by
    have h : (loops 0 body_b16).getD 0 (0, .skip) = (0, lc_b16_0) := by kernel_rfl
    rw [h]; exact lpok_b16_0 fu
  | i + 1, hi => absurd hi (by omega)
def S_b16 (fu : Nat) (xs : List (D RT den)) (ins : List (Ob RT den)) : Option (OutX RT den) := match xs, ins with | [.os 0 a0_0, .int .i64 a1_0], [.row true .impl_Backend rn0 rf0] => some ⟨Int × Nat × (Nat → S_impl_Backend), F_laws_markBackendS_U fu a0_0 a1_0 rn0 rf0, enc_b16⟩ | _, _ => none
theorem goodv_b16 (fu : Nat) (a_0_0 : Nat) (k_1 : Int) (rn0 : Nat) (rf0 : (Nat → S_impl_Backend)) (y : Int × Nat × (Nat → S_impl_Backend)) (hy : F_laws_markBackendS_U fu a_0_0 k_1 rn0 rf0 = some y) : GoodD E Try.prog 76 [(.os 0 a_0_0), (.int .i64 k_1)] [(.row true .impl_Backend rn0 rf0)] (enc_b16 y).1 (enc_b16 y).2 :=
  funU_good E_ok (pc_good (pc := pc_b16 fu) hpc0 hpx0) (fn := Try.f76) (c := body_b16) (out := out_b16) (y := y) (by kernel_rfl) (by kernel_rfl) (by kernel_rfl) (lpok_b16 fu) (by kernel_rfl) (Nat.le_of_ble_eq_true (by kernel_rfl)) (Fulls.get 1 trivial) (fun d os hd => out_b16_enc d os _ hd) ((ev_b16 fu a_0_0 k_1 rn0 rf0).trans hy)
theorem good_b16 (fu : Nat) : ∀ xs ins o, S_b16 fu xs ins = some o → ∀ y, o.x = some y → GoodD E Try.prog 76 xs ins (o.g y).1 (o.g y).2 := by
  intro xs ins o h y hy
  unfold S_b16 at h
  split at h
  · rename_i a0_0 a1_0 rn0 rf0
    cases h
    exact goodv_b16 fu a0_0 a1_0 rn0 rf0 y hy
  · cases h

/-! laws.markInt64S -/
def F_laws_markInt64S_U_B0 {ρ : Type} (fu : Nat) (a0_0 : Nat) (on0_3 : Nat) (k0 : Int → (Nat → Int) → Option ρ) (k1_1 : Int) (i5_2 : Int) (of0_4 : (Nat → Int)) (go : Int → Int → (Nat → Int) → Option ρ) : Option ρ :=
  (bif (decide (i5_2 < ((a0_0 : Nat) : Int))) then ((bif (decide (0 ≤ i5_2) && decide ((Int.toNat i5_2) < a0_0)) then some () else none : Option Unit).bind fun _ => (go (IntKind.wrap .i64 (k1_1 + 1)) (IntKind.wrap .i64 (i5_2 + 1)) (fun j =>
    if j = (Int.toNat i5_2) then k1_1 else of0_4 j))) else (k0 k1_1 of0_4))
def F_laws_markInt64S_U (fu : Nat) (a_0_0 : Nat) (k_1 : Int) (rn0 : Nat) (rf0 : (Nat → Int)) : Option (Int × Nat × (Nat → Int)) :=
  (L (fun w0 go0 => F_laws_markInt64S_U_B0 fu a_0_0 rn0 (fun z247 z248 => (some (z247, rn0, z248))) w0.1 w0.2.1 w0.2.2 (fun q0 q1 q2 => go0 (q0, q1, q2))) fu ((k_1, 0, rf0) : Int × Int × (Nat → Int)))
def pc_b17 (fu : Nat) : Pc RT den := ⟨pcf0, fun _ => false, fun _ => false, pcd0, pcx0⟩
def msk_b17 (b : Nat) : List Nat := match b with | 0 => [2, 3, 4, 6, 7, 8, 9, 10, 11, 12, 13, 14, 15, 16, 17, 18] | 100000 => [0, 2, 3, 5, 6, 7, 8, 9, 10, 11, 12, 13, 14, 15, 16, 17, 18] | _ => []
def ps_b17_0 : List (Pat RT) := [.flat (.os 0), .flat (.int .i64), .flat .q, .flat .q, .flat .q, .flat (.int .i64), .flat .q, .flat .q, .flat .q, .flat .q, .flat .q, .flat .q, .flat .q, .flat .q, .flat .q, .flat .q, .flat .q, .flat .q, .flat .q]
def os_b17_0 : List (OP RT) := [.row true .i64]
def conv_b17_0 (r : Raw den ps_b17_0 os_b17_0) : (Nat × Nat) × (Int × Int × (Nat → Int)) := ((r.1.1, r.2.1.1), (r.1.2.1, r.1.2.2.2.2.2.1, r.2.1.2))
def back_b17_0 (c : Nat × Nat) (w : Int × Int × (Nat → Int)) : St RT den := ⟨[(.os 0 c.1), (.int .i64 w.1), .q, .q, .q, (.int .i64 w.2.1), .q, .q, .q, .q, .q, .q, .q, .q, .q, .q, .q, .q, .q], [(.row true .i64 c.2 w.2.2)]⟩
def Bk_b17_0 {ρ : Type} (fu : Nat) (c : Nat × Nat) (k : Ex → St RT den → Option ρ) (w : Int × Int × (Nat → Int)) (go : (Int × Int × (Nat → Int)) → Option ρ) : Option ρ := F_laws_markInt64S_U_B0 fu c.1 c.2 (fun a0 a1 => k (.exit 0) ⟨[.q, (.int .i64 a0), .q, .q, .q, .q, .q, .q, .q, .q, .q, .q, .q, .q, .q, .q, .q, .q, .q], [(.row true .i64 c.2 a1)]⟩) w.1 w.2.1 w.2.2 (fun q0 q1 q2 => go (q0, q1, q2))
def lp_b17 (fu : Nat) : Lp RT den (Int × Nat × (Nat → Int)) := fun b s k => match b with | 0 => handle ps_b17_0 os_b17_0 conv_b17_0 (Bk_b17_0 fu) fu s k | _ => none
def pso_b17 : List (Pat RT) := [.flat (.int .i64)]
def oso_b17 : List (OP RT) := [.row true .i64]
def conv_b17 (r : Raw den pso_b17 oso_b17) : Int × Nat × (Nat → Int) := (r.1.1, r.2.1.1, r.2.1.2)
def enc_b17 (y : Int × Nat × (Nat → Int)) : D RT den × List (Ob RT den) := ((.int .i64 y.1), [(.row true .i64 y.2.1 y.2.2)])
def out_b17 (d : D RT den) (os : List (Ob RT den)) : Option (Int × Nat × (Nat → Int)) := (unSt pso_b17 oso_b17 ⟨[d], os⟩).bind fun v => some (conv_b17 v.1)
theorem out_b17_enc (d : D RT den) (os : List (Ob RT den)) (y : Int × Nat × (Nat → Int)) (h : out_b17 d os = some y) : d = (enc_b17 y).1 ∧ os = (enc_b17 y).2 :=
  outM (conv := conv_b17) (enc := enc_b17) (fun raw => by kernel_rfl) h
theorem ev_b17 (fu : Nat) (a_0_0 : Nat) (k_1 : Int) (rn0 : Nat) (rf0 : (Nat → Int)) : evFunU E (pc_b17 fu) msk_b17 (lp_b17 fu) out_b17 117 [(.os 0 a_0_0), (.int .i64 k_1)] [(.row true .i64 rn0 rf0)] = F_laws_markInt64S_U fu a_0_0 k_1 rn0 rf0 := by kernel_rfl
noncomputable def body_b17 : Code := Try.f117.body.getD .skip
noncomputable def lc_b17_0 : Code := ((loops 0 body_b17).getD 0 (0, .skip)).2
theorem round_b17_0 (fu : Nat) (it : St RT den → Option (Int × Nat × (Nat → Int))) (k : Ex → St RT den → Option (Int × Nat × (Nat → Int))) c w : evCode E (pc_b17 fu) msk_b17 (lp_b17 fu) 0 lc_b17_0 (back_b17_0 c w) (after (msk_b17 0) (msk_b17 100000) 1 it k) = Bk_b17_0 fu c k w (fun w => it (back_b17_0 c w)) := by kernel_rfl
theorem lpok_b17_0 (fu : Nat) : ∀ s k r, lp_b17 fu 0 s k = some r → ∃ fuel, iter (msk_b17 0) (msk_b17 100000) s.objs.length (evCode E (pc_b17 fu) msk_b17 (lp_b17 fu) 0 lc_b17_0) fuel s k = some r :=
  handle_ok (ps := ps_b17_0) (os := os_b17_0) (conv := conv_b17_0) (B := Bk_b17_0 fu) (fu := fu) back_b17_0 (fun raw => by kernel_rfl) 1 (fun c w => by kernel_rfl) (round_b17_0 fu)
theorem lpok_b17 (fu : Nat) : LpOk E (pc_b17 fu) msk_b17 (lp_b17 fu) (loops 0 body_b17) := loop_all 1 (by kernel_rfl) fun i hi => match i, hi with
  | 0, _ => by
    have h : (loops 0 body_b17).getD 0 (0, .skip) = (0, lc_b17_0) := by kernel_rfl
    rw [h]; exact lpok_b17_0 fu
  | i + 1, hi => absurd hi (by omega)
def S_b17 (fu : Nat) (xs : List (D RT den)) (ins : List (Ob RT den)) : Option (OutX RT den) := match xs, ins with | [.os 0 a0_0, .int .i64 a1_0], [.row true .i64 rn0 rf0] => some ⟨Int × Nat × (Nat → Int), F_laws_markInt64S_U fu a0_0 a1_0 rn0 rf0, enc_b17⟩ | _, _ => none
theorem goodv_b17 (fu : Nat) (a_0_0 : Nat) (k_1 : Int) (rn0 : Nat) (rf0 : (Nat → Int)) (y : Int × Nat × (Nat → Int)) (hy : F_laws_markInt64S_U fu a_0_0 k_1 rn0 rf0 = some y) : GoodD E Try.prog 117 [(.os 0 a_0_0), (.int .i64 k_1)] [(.row true .i64 rn0 rf0)] (enc_b17 y).1 (enc_b17 y).2 :=
  funU_good E_ok (pc_good (pc := pc_b17 fu) hpc0 hpx0) (fn := Try.f117) (c := body_b17) (out := out_b17) (y := y) (by kernel_rfl) (by kernel_rfl) (by kernel_rfl) (lpok_b17 fu) (by kernel_rfl) (Nat.le_of_ble_eq_true (by kernel_rfl)) (Fulls.get 1 trivial) (fun d os hd => out_b17_enc d os _ hd) ((ev_b17 fu a_0_0 k_1 rn0 rf0).trans hy)
theorem good_b17 (fu : Nat) : ∀ xs ins o, S_b17 fu xs ins = some o → ∀ y, o.x = some y → GoodD E Try.prog 117 xs ins (o.g y).1 (o.g y).2 := by
  intro xs ins o h y hy
  unfold S_b17 at h
  split at h
  · rename_i a0_0 a1_0 rn0 rf0
    cases h
    exact goodv_b17 fu a0_0 a1_0 rn0 rf0 y hy
  · cases h

/-! laws.markVipS -/
def F_laws_markVipS_U_B0 {ρ : Type} (fu : Nat) (a0_0 : Nat) (on0_3 : Nat) (op0_4 : Nat) (k0 : Int → (Nat → S_impl_Vip) → Option ρ) (k1_1 : Int) (i5_2 : Int) (of0_5 : (Nat → S_impl_Vip)) (go : Int → Int → (Nat → S_impl_Vip) → Option ρ) : Option ρ :=
  (bif (decide (i5_2 < ((a0_0 : Nat) : Int))) then ((bif (decide (0 ≤ i5_2) && decide ((Int.toNat i5_2) < a0_0)) then some () else none : Option Unit).bind fun _ => ((bif (decide (0 ≤ i5_2) &&
    decide ((Int.toNat i5_2) < a0_0)) then some () else none : Option Unit).bind fun _ => ((bif (decide (0 ≤ i5_2) && decide ((Int.toNat i5_2) < a0_0)) then some () else none : Option Unit).bind fun _ =>
    ((bif (decide (0 ≤ i5_2) && decide ((Int.toNat i5_2) < a0_0)) then some () else none : Option Unit).bind fun _ => ((bif (decide ((Int.toNat i5_2) < op0_4)) then some () else
    none : Option Unit).bind fun _ => (bif (decide ((Int.toNat i5_2) < op0_4) && true) then ((F_laws_markInt64S_U fu (((upd_impl_Vip_2_1 (upd_impl_Vip_1_1 (upd_impl_Vip_0_1 of0_5 (Int.toNat i5_2) k1_1) (Int.toNat i5_2) (IntKind.wrap .i64 (k1_1 + 1))) (Int.toNat i5_2) (IntKind.wrap .i64 ((IntKind.wrap .i64 (k1_1 + 1)) + 1))) (Int.toNat i5_2)).Names.n) (IntKind.wrap .i64 ((IntKind.wrap .i64 ((IntKind.wrap .i64 (k1_1 + 1)) + 1)) + 1)) (((upd_impl_Vip_2_1 (upd_impl_Vip_1_1 (upd_impl_Vip_0_1 of0_5 (Int.toNat i5_2) k1_1) (Int.toNat i5_2) (IntKind.wrap .i64 (k1_1 + 1))) (Int.toNat i5_2) (IntKind.wrap .i64 ((IntKind.wrap .i64 (k1_1 + 1)) + 1))) (Int.toNat i5_2)).Names.n) (((upd_impl_Vip_2_1 (upd_impl_Vip_1_1 (upd_impl_Vip_0_1 of0_5 (Int.toNat i5_2) k1_1) (Int.toNat i5_2) (IntKind.wrap .i64 (k1_1 + 1))) (Int.toNat i5_2) (IntKind.wrap .i64 ((IntKind.wrap .i64 (k1_1 + 1)) + 1))) (Int.toNat i5_2)).Names.f)).bind fun y249 =>
    (go y249.1 (IntKind.wrap .i64 (i5_2 + 1)) (upd_impl_Vip_3_1 (upd_impl_Vip_2_1 (upd_impl_Vip_1_1 (upd_impl_Vip_0_1 of0_5 (Int.toNat i5_2) k1_1) (Int.toNat i5_2) (IntKind.wrap .i64 (k1_1 + 1))) (Int.toNat i5_2) (IntKind.wrap .i64 ((IntKind.wrap .i64 (k1_1 + 1)) + 1))) (Int.toNat i5_2) (⟨none,
    ((upd_impl_Vip_2_1 (upd_impl_Vip_1_1 (upd_impl_Vip_0_1 of0_5 (Int.toNat i5_2) k1_1) (Int.toNat i5_2) (IntKind.wrap .i64 (k1_1 + 1))) (Int.toNat i5_2) (IntKind.wrap .i64 ((IntKind.wrap .i64 (k1_1 + 1)) + 1))) (Int.toNat i5_2)).Names.n,
    y249.2.2⟩ : (Sl Int))))) else none)))))) else (k0 k1_1 of0_5))
def F_laws_markVipS_U (fu : Nat) (a_0_0 : Nat) (k_1 : Int) (dn0 : Nat) (dp0 : Nat) (df0 : (Nat → S_impl_Vip)) : Option (Int × Nat × Nat × (Nat → S_impl_Vip)) :=
  (L (fun w0 go0 => F_laws_markVipS_U_B0 fu a_0_0 dn0 dp0 (fun z250 z251 => (some (z250, dn0, dp0, z251))) w0.1 w0.2.1 w0.2.2 (fun q0 q1 q2 => go0 (q0, q1, q2))) fu ((k_1, 0, df0) : Int × Int × (Nat → S_impl_Vip)))
def pcx_b18 (fu : Nat) (f : Nat) (xs : List (D RT den)) (ins : List (Ob RT den)) : Option (OutX RT den) := match f with | 117 => S_b17 fu xs ins | _ => none
def pcd_b18 : Nat → Bool := fun f => match f with | 117 => true | _ => false
def pc_b18 (fu : Nat) : Pc RT den := ⟨pcf0, fun f => match f with | 117 => true | _ => false, fun f => match f with | 117 => true | _ => false, pcd_b18, pcx_b18 fu⟩
def msk_b18 (b : Nat) : List Nat := match b with | 0 => [2, 3, 4, 6, 7, 8, 9, 10, 11, 12, 13, 14, 15, 16, 17, 18, 19, 20, 21, 22, 23, 24, 25, 26, 27, 28, 29, 30, 31, 32, 33, 34, 35, 36, 37, 38, 39, 40] | 100000 => [0, 2, 3, 5, 6, 7, 8, 9, 10, 11, 12, 13, 14, 15, 16, 17, 18, 19, 20, 21, 22, 23, 24, 25, 26, 27, 28, 29, 30, 31, 32, 33, 34, 35, 36, 37, 38, 39, 40] | _ => []
def ps_b18_0 : List (Pat RT) := [.flat (.os 0), .flat (.int .i64), .flat .q, .flat .q, .flat .q, .flat (.int .i64), .flat .q, .flat .q, .flat .q, .flat .q, .flat .q, .flat .q, .flat .q, .flat .q, .flat .q, .flat .q, .flat .q, .flat .q, .flat .q, .flat .q, .flat .q, .flat .q, .flat .q, .flat .q, .flat .q, .flat .q, .flat .q, .flat .q, .flat .q, .flat .q, .flat .q, .flat .q, .flat .q, .flat .q, .flat .q, .flat .q, .flat .q, .flat .q, .flat .q, .flat .q, .flat .q]
def os_b18_0 : List (OP RT) := [.deep true .impl_Vip]
def conv_b18_0 (r : Raw den ps_b18_0 os_b18_0) : (Nat × Nat × Nat) × (Int × Int × (Nat → S_impl_Vip)) := ((r.1.1, r.2.1.1, r.2.1.2.1), (r.1.2.1, r.1.2.2.2.2.2.1, r.2.1.2.2))
def back_b18_0 (c : Nat × Nat × Nat) (w : Int × Int × (Nat → S_impl_Vip)) : St RT den := ⟨[(.os 0 c.1), (.int .i64 w.1), .q, .q, .q, (.int .i64 w.2.1), .q, .q, .q, .q, .q, .q, .q, .q, .q, .q, .q, .q, .q, .q, .q, .q, .q, .q, .q, .q, .q, .q, .q, .q, .q, .q, .q, .q, .q, .q, .q, .q, .q, .q, .q], [(.deep true .impl_Vip c.2.1 c.2.2 w.2.2)]⟩
def Bk_b18_0 {ρ : Type} (fu : Nat) (c : Nat × Nat × Nat) (k : Ex → St RT den → Option ρ) (w : Int × Int × (Nat → S_impl_Vip)) (go : (Int × Int × (Nat → S_impl_Vip)) → Option ρ) : Option ρ := F_laws_markVipS_U_B0 fu c.1 c.2.1 c.2.2 (fun a0 a1 => k (.exit 0) ⟨[.q, (.int .i64 a0), .q, .q, .q, .q, .q, .q, .q, .q, .q, .q, .q, .q, .q, .q, .q, .q, .q, .q, .q, .q, .q, .q, .q, .q, .q, .q, .q, .q, .q, .q, .q, .q, .q, .q, .q, .q, .q, .q, .q], [(.deep true .impl_Vip c.2.1 c.2.2 a1)]⟩) w.1 w.2.1 w.2.2 (fun q0 q1 q2 => go (q0, q1, q2))
def lp_b18 (fu : Nat) : Lp RT den (Int × Nat × Nat × (Nat → S_impl_Vip)) := fun b s k => match b with | 0 => handle ps_b18_0 os_b18_0 conv_b18_0 (Bk_b18_0 fu) fu s k | _ => none
def pso_b18 : List (Pat RT) := [.flat (.int .i64)]
def oso_b18 : List (OP RT) := [.deep true .impl_Vip]
def conv_b18 (r : Raw den pso_b18 oso_b18) : Int × Nat × Nat × (Nat → S_impl_Vip) := (r.1.1, r.2.1.1, r.2.1.2.1, r.2.1.2.2)
def enc_b18 (y : Int × Nat × Nat × (Nat → S_impl_Vip)) : D RT den × List (Ob RT den) := ((.int .i64 y.1), [(.deep true .impl_Vip y.2.1 y.2.2.1 y.2.2.2)])
def out_b18 (d : D RT den) (os : List (Ob RT den)) : Option (Int × Nat × Nat × (Nat → S_impl_Vip)) := (unSt pso_b18 oso_b18 ⟨[d], os⟩).bind fun v => some (conv_b18 v.1)
theorem out_b18_enc (d : D RT den) (os : List (Ob RT den)) (y : Int × Nat × Nat × (Nat → S_impl_Vip)) (h : out_b18 d os = some y) : d = (enc_b18 y).1 ∧ os = (enc_b18 y).2 :=
  outM (conv := conv_b18) (enc := enc_b18) (fun raw => by kernel_rfl) h
theorem ev_b18 (fu : Nat) (a_0_0 : Nat) (k_1 : Int) (dn0 : Nat) (dp0 : Nat) (df0 : (Nat → S_impl_Vip)) : evFunU E (pc_b18 fu) msk_b18 (lp_b18 fu) out_b18 77 [(.os 0 a_0_0), (.int .i64 k_1)] [(.deep true .impl_Vip dn0 dp0 df0)] = F_laws_markVipS_U fu a_0_0 k_1 dn0 dp0 df0 := by kernel_rfl
noncomputable def body_b18 : Code := Try.f77.body.getD .skip
noncomputable def lc_b18_0 : Code := ((loops 0 body_b18).getD 0 (0, .skip)).2
theorem round_b18_0 (fu : Nat) (it : St RT den → Option (Int × Nat × Nat × (Nat → S_impl_Vip))) (k : Ex → St RT den → Option (Int × Nat × Nat × (Nat → S_impl_Vip))) c w : evCode E (pc_b18 fu) msk_b18 (lp_b18 fu) 0 lc_b18_0 (back_b18_0 c w) (after (msk_b18 0) (msk_b18 100000) 1 it k) = Bk_b18_0 fu c k w (fun w => it (back_b18_0 c w)) := by kernel_rfl
theorem lpok_b18_0 (fu : Nat) : ∀ s k r, lp_b18 fu 0 s k = some r → ∃ fuel, iter (msk_b18 0) (msk_b18 100000) s.objs.length (evCode E (pc_b18 fu) msk_b18 (lp_b18 fu) 0 lc_b18_0) fuel s k = some r :=
  handle_ok (ps := ps_b18_0) (os := os_b18_0) (conv := conv_b18_0) (B := Bk_b18_0 fu) (fu := fu) back_b18_0 (fun raw => by kernel_rfl) 1 (fun c w => by kernel_rfl) (round_b18_0 fu)
theorem lpok_b18 (fu : Nat) : LpOk E (pc_b18 fu) msk_b18 (lp_b18 fu) (loops 0 body_b18) := loop_all 1 (by kernel_rfl) fun i hi => match i, hi with
  | 0, _ => by
    have h : (loops 0 body_b18).getD 0 (0, .skip) = (0, lc_b18_0) := by kernel_rfl
    rw [h]; exact lpok_b18_0 fu
  | i + 1, hi => absurd hi (by omega)
def S_b18 (fu : Nat) (xs : List (D RT den)) (ins : List (Ob RT den)) : Option (OutX RT den) := match xs, ins with | [.os 0 a0_0, .int .i64 a1_0], [.deep true .impl_Vip dn0 dp0 df0] => some ⟨Int × Nat × Nat × (Nat → S_impl_Vip), F_laws_markVipS_U fu a0_0 a1_0 dn0 dp0 df0, enc_b18⟩ | _, _ => none
theorem hpx_b18 (fu : Nat) : ∀ f xs ins o, pcx_b18 fu f xs ins = some o → ∀ y, o.x = some y → GoodXD E Try.prog (pcd_b18 f) f xs ins (o.g y).1 (o.g y).2 := by
  intro f xs ins o h
  unfold pcx_b18 at h
  split at h
  · exact good_b17 fu xs ins o h
  · cases h
theorem goodv_b18 (fu : Nat) (a_0_0 : Nat) (k_1 : Int) (dn0 : Nat) (dp0 : Nat) (df0 : (Nat → S_impl_Vip)) (y : Int × Nat × Nat × (Nat → S_impl_Vip)) (hy : F_laws_markVipS_U fu a_0_0 k_1 dn0 dp0 df0 = some y) : GoodD E Try.prog 77 [(.os 0 a_0_0), (.int .i64 k_1)] [(.deep true .impl_Vip dn0 dp0 df0)] (enc_b18 y).1 (enc_b18 y).2 :=
  funU_good E_ok (pc_good (pc := pc_b18 fu) hpc0 (hpx_b18 fu)) (fn := Try.f77) (c := body_b18) (out := out_b18) (y := y) (by kernel_rfl) (by kernel_rfl) (by kernel_rfl) (lpok_b18 fu) (by kernel_rfl) (Nat.le_of_ble_eq_true (by kernel_rfl)) (Fulls.get 1 trivial) (fun d os hd => out_b18_enc d os _ hd) ((ev_b18 fu a_0_0 k_1 dn0 dp0 df0).trans hy)
theorem good_b18 (fu : Nat) : ∀ xs ins o, S_b18 fu xs ins = some o → ∀ y, o.x = some y → GoodD E Try.prog 77 xs ins (o.g y).1 (o.g y).2 := by
  intro xs ins o h y hy
  unfold S_b18 at h
  split at h
  · rename_i a0_0 a1_0 dn0 dp0 df0
    cases h
    exact goodv_b18 fu a0_0 a1_0 dn0 dp0 df0 y hy
  · cases h

/-! laws.markConfigS -/
def F_laws_markConfigS_U_B0 {ρ : Type} (fu : Nat) (a0_0 : Nat) (on0_3 : Nat) (op0_4 : Nat) (k0 : Int → (Nat → S_impl_Config) → Option ρ) (k1_1 : Int) (i5_2 : Int) (of0_5 : (Nat → S_impl_Config)) (go : Int → Int → (Nat → S_impl_Config) → Option ρ) : Option ρ :=
  (bif (decide (i5_2 < ((a0_0 : Nat) : Int))) then ((bif (decide (0 ≤ i5_2) && decide ((Int.toNat i5_2) < a0_0)) then some () else none : Option Unit).bind fun _ => ((bif (decide (0 ≤ i5_2) &&
    decide ((Int.toNat i5_2) < a0_0)) then some () else none : Option Unit).bind fun _ => ((bif (decide ((Int.toNat i5_2) < op0_4)) then some () else none : Option Unit).bind fun _ =>
    (bif (decide ((Int.toNat i5_2) < op0_4) && true) then ((F_laws_markBackendS_U fu (((upd_impl_Config_0_1 of0_5 (Int.toNat i5_2) k1_1) (Int.toNat i5_2)).Backends.n) (IntKind.wrap .i64 (k1_1 + 1)) (((upd_impl_Config_0_1 of0_5 (Int.toNat i5_2) k1_1) (Int.toNat i5_2)).Backends.n) (((upd_impl_Config_0_1 of0_5 (Int.toNat i5_2) k1_1) (Int.toNat i5_2)).Backends.f)).bind fun y246 =>
    ((bif (decide (0 ≤ i5_2) && decide ((Int.toNat i5_2) < a0_0)) then some () else none : Option Unit).bind fun _ => ((bif (decide ((Int.toNat i5_2) < op0_4)) then some () else
    none : Option Unit).bind fun _ => (bif (decide ((Int.toNat i5_2) < op0_4) && true) then ((F_laws_markVipS_U fu (((upd_impl_Config_1_1 (upd_impl_Config_0_1 of0_5 (Int.toNat i5_2) k1_1) (Int.toNat i5_2) (⟨none,
    ((upd_impl_Config_0_1 of0_5 (Int.toNat i5_2) k1_1) (Int.toNat i5_2)).Backends.n, y246.2.2⟩ : (Sl S_impl_Backend))) (Int.toNat i5_2)).Vips.n) y246.1 (((upd_impl_Config_1_1 (upd_impl_Config_0_1 of0_5 (Int.toNat i5_2) k1_1) (Int.toNat i5_2) (⟨none,
    ((upd_impl_Config_0_1 of0_5 (Int.toNat i5_2) k1_1) (Int.toNat i5_2)).Backends.n, y246.2.2⟩ : (Sl S_impl_Backend))) (Int.toNat i5_2)).Vips.n) (((upd_impl_Config_1_1 (upd_impl_Config_0_1 of0_5 (Int.toNat i5_2) k1_1) (Int.toNat i5_2) (⟨none,
    ((upd_impl_Config_0_1 of0_5 (Int.toNat i5_2) k1_1) (Int.toNat i5_2)).Backends.n, y246.2.2⟩ : (Sl S_impl_Backend))) (Int.toNat i5_2)).Vips.n) (((upd_impl_Config_1_1 (upd_impl_Config_0_1 of0_5 (Int.toNat i5_2) k1_1) (Int.toNat i5_2) (⟨none,
    ((upd_impl_Config_0_1 of0_5 (Int.toNat i5_2) k1_1) (Int.toNat i5_2)).Backends.n, y246.2.2⟩ : (Sl S_impl_Backend))) (Int.toNat i5_2)).Vips.f)).bind fun y252 => (bif (decide (((upd_impl_Config_1_1 (upd_impl_Config_0_1 of0_5 (Int.toNat i5_2) k1_1) (Int.toNat i5_2) (⟨none,
    ((upd_impl_Config_0_1 of0_5 (Int.toNat i5_2) k1_1) (Int.toNat i5_2)).Backends.n, y246.2.2⟩ : (Sl S_impl_Backend))) (Int.toNat i5_2)).Vips.n ≤ y252.2.2.1) && true) then (go y252.1 (IntKind.wrap .i64 (i5_2 + 1)) (upd_impl_Config_2_1 (upd_impl_Config_1_1 (upd_impl_Config_0_1 of0_5 (Int.toNat i5_2) k1_1) (Int.toNat i5_2) (⟨none,
    ((upd_impl_Config_0_1 of0_5 (Int.toNat i5_2) k1_1) (Int.toNat i5_2)).Backends.n, y246.2.2⟩ : (Sl S_impl_Backend))) (Int.toNat i5_2) (⟨none, ((upd_impl_Config_1_1 (upd_impl_Config_0_1 of0_5 (Int.toNat i5_2) k1_1) (Int.toNat i5_2) (⟨none,
    ((upd_impl_Config_0_1 of0_5 (Int.toNat i5_2) k1_1) (Int.toNat i5_2)).Backends.n, y246.2.2⟩ : (Sl S_impl_Backend))) (Int.toNat i5_2)).Vips.n, y252.2.2.2⟩ : (Sl S_impl_Vip)))) else
    none)) else none)))) else none)))) else (k0 k1_1 of0_5))
def F_laws_markConfigS_U (fu : Nat) (a_0_0 : Nat) (k_1 : Int) (dn0 : Nat) (dp0 : Nat) (df0 : (Nat → S_impl_Config)) : Option (Int × Nat × Nat × (Nat → S_impl_Config)) :=
  (L (fun w0 go0 => F_laws_markConfigS_U_B0 fu a_0_0 dn0 dp0 (fun z253 z254 => (some (z253, dn0, dp0, z254))) w0.1 w0.2.1 w0.2.2 (fun q0 q1 q2 => go0 (q0, q1, q2))) fu ((k_1, 0,
    df0) : Int × Int × (Nat → S_impl_Config)))
def pcx_b19 (fu : Nat) (f : Nat) (xs : List (D RT den)) (ins : List (Ob RT den)) : Option (OutX RT den) := match f with | 76 => S_b16 fu xs ins | 77 => S_b18 fu xs ins | _ => none
def pcd_b19 : Nat → Bool := fun f => match f with | 76 => true | 77 => true | _ => false
def pc_b19 (fu : Nat) : Pc RT den := ⟨pcf0, fun f => match f with | 76 => true | 77 => true | _ => false, fun f => match f with | 76 => true | 77 => true | _ => false, pcd_b19, pcx_b19 fu⟩
def msk_b19 (b : Nat) : List Nat := match b with | 0 => [2, 3, 4, 6, 7, 8, 9, 10, 11, 12, 13, 14, 15, 16, 17, 18, 19, 20, 21, 22, 23, 24, 25, 26, 27, 28, 29, 30, 31, 32, 33] | 100000 => [0, 2, 3, 5, 6, 7, 8, 9, 10, 11, 12, 13, 14, 15, 16, 17, 18, 19, 20, 21, 22, 23, 24, 25, 26, 27, 28, 29, 30, 31, 32, 33] | _ => []
def ps_b19_0 : List (Pat RT) := [.flat (.os 0), .flat (.int .i64), .flat .q, .flat .q, .flat .q, .flat (.int .i64), .flat .q, .flat .q, .flat .q, .flat .q, .flat .q, .flat .q, .flat .q, .flat .q, .flat .q, .flat .q, .flat .q, .flat .q, .flat .q, .flat .q, .flat .q, .flat .q, .flat .q, .flat .q, .flat .q, .flat .q, .flat .q, .flat .q, .flat .q, .flat .q, .flat .q, .flat .q, .flat .q, .flat .q]
def os_b19_0 : List (OP RT) := [.deep true .impl_Config]
def conv_b19_0 (r : Raw den ps_b19_0 os_b19_0) : (Nat × Nat × Nat) × (Int × Int × (Nat → S_impl_Config)) := ((r.1.1, r.2.1.1, r.2.1.2.1), (r.1.2.1, r.1.2.2.2.2.2.1, r.2.1.2.2))
def back_b19_0 (c : Nat × Nat × Nat) (w : Int × Int × (Nat → S_impl_Config)) : St RT den := ⟨[(.os 0 c.1), (.int .i64 w.1), .q, .q, .q, (.int .i64 w.2.1), .q, .q, .q, .q, .q, .q, .q, .q, .q, .q, .q, .q, .q, .q, .q, .q, .q, .q, .q, .q, .q, .q, .q, .q, .q, .q, .q, .q], [(.deep true .impl_Config c.2.1 c.2.2 w.2.2)]⟩
def Bk_b19_0 {ρ : Type} (fu : Nat) (c : Nat × Nat × Nat) (k : Ex → St RT den → Option ρ) (w : Int × Int × (Nat → S_impl_Config)) (go : (Int × Int × (Nat → S_impl_Config)) → Option ρ) : Option ρ := F_laws_markConfigS_U_B0 fu c.1 c.2.1 c.2.2 (fun a0 a1 => k (.exit 0) ⟨[.q, (.int .i64 a0), .q, .q, .q, .q, .q, .q, .q, .q, .q, .q, .q, .q, .q, .q, .q, .q, .q, .q, .q, .q, .q, .q, .q, .q, .q, .q, .q, .q, .q, .q, .q, .q], [(.deep true .impl_Config c.2.1 c.2.2 a1)]⟩) w.1 w.2.1 w.2.2 (fun q0 q1 q2 => go (q0, q1, q2))
def lp_b19 (fu : Nat) : Lp RT den (Int × Nat × Nat × (Nat → S_impl_Config)) := fun b s k => match b with | 0 => handle ps_b19_0 os_b19_0 conv_b19_0 (Bk_b19_0 fu) fu s k | _ => none
def pso_b19 : List (Pat RT) := [.flat (.int .i64)]
def oso_b19 : List (OP RT) := [.deep true .impl_Config]
def conv_b19 (r : Raw den pso_b19 oso_b19) : Int × Nat × Nat × (Nat → S_impl_Config) := (r.1.1, r.2.1.1, r.2.1.2.1, r.2.1.2.2)
def enc_b19 (y : Int × Nat × Nat × (Nat → S_impl_Config)) : D RT den × List (Ob RT den) := ((.int .i64 y.1), [(.deep true .impl_Config y.2.1 y.2.2.1 y.2.2.2)])
def out_b19 (d : D RT den) (os : List (Ob RT den)) : Option (Int × Nat × Nat × (Nat → S_impl_Config)) := (unSt pso_b19 oso_b19 ⟨[d], os⟩).bind fun v => some (conv_b19 v.1)
theorem out_b19_enc (d : D RT den) (os : List (Ob RT den)) (y : Int × Nat × Nat × (Nat → S_impl_Config)) (h : out_b19 d os = some y) : d = (enc_b19 y).1 ∧ os = (enc_b19 y).2 :=
  outM (conv := conv_b19) (enc := enc_b19) (fun raw => by kernel_rfl) h
theorem ev_b19 (fu : Nat) (a_0_0 : Nat) (k_1 : Int) (dn0 : Nat) (dp0 : Nat) (df0 : (Nat → S_impl_Config)) : evFunU E (pc_b19 fu) msk_b19 (lp_b19 fu) out_b19 35 [(.os 0 a_0_0), (.int .i64 k_1)] [(.deep true .impl_Config dn0 dp0 df0)] = F_laws_markConfigS_U fu a_0_0 k_1 dn0 dp0 df0 := by kernel_rfl
noncomputable def body_b19 : Code := Try.f35.body.getD .skip
noncomputable def lc_b19_0 : Code := ((loops 0 body_b19).getD 0 (0, .skip)).2
theorem round_b19_0 (fu : Nat) (it : St RT den → Option (Int × Nat × Nat × (Nat → S_impl_Config))) (k : Ex → St RT den → Option (Int × Nat × Nat × (Nat → S_impl_Config))) c w : evCode E (pc_b19 fu) msk_b19 (lp_b19 fu) 0 lc_b19_0 (back_b19_0 c w) (after (msk_b19 0) (msk_b19 100000) 1 it k) = Bk_b19_0 fu c k w (fun w => it (back_b19_0 c w)) := by kernel_rfl
theorem lpok_b19_0 (fu : Nat) : ∀ s k r, lp_b19 fu 0 s k = some r → ∃ fuel, iter (msk_b19 0) (msk_b19 100000) s.objs.length (evCode E (pc_b19 fu) msk_b19 (lp_b19 fu) 0 lc_b19_0) fuel s k = some r :=
  handle_ok (ps := ps_b19_0) (os := os_b19_0) (conv := conv_b19_0) (B := Bk_b19_0 fu) (fu := fu) back_b19_0 (fun raw => by kernel_rfl) 1 (fun c w => by kernel_rfl) (round_b19_0 fu)
theorem lpok_b19 (fu : Nat) : LpOk E (pc_b19 fu) msk_b19 (lp_b19 fu) (loops 0 body_b19) := loop_all 1 (by kernel_rfl) fun i hi => match i, hi with
  | 0, _ => by
    have h : (loops 0 body_b19).getD 0 (0, .skip) = (0, lc_b19_0) := by kernel_rfl
    rw [h]; exact lpok_b19_0 fu
  | i + 1, hi => absurd hi (by omega)
def S_b19 (fu : Nat) (xs : List (D RT den)) (ins : List (Ob RT den)) : Option (OutX RT den) := match xs, ins with | [.os 0 a0_0, .int .i64 a1_0], [.deep true .impl_Config dn0 dp0 df0] => some ⟨Int × Nat × Nat × (Nat → S_impl_Config), F_laws_markConfigS_U fu a0_0 a1_0 dn0 dp0 df0, enc_b19⟩ | _, _ => none
theorem hpx_b19 (fu : Nat) : ∀ f xs ins o, pcx_b19 fu f xs ins = some o → ∀ y, o.x = some y → GoodXD E Try.prog (pcd_b19 f) f xs ins (o.g y).1 (o.g y).2 := by
  intro f xs ins o h
  unfold pcx_b19 at h
  split at h
  · exact good_b16 fu xs ins o h
  · exact good_b18 fu xs ins o h
  · cases h
theorem goodv_b19 (fu : Nat) (a_0_0 : Nat) (k_1 : Int) (dn0 : Nat) (dp0 : Nat) (df0 : (Nat → S_impl_Config)) (y : Int × Nat × Nat × (Nat → S_impl_Config)) (hy : F_laws_markConfigS_U fu a_0_0 k_1 dn0 dp0 df0 = some y) : GoodD E Try.prog 35 [(.os 0 a_0_0), (.int .i64 k_1)] [(.deep true .impl_Config dn0 dp0 df0)] (enc_b19 y).1 (enc_b19 y).2 :=
  funU_good E_ok (pc_good (pc := pc_b19 fu) hpc0 (hpx_b19 fu)) (fn := Try.f35) (c := body_b19) (out := out_b19) (y := y) (by kernel_rfl) (by kernel_rfl) (by kernel_rfl) (lpok_b19 fu) (by kernel_rfl) (Nat.le_of_ble_eq_true (by kernel_rfl)) (Fulls.get 1 trivial) (fun d os hd => out_b19_enc d os _ hd) ((ev_b19 fu a_0_0 k_1 dn0 dp0 df0).trans hy)
theorem good_b19 (fu : Nat) : ∀ xs ins o, S_b19 fu xs ins = some o → ∀ y, o.x = some y → GoodD E Try.prog 35 xs ins (o.g y).1 (o.g y).2 := by
  intro xs ins o h y hy
  unfold S_b19 at h
  split at h
  · rename_i a0_0 a1_0 dn0 dp0 df0
    cases h
    exact goodv_b19 fu a0_0 a1_0 dn0 dp0 df0 y hy
  · cases h

/-! laws.markCmdS -/
def F_laws_markCmdS_L_B0 {ρ : Type} (fu : Nat) (a0_0 : Nat) (on0_3 : Nat) (k0 : Int → (Nat → S_impl_Cmd) → Option ρ) (k1_1 : Int) (i5_2 : Int) (of0_4 : (Nat → S_impl_Cmd)) (go : Int → Int → (Nat → S_impl_Cmd) → Option ρ) : Option ρ :=
  (bif (decide (i5_2 < ((a0_0 : Nat) : Int))) then ((bif (decide (0 ≤ i5_2) && decide ((Int.toNat i5_2) < a0_0)) then some () else none : Option Unit).bind fun _ => ((bif (decide (0 ≤ i5_2) &&
    decide ((Int.toNat i5_2) < a0_0)) then some () else none : Option Unit).bind fun _ => ((bif (decide (0 ≤ i5_2) && decide ((Int.toNat i5_2) < a0_0)) then some () else none : Option Unit).bind fun _ =>
    ((bif (decide (0 ≤ i5_2) && decide ((Int.toNat i5_2) < a0_0)) then some () else none : Option Unit).bind fun _ => ((bif (decide (0 ≤ i5_2) && decide ((Int.toNat i5_2) < a0_0)) then
    some () else none : Option Unit).bind fun _ => ((bif (decide (0 ≤ i5_2) && decide ((Int.toNat i5_2) < a0_0)) then some () else none : Option Unit).bind fun _ => (go (IntKind.wrap .i64 ((IntKind.wrap .i64 ((IntKind.wrap .i64 ((IntKind.wrap .i64 ((IntKind.wrap .i64 ((IntKind.wrap .i64 (k1_1 + 1)) + 1)) + 1)) + 1)) + 1)) + 1)) (IntKind.wrap .i64 (i5_2 + 1)) (upd_impl_Cmd_5_1 (upd_impl_Cmd_4_1 (upd_impl_Cmd_3_1 (upd_impl_Cmd_2_1 (upd_impl_Cmd_1_1 (upd_impl_Cmd_0_1 of0_4 (Int.toNat i5_2) k1_1) (Int.toNat i5_2) (IntKind.wrap .i64 (k1_1 + 1))) (Int.toNat i5_2) (IntKind.wrap .i64 ((IntKind.wrap .i64 (k1_1 + 1)) + 1))) (Int.toNat i5_2) (IntKind.wrap .i64 ((IntKind.wrap .i64 ((IntKind.wrap .i64 (k1_1 + 1)) + 1)) + 1))) (Int.toNat i5_2) (IntKind.wrap .i64 ((IntKind.wrap .i64 ((IntKind.wrap .i64 ((IntKind.wrap .i64 (k1_1 + 1)) + 1)) + 1)) + 1))) (Int.toNat i5_2) (IntKind.wrap .i64 ((IntKind.wrap .i64 ((IntKind.wrap .i64 ((IntKind.wrap .i64 ((IntKind.wrap .i64 (k1_1 + 1)) + 1)) + 1)) + 1)) + 1)))))))))) else
    (k0 k1_1 of0_4))
def F_laws_markCmdS_L (fu : Nat) (a_0_0 : Nat) (k_1_1 : Int) (rn0 : Nat) (rf0 : (Nat → S_impl_Cmd)) : Option (Int × (Nat × (Nat → S_impl_Cmd))) :=
  (L (fun w0 go0 => F_laws_markCmdS_L_B0 fu a_0_0 rn0 (fun z256 z257 => (some (z256, (rn0, z257)))) w0.1 w0.2.1 w0.2.2 (fun q0 q1 q2 => go0 (q0, q1, q2))) fu ((k_1_1, 0, rf0) : Int × Int × (Nat → S_impl_Cmd)))
def pc_b20 (fu : Nat) : Pc RT den := ⟨pcf0, fun _ => false, fun _ => false, pcd0, pcx0⟩
def msk_b20 (b : Nat) : List Nat := match b with | 0 => [2, 3, 4, 6, 7, 8, 9, 10, 11, 12, 13, 14, 15, 16, 17, 18, 19, 20, 21, 22, 23, 24, 25, 26, 27, 28, 29, 30, 31, 32, 33, 34, 35, 36, 37, 38, 39, 40, 41, 42, 43, 44, 45, 46, 47, 48, 49, 50, 51, 52, 53, 54] | 100000 => [0, 2, 3, 5, 6, 7, 8, 9, 10, 11, 12, 13, 14, 15, 16, 17, 18, 19, 20, 21, 22, 23, 24, 25, 26, 27, 28, 29, 30, 31, 32, 33, 34, 35, 36, 37, 38, 39, 40, 41, 42, 43, 44, 45, 46, 47, 48, 49, 50, 51, 52, 53, 54] | _ => []
def ps_b20_0 : List (Pat RT) := [.flat (.os 0), .flat (.int .i64), .flat .q, .flat .q, .flat .q, .flat (.int .i64), .flat .q, .flat .q, .flat .q, .flat .q, .flat .q, .flat .q, .flat .q, .flat .q, .flat .q, .flat .q, .flat .q, .flat .q, .flat .q, .flat .q, .flat .q, .flat .q, .flat .q, .flat .q, .flat .q, .flat .q, .flat .q, .flat .q, .flat .q, .flat .q, .flat .q, .flat .q, .flat .q, .flat .q, .flat .q, .flat .q, .flat .q, .flat .q, .flat .q, .flat .q, .flat .q, .flat .q, .flat .q, .flat .q, .flat .q, .flat .q, .flat .q, .flat .q, .flat .q, .flat .q, .flat .q, .flat .q, .flat .q, .flat .q, .flat .q]
def os_b20_0 : List (OP RT) := [.row true .impl_Cmd]
def conv_b20_0 (r : Raw den ps_b20_0 os_b20_0) : (Nat × Nat) × (Int × Int × (Nat → S_impl_Cmd)) := ((r.1.1, r.2.1.1), (r.1.2.1, r.1.2.2.2.2.2.1, r.2.1.2))
def back_b20_0 (c : Nat × Nat) (w : Int × Int × (Nat → S_impl_Cmd)) : St RT den := ⟨[(.os 0 c.1), (.int .i64 w.1), .q, .q, .q, (.int .i64 w.2.1), .q, .q, .q, .q, .q, .q, .q, .q, .q, .q, .q, .q, .q, .q, .q, .q, .q, .q, .q, .q, .q, .q, .q, .q, .q, .q, .q, .q, .q, .q, .q, .q, .q, .q, .q, .q, .q, .q, .q, .q, .q, .q, .q, .q, .q, .q, .q, .q, .q], [(.row true .impl_Cmd c.2 w.2.2)]⟩
def Bk_b20_0 {ρ : Type} (fu : Nat) (c : Nat × Nat) (k : Ex → St RT den → Option ρ) (w : Int × Int × (Nat → S_impl_Cmd)) (go : (Int × Int × (Nat → S_impl_Cmd)) → Option ρ) : Option ρ := F_laws_markCmdS_L_B0 fu c.1 c.2 (fun a0 a1 => k (.exit 0) ⟨[.q, (.int .i64 a0), .q, .q, .q, .q, .q, .q, .q, .q, .q, .q, .q, .q, .q, .q, .q, .q, .q, .q, .q, .q, .q, .q, .q, .q, .q, .q, .q, .q, .q, .q, .q, .q, .q, .q, .q, .q, .q, .q, .q, .q, .q, .q, .q, .q, .q, .q, .q, .q, .q, .q, .q, .q, .q], [(.row true .impl_Cmd c.2 a1)]⟩) w.1 w.2.1 w.2.2 (fun q0 q1 q2 => go (q0, q1, q2))
def lp_b20 (fu : Nat) : Lp RT den (Int × (Nat × (Nat → S_impl_Cmd))) := fun b s k => match b with | 0 => handle ps_b20_0 os_b20_0 conv_b20_0 (Bk_b20_0 fu) fu s k | _ => none
def out_b20 (d : D RT den) (os : List (Ob RT den)) : Option (Int × (Nat × (Nat → S_impl_Cmd))) := match d, os with | .int .i64 a0_0, [.row true .impl_Cmd n0 f0] => some (a0_0, (n0, f0)) | _, _ => none
def enc_b20 (y : Int × (Nat × (Nat → S_impl_Cmd))) : D RT den × List (Ob RT den) := ((.int .i64 y.1), [(.row true .impl_Cmd y.2.1 y.2.2)])
theorem out_b20_enc (d : D RT den) (os : List (Ob RT den)) (y : Int × (Nat × (Nat → S_impl_Cmd))) (h : out_b20 d os = some y) : (unh 1 d).1 = (enc_b20 y).1 ∧ os ++ (unh 1 d).2 = (enc_b20 y).2 := by
  unfold out_b20 at h
  split at h
  · cases h; exact ⟨rfl, rfl⟩
  · cases h
theorem ev_b20 (fu : Nat) (a_0_0 : Nat) (k_1_1 : Int) (rn0 : Nat) (rf0 : (Nat → S_impl_Cmd)) : evFunX E false (pc_b20 fu) msk_b20 (lp_b20 fu) out_b20 36 [(.os 0 a_0_0), (.int .i64 k_1_1)] [(.row true .impl_Cmd rn0 rf0)] = F_laws_markCmdS_L fu a_0_0 k_1_1 rn0 rf0 := by kernel_rfl
noncomputable def body_b20 : Code := Try.f36.body.getD .skip
noncomputable def lc_b20_0 : Code := ((loops 0 body_b20).getD 0 (0, .skip)).2
theorem round_b20_0 (fu : Nat) (it : St RT den → Option (Int × (Nat × (Nat → S_impl_Cmd)))) (k : Ex → St RT den → Option (Int × (Nat × (Nat → S_impl_Cmd)))) c w : evCode E (pc_b20 fu) msk_b20 (lp_b20 fu) 0 lc_b20_0 (back_b20_0 c w) (after (msk_b20 0) (msk_b20 100000) 1 it k) = Bk_b20_0 fu c k w (fun w => it (back_b20_0 c w)) := by kernel_rfl
theorem lpok_b20_0 (fu : Nat) : ∀ s k r, lp_b20 fu 0 s k = some r → ∃ fuel, iter (msk_b20 0) (msk_b20 100000) s.objs.length (evCode E (pc_b20 fu) msk_b20 (lp_b20 fu) 0 lc_b20_0) fuel s k = some r :=
  handle_ok (ps := ps_b20_0) (os := os_b20_0) (conv := conv_b20_0) (B := Bk_b20_0 fu) (fu := fu) back_b20_0 (fun raw => by kernel_rfl) 1 (fun c w => by kernel_rfl) (round_b20_0 fu)
theorem lpok_b20 (fu : Nat) : LpOk E (pc_b20 fu) msk_b20 (lp_b20 fu) (loops 0 body_b20) := loop_all 1 (by kernel_rfl) fun i hi => match i, hi with
  | 0, _ => by
    have h : (loops 0 body_b20).getD 0 (0, .skip) = (0, lc_b20_0) := by kernel_rfl
    rw [h]; exact lpok_b20_0 fu
  | i + 1, hi => absurd hi (by omega)
def S_b20 (fu : Nat) (xs : List (D RT den)) (ins : List (Ob RT den)) : Option (OutX RT den) := match xs, ins with | [.os 0 a0_0, .int .i64 a1_0], [.row true .impl_Cmd rn0 rf0] => some ⟨Int × (Nat × (Nat → S_impl_Cmd)), F_laws_markCmdS_L fu a0_0 a1_0 rn0 rf0, enc_b20⟩ | _, _ => none
theorem goodv_b20 (fu : Nat) (a_0_0 : Nat) (k_1_1 : Int) (rn0 : Nat) (rf0 : (Nat → S_impl_Cmd)) (y : Int × (Nat × (Nat → S_impl_Cmd))) (hy : F_laws_markCmdS_L fu a_0_0 k_1_1 rn0 rf0 = some y) : GoodX E Try.prog 36 [(.os 0 a_0_0), (.int .i64 k_1_1)] [(.row true .impl_Cmd rn0 rf0)] (enc_b20 y).1 (enc_b20 y).2 :=
  funX_good (ke := false) E_ok (pc_good (pc := pc_b20 fu) hpc0 hpx0) (fn := Try.f36) (c := body_b20) (out := out_b20) (y := y) (by kernel_rfl) (by kernel_rfl) (by kernel_rfl) (lpok_b20 fu) (by kernel_rfl) (Nat.le_refl _) (fun d os hd => out_b20_enc d os _ hd) ((ev_b20 fu a_0_0 k_1_1 rn0 rf0).trans hy)
theorem good_b20 (fu : Nat) : ∀ xs ins o, S_b20 fu xs ins = some o → ∀ y, o.x = some y → GoodX E Try.prog 36 xs ins (o.g y).1 (o.g y).2 := by
  intro xs ins o h y hy
  unfold S_b20 at h
  split at h
  · rename_i a0_0 a1_0 rn0 rf0
    cases h
    exact goodv_b20 fu a0_0 a1_0 rn0 rf0 y hy
  · cases h

/-! laws.markConfig -/
def F_laws_markConfig_U (fu : Nat) (a_0_0 : Int) (a_0_1 : Nat) (a_0_2 : Nat) (k_1 : Int) (rn0 : Nat) (rf0 : (Nat → S_impl_Backend)) (dn1 : Nat) (dp1 : Nat) (df1 : (Nat → S_impl_Vip)) : Option (Int × Nat × (Nat → S_impl_Backend) × Nat × Nat × (Nat → S_impl_Vip)) :=
  ((F_laws_markBackendS_U fu a_0_1 k_1 rn0 rf0).bind fun y261 => ((F_laws_markVipS_U fu a_0_2 y261.1 dn1 dp1 df1).bind fun y262 => (some (y262.1, y261.2.1, y261.2.2, y262.2.1,
    y262.2.2.1, y262.2.2.2))))
def pcx_b21 (fu : Nat) (f : Nat) (xs : List (D RT den)) (ins : List (Ob RT den)) : Option (OutX RT den) := match f with | 76 => S_b16 fu xs ins | 77 => S_b18 fu xs ins | _ => none
def pcd_b21 : Nat → Bool := fun f => match f with | 76 => true | 77 => true | _ => false
def pc_b21 (fu : Nat) : Pc RT den := ⟨pcf0, fun f => match f with | 76 => true | 77 => true | _ => false, fun f => match f with | 76 => true | 77 => true | _ => false, pcd_b21, pcx_b21 fu⟩
def msk_b21 (b : Nat) : List Nat := []
def lp_b21 (fu : Nat) : Lp RT den (Int × Nat × (Nat → S_impl_Backend) × Nat × Nat × (Nat → S_impl_Vip)) := fun b s k => none
def pso_b21 : List (Pat RT) := [.flat (.int .i64)]
def oso_b21 : List (OP RT) := [.row true .impl_Backend, .deep true .impl_Vip]
def conv_b21 (r : Raw den pso_b21 oso_b21) : Int × Nat × (Nat → S_impl_Backend) × Nat × Nat × (Nat → S_impl_Vip) := (r.1.1, r.2.1.1, r.2.1.2, r.2.2.1.1, r.2.2.1.2.1, r.2.2.1.2.2)
def enc_b21 (y : Int × Nat × (Nat → S_impl_Backend) × Nat × Nat × (Nat → S_impl_Vip)) : D RT den × List (Ob RT den) := ((.int .i64 y.1), [(.row true .impl_Backend y.2.1 y.2.2.1), (.deep true .impl_Vip y.2.2.2.1 y.2.2.2.2.1 y.2.2.2.2.2)])
def out_b21 (d : D RT den) (os : List (Ob RT den)) : Option (Int × Nat × (Nat → S_impl_Backend) × Nat × Nat × (Nat → S_impl_Vip)) := (unSt pso_b21 oso_b21 ⟨[d], os⟩).bind fun v => some (conv_b21 v.1)
theorem out_b21_enc (d : D RT den) (os : List (Ob RT den)) (y : Int × Nat × (Nat → S_impl_Backend) × Nat × Nat × (Nat → S_impl_Vip)) (h : out_b21 d os = some y) : d = (enc_b21 y).1 ∧ os = (enc_b21 y).2 :=
  outM (conv := conv_b21) (enc := enc_b21) (fun raw => by kernel_rfl) h
theorem ev_b21 (fu : Nat) (a_0_0 : Int) (a_0_1 : Nat) (a_0_2 : Nat) (k_1 : Int) (rn0 : Nat) (rf0 : (Nat → S_impl_Backend)) (dn1 : Nat) (dp1 : Nat) (df1 : (Nat → S_impl_Vip)) : evFunU E (pc_b21 fu) msk_b21 (lp_b21 fu) out_b21 47 [(.agg [(.int .i64 a_0_0), (.os 0 a_0_1), (.os 1 a_0_2)]), (.int .i64 k_1)] [(.row true .impl_Backend rn0 rf0), (.deep true .impl_Vip dn1 dp1 df1)] = F_laws_markConfig_U fu a_0_0 a_0_1 a_0_2 k_1 rn0 rf0 dn1 dp1 df1 := by kernel_rfl
noncomputable def body_b21 : Code := Try.f47.body.getD .skip
theorem lpok_b21 (fu : Nat) : LpOk E (pc_b21 fu) msk_b21 (lp_b21 fu) (loops 0 body_b21) := by
  have h : loops 0 body_b21 = [] := by kernel_rfl
  rw [h]; intro p hp; cases hp
def S_b21 (fu : Nat) (xs : List (D RT den)) (ins : List (Ob RT den)) : Option (OutX RT den) := match xs, ins with | [.agg [.int .i64 a0_0, .os 0 a0_1, .os 1 a0_2], .int .i64 a1_0], [.row true .impl_Backend rn0 rf0, .deep true .impl_Vip dn1 dp1 df1] => some ⟨Int × Nat × (Nat → S_impl_Backend) × Nat × Nat × (Nat → S_impl_Vip), F_laws_markConfig_U fu a0_0 a0_1 a0_2 a1_0 rn0 rf0 dn1 dp1 df1, enc_b21⟩ | _, _ => none
theorem hpx_b21 (fu : Nat) : ∀ f xs ins o, pcx_b21 fu f xs ins = some o → ∀ y, o.x = some y → GoodXD E Try.prog (pcd_b21 f) f xs ins (o.g y).1 (o.g y).2 := by
  intro f xs ins o h
  unfold pcx_b21 at h
  split at h
  · exact good_b16 fu xs ins o h
  · exact good_b18 fu xs ins o h
  · cases h
theorem goodv_b21 (fu : Nat) (a_0_0 : Int) (a_0_1 : Nat) (a_0_2 : Nat) (k_1 : Int) (rn0 : Nat) (rf0 : (Nat → S_impl_Backend)) (dn1 : Nat) (dp1 : Nat) (df1 : (Nat → S_impl_Vip)) (y : Int × Nat × (Nat → S_impl_Backend) × Nat × Nat × (Nat → S_impl_Vip)) (hy : F_laws_markConfig_U fu a_0_0 a_0_1 a_0_2 k_1 rn0 rf0 dn1 dp1 df1 = some y) : GoodD E Try.prog 47 [(.agg [(.int .i64 a_0_0), (.os 0 a_0_1), (.os 1 a_0_2)]), (.int .i64 k_1)] [(.row true .impl_Backend rn0 rf0), (.deep true .impl_Vip dn1 dp1 df1)] (enc_b21 y).1 (enc_b21 y).2 :=
  funU_good E_ok (pc_good (pc := pc_b21 fu) hpc0 (hpx_b21 fu)) (fn := Try.f47) (c := body_b21) (out := out_b21) (y := y) (by kernel_rfl) (by kernel_rfl) (by kernel_rfl) (lpok_b21 fu) (by kernel_rfl) (Nat.le_of_ble_eq_true (by kernel_rfl)) (Fulls.get 2 trivial) (fun d os hd => out_b21_enc d os _ hd) ((ev_b21 fu a_0_0 a_0_1 a_0_2 k_1 rn0 rf0 dn1 dp1 df1).trans hy)
theorem good_b21 (fu : Nat) : ∀ xs ins o, S_b21 fu xs ins = some o → ∀ y, o.x = some y → GoodD E Try.prog 47 xs ins (o.g y).1 (o.g y).2 := by
  intro xs ins o h y hy
  unfold S_b21 at h
  split at h
  · rename_i a0_0 a0_1 a0_2 a1_0 rn0 rf0 dn1 dp1 df1
    cases h
    exact goodv_b21 fu a0_0 a0_1 a0_2 a1_0 rn0 rf0 dn1 dp1 df1 y hy
  · cases h

/-! laws.markCmdS -/
def F_laws_markCmdS_U_B0 {ρ : Type} (fu : Nat) (a0_0 : Nat) (on0_3 : Nat) (k0 : Int → (Nat → S_impl_Cmd) → Option ρ) (k1_1 : Int) (i5_2 : Int) (of0_4 : (Nat → S_impl_Cmd)) (go : Int → Int → (Nat → S_impl_Cmd) → Option ρ) : Option ρ :=
  (bif (decide (i5_2 < ((a0_0 : Nat) : Int))) then ((bif (decide (0 ≤ i5_2) && decide ((Int.toNat i5_2) < a0_0)) then some () else none : Option Unit).bind fun _ => ((bif (decide (0 ≤ i5_2) &&
    decide ((Int.toNat i5_2) < a0_0)) then some () else none : Option Unit).bind fun _ => ((bif (decide (0 ≤ i5_2) && decide ((Int.toNat i5_2) < a0_0)) then some () else none : Option Unit).bind fun _ =>
    ((bif (decide (0 ≤ i5_2) && decide ((Int.toNat i5_2) < a0_0)) then some () else none : Option Unit).bind fun _ => ((bif (decide (0 ≤ i5_2) && decide ((Int.toNat i5_2) < a0_0)) then
    some () else none : Option Unit).bind fun _ => ((bif (decide (0 ≤ i5_2) && decide ((Int.toNat i5_2) < a0_0)) then some () else none : Option Unit).bind fun _ => (go (IntKind.wrap .i64 ((IntKind.wrap .i64 ((IntKind.wrap .i64 ((IntKind.wrap .i64 ((IntKind.wrap .i64 ((IntKind.wrap .i64 (k1_1 + 1)) + 1)) + 1)) + 1)) + 1)) + 1)) (IntKind.wrap .i64 (i5_2 + 1)) (upd_impl_Cmd_5_1 (upd_impl_Cmd_4_1 (upd_impl_Cmd_3_1 (upd_impl_Cmd_2_1 (upd_impl_Cmd_1_1 (upd_impl_Cmd_0_1 of0_4 (Int.toNat i5_2) k1_1) (Int.toNat i5_2) (IntKind.wrap .i64 (k1_1 + 1))) (Int.toNat i5_2) (IntKind.wrap .i64 ((IntKind.wrap .i64 (k1_1 + 1)) + 1))) (Int.toNat i5_2) (IntKind.wrap .i64 ((IntKind.wrap .i64 ((IntKind.wrap .i64 (k1_1 + 1)) + 1)) + 1))) (Int.toNat i5_2) (IntKind.wrap .i64 ((IntKind.wrap .i64 ((IntKind.wrap .i64 ((IntKind.wrap .i64 (k1_1 + 1)) + 1)) + 1)) + 1))) (Int.toNat i5_2) (IntKind.wrap .i64 ((IntKind.wrap .i64 ((IntKind.wrap .i64 ((IntKind.wrap .i64 ((IntKind.wrap .i64 (k1_1 + 1)) + 1)) + 1)) + 1)) + 1)))))))))) else
    (k0 k1_1 of0_4))
def F_laws_markCmdS_U (fu : Nat) (a_0_0 : Nat) (k_1 : Int) (rn0 : Nat) (rf0 : (Nat → S_impl_Cmd)) : Option (Int × Nat × (Nat → S_impl_Cmd)) :=
  (L (fun w0 go0 => F_laws_markCmdS_U_B0 fu a_0_0 rn0 (fun z264 z265 => (some (z264, rn0, z265))) w0.1 w0.2.1 w0.2.2 (fun q0 q1 q2 => go0 (q0, q1, q2))) fu ((k_1, 0, rf0) : Int × Int × (Nat → S_impl_Cmd)))
def pc_b22 (fu : Nat) : Pc RT den := ⟨pcf0, fun _ => false, fun _ => false, pcd0, pcx0⟩
def msk_b22 (b : Nat) : List Nat := match b with | 0 => [2, 3, 4, 6, 7, 8, 9, 10, 11, 12, 13, 14, 15, 16, 17, 18, 19, 20, 21, 22, 23, 24, 25, 26, 27, 28, 29, 30, 31, 32, 33, 34, 35, 36, 37, 38, 39, 40, 41, 42, 43, 44, 45, 46, 47, 48, 49, 50, 51, 52, 53, 54] | 100000 => [0, 2, 3, 5, 6, 7, 8, 9, 10, 11, 12, 13, 14, 15, 16, 17, 18, 19, 20, 21, 22, 23, 24, 25, 26, 27, 28, 29, 30, 31, 32, 33, 34, 35, 36, 37, 38, 39, 40, 41, 42, 43, 44, 45, 46, 47, 48, 49, 50, 51, 52, 53, 54] | _ => []
def ps_b22_0 : List (Pat RT) := [.flat (.os 0), .flat (.int .i64), .flat .q, .flat .q, .flat .q, .flat (.int .i64), .flat .q, .flat .q, .flat .q, .flat .q, .flat .q, .flat .q, .flat .q, .flat .q, .flat .q, .flat .q, .flat .q, .flat .q, .flat .q, .flat .q, .flat .q, .flat .q, .flat .q, .flat .q, .flat .q, .flat .q, .flat .q, .flat .q, .flat .q, .flat .q, .flat .q, .flat .q, .flat .q, .flat .q, .flat .q, .flat .q, .flat .q, .flat .q, .flat .q, .flat .q, .flat .q, .flat .q, .flat .q, .flat .q, .flat .q, .flat .q, .flat .q, .flat .q, .flat .q, .flat .q, .flat .q, .flat .q, .flat .q, .flat .q, .flat .q]
def os_b22_0 : List (OP RT) := [.row true .impl_Cmd]
def conv_b22_0 (r : Raw den ps_b22_0 os_b22_0) : (Nat × Nat) × (Int × Int × (Nat → S_impl_Cmd)) := ((r.1.1, r.2.1.1), (r.1.2.1, r.1.2.2.2.2.2.1, r.2.1.2))
def back_b22_0 (c : Nat × Nat) (w : Int × Int × (Nat → S_impl_Cmd)) : St RT den := ⟨[(.os 0 c.1), (.int .i64 w.1), .q, .q, .q, (.int .i64 w.2.1), .q, .q, .q, .q, .q, .q, .q, .q, .q, .q, .q, .q, .q, .q, .q, .q, .q, .q, .q, .q, .q, .q, .q, .q, .q, .q, .q, .q, .q, .q, .q, .q, .q, .q, .q, .q, .q, .q, .q, .q, .q, .q, .q, .q, .q, .q, .q, .q, .q], [(.row true .impl_Cmd c.2 w.2.2)]⟩
def Bk_b22_0 {ρ : Type} (fu : Nat) (c : Nat × Nat) (k : Ex → St RT den → Option ρ) (w : Int × Int × (Nat → S_impl_Cmd)) (go : (Int × Int × (Nat → S_impl_Cmd)) → Option ρ) : Option ρ := F_laws_markCmdS_U_B0 fu c.1 c.2 (fun a0 a1 => k (.exit 0) ⟨[.q, (.int .i64 a0), .q, .q, .q, .q, .q, .q, .q, .q, .q, .q, .q, .q, .q, .q, .q, .q, .q, .q, .q, .q, .q, .q, .q, .q, .q, .q, .q, .q, .q, .q, .q, .q, .q, .q, .q, .q, .q, .q, .q, .q, .q, .q, .q, .q, .q, .q, .q, .q, .q, .q, .q, .q, .q], [(.row true .impl_Cmd c.2 a1)]⟩) w.1 w.2.1 w.2.2 (fun q0 q1 q2 => go (q0, q1, q2))
def lp_b22 (fu : Nat) : Lp RT den (Int × Nat × (Nat → S_impl_Cmd)) := fun b s k => match b with | 0 => handle ps_b22_0 os_b22_0 conv_b22_0 (Bk_b22_0 fu) fu s k | _ => none
def pso_b22 : List (Pat RT) := [.flat (.int .i64)]
def oso_b22 : List (OP RT) := [.row true .impl_Cmd]
def conv_b22 (r : Raw den pso_b22 oso_b22) : Int × Nat × (Nat → S_impl_Cmd) := (r.1.1, r.2.1.1, r.2.1.2)
def enc_b22 (y : Int × Nat × (Nat → S_impl_Cmd)) : D RT den × List (Ob RT den) := ((.int .i64 y.1), [(.row true .impl_Cmd y.2.1 y.2.2)])
def out_b22 (d : D RT den) (os : List (Ob RT den)) : Option (Int × Nat × (Nat → S_impl_Cmd)) := (unSt pso_b22 oso_b22 ⟨[d], os⟩).bind fun v => some (conv_b22 v.1)
theorem out_b22_enc (d : D RT den) (os : List (Ob RT den)) (y : Int × Nat × (Nat → S_impl_Cmd)) (h : out_b22 d os = some y) : d = (enc_b22 y).1 ∧ os = (enc_b22 y).2 :=
  outM (conv := conv_b22) (enc := enc_b22) (fun raw => by kernel_rfl) h
theorem ev_b22 (fu : Nat) (a_0_0 : Nat) (k_1 : Int) (rn0 : Nat) (rf0 : (Nat → S_impl_Cmd)) : evFunU E (pc_b22 fu) msk_b22 (lp_b22 fu) out_b22 36 [(.os 0 a_0_0), (.int .i64 k_1)] [(.row true .impl_Cmd rn0 rf0)] = F_laws_markCmdS_U fu a_0_0 k_1 rn0 rf0 := by kernel_rfl
noncomputable def body_b22 : Code := Try.f36.body.getD .skip
noncomputable def lc_b22_0 : Code := ((loops 0 body_b22).getD 0 (0, .skip)).2
theorem round_b22_0 (fu : Nat) (it : St RT den → Option (Int × Nat × (Nat → S_impl_Cmd))) (k : Ex → St RT den → Option (Int × Nat × (Nat → S_impl_Cmd))) c w : evCode E (pc_b22 fu) msk_b22 (lp_b22 fu) 0 lc_b22_0 (back_b22_0 c w) (after (msk_b22 0) (msk_b22 100000) 1 it k) = Bk_b22_0 fu c k w (fun w => it (back_b22_0 c w)) := by kernel_rfl
theorem lpok_b22_0 (fu : Nat) : ∀ s k r, lp_b22 fu 0 s k = some r → ∃ fuel, iter (msk_b22 0) (msk_b22 100000) s.objs.length (evCode E (pc_b22 fu) msk_b22 (lp_b22 fu) 0 lc_b22_0) fuel s k = some r :=
  handle_ok (ps := ps_b22_0) (os := os_b22_0) (conv := conv_b22_0) (B := Bk_b22_0 fu) (fu := fu) back_b22_0 (fun raw => by kernel_rfl) 1 (fun c w => by kernel_rfl) (round_b22_0 fu)
theorem lpok_b22 (fu : Nat) : LpOk E (pc_b22 fu) msk_b22 (lp_b22 fu) (loops 0 body_b22) := loop_all 1 (by kernel_rfl) fun i hi => match i, hi with
  | 0, _ => by
    have h : (loops 0 body_b22).getD 0 (0, .skip) = (0, lc_b22_0) := by kernel_rfl
    rw [h]; exact lpok_b22_0 fu
  | i + 1, hi => absurd hi (by omega)
def S_b22 (fu : Nat) (xs : List (D RT den)) (ins : List (Ob RT den)) : Option (OutX RT den) := match xs, ins with | [.os 0 a0_0, .int .i64 a1_0], [.row true .impl_Cmd rn0 rf0] => some ⟨Int × Nat × (Nat → S_impl_Cmd), F_laws_markCmdS_U fu a0_0 a1_0 rn0 rf0, enc_b22⟩ | _, _ => none
theorem goodv_b22 (fu : Nat) (a_0_0 : Nat) (k_1 : Int) (rn0 : Nat) (rf0 : (Nat → S_impl_Cmd)) (y : Int × Nat × (Nat → S_impl_Cmd)) (hy : F_laws_markCmdS_U fu a_0_0 k_1 rn0 rf0 = some y) : GoodD E Try.prog 36 [(.os 0 a_0_0), (.int .i64 k_1)] [(.row true .impl_Cmd rn0 rf0)] (enc_b22 y).1 (enc_b22 y).2 :=
  funU_good E_ok (pc_good (pc := pc_b22 fu) hpc0 hpx0) (fn := Try.f36) (c := body_b22) (out := out_b22) (y := y) (by kernel_rfl) (by kernel_rfl) (by kernel_rfl) (lpok_b22 fu) (by kernel_rfl) (Nat.le_of_ble_eq_true (by kernel_rfl)) (Fulls.get 1 trivial) (fun d os hd => out_b22_enc d os _ hd) ((ev_b22 fu a_0_0 k_1 rn0 rf0).trans hy)
theorem good_b22 (fu : Nat) : ∀ xs ins o, S_b22 fu xs ins = some o → ∀ y, o.x = some y → GoodD E Try.prog 36 xs ins (o.g y).1 (o.g y).2 := by
  intro xs ins o h y hy
  unfold S_b22 at h
  split at h
  · rename_i a0_0 a1_0 rn0 rf0
    cases h
    exact goodv_b22 fu a0_0 a1_0 rn0 rf0 y hy
  · cases h
end Go.Proofs.Ytknnfcbagbafaaa.Pc
