/- The functions' evaluated forms, each a proved summary. Conditions: none. -/
import Derived.Test.YtgdlionhnifajaaPcF0
namespace Go.Proofs.Ytgdlionhnifajaa.Pc
open Go Go.RowKit Go.Proofs Vm
set_option linter.unusedVariables false
set_option linter.unusedSimpArgs false
set_option maxRecDepth 100000
/-! spec.l8Fault -/
def F_spec_l8Fault_B0 {ρ : Type} (fu : Nat) (t0_0 : Int) (t0_1 : Int) (t0_2 : Int) (t0_3 : Int) (t0_4 : (Sl S_impl_Entry)) (t0_5 : Int) (t0_6 : Int) (t0_7 : (Sl Int)) (t0_8 : (Sl Int)) (t0_9 : (Sl Int)) (r4_10 : Int) (k0 : Option ρ) (k1 : Option ρ) (a5_11 : Int) (go : Int → Option ρ) : Option ρ :=
  (bif (decide (a5_11 < ((t0_8.n : Nat) : Int))) then ((((bif (decide (0 ≤ a5_11) && decide ((Int.toNat a5_11) < t0_8.n)) then some () else none : Option Unit).bind fun _ =>
    ((F_spec_l1In fu (t0_8.f (Int.toNat a5_11)) 1 (IntKind.wrap .i64 (r4_10 + 1))).bind fun y32 => (bif (!y32) then (some true) else ((bif (decide (0 ≤ a5_11) && decide ((Int.toNat a5_11) < t0_9.n)) then
    some () else none : Option Unit).bind fun _ => ((F_spec_l1In fu (t0_9.f (Int.toNat a5_11)) 0 r4_10).bind fun y33 => (some (!y33))))))) : Option Bool).bind fun m34 => (bif m34 then
    k0 else (go (IntKind.wrap .i64 (a5_11 + 1))))) else k1)
def F_spec_l8Fault (fu : Nat) (t_0 : S_impl_Node) : Option (Int) :=
  ((((F_spec_l1In fu t_0.Peers 1 5).bind fun y22 => (bif (!y22) then (some true) else ((F_spec_l8Id fu t_0 t_0.Id).bind fun y23 => (bif (!y23) then (some true) else ((F_spec_l1In fu t_0.Term 0 100000).bind fun y24 =>
    (bif (!y24) then (some true) else ((F_spec_l1In fu t_0.Voted (-1) (IntKind.wrap .i64 (t_0.Peers - 1))).bind fun y25 => (bif (!y25) then (some true) else ((F_spec_l1In fu t_0.Role 0 2).bind fun y26 =>
    (some (!y26))))))))))) : Option Bool).bind fun m27 => (bif m27 then (some 3) else ((F_spec_LogFault fu t_0.Log).bind fun y28 => (bif (y28 != 0) then (some y28) else
    ((F_spec_LastOf fu t_0.Log).bind fun y29 => (bif (decide (y29.Term > t_0.Term)) then (some 1) else ((F_spec_l1In fu t_0.Commit 0 ((t_0.Log.n : Nat) : Int)).bind fun y30 => (bif (!y30) then
    (some 3) else ((F_spec_l8Lists fu t_0).bind fun y31 => (bif (!y31) then (some 1) else (L (fun w0 go0 => F_spec_l8Fault_B0 fu t_0.Id t_0.Peers t_0.Term t_0.Voted t_0.Log t_0.Role t_0.Commit t_0.Votes t_0.Next t_0.Match ((t_0.Log.n : Nat) : Int) (some 3) (((bif (t_0.Role != 0) then
    (bif (t_0.Voted != t_0.Id) then (some true) else (some (t_0.Term == 0))) else (some false)) : Option Bool).bind fun m35 => (bif m35 then (some 1) else (some 0))) w0 go0) fu (0 : Int))))))))))))
def pc_spec_l8Fault (fu : Nat) : Pc RT den := fun f xs => match f with | 65 => S_spec_l1In fu xs | 66 => S_spec_l8Id fu xs | 67 => S_spec_LogFault fu xs | 68 => S_spec_LastOf fu xs | 69 => S_spec_l8Lists fu xs | _ => none
def msk_spec_l8Fault (b : Nat) : List Nat := match b with | 0 => [1, 2, 3, 6, 7, 8, 9, 10, 11, 12, 13, 14, 15, 16, 17, 18, 19, 20, 21, 22, 23, 24, 25, 26, 27, 28, 29, 30, 31, 32, 33, 34, 35, 36, 37, 38, 39, 40, 41, 42, 43, 44, 45, 46, 47, 48, 49, 50, 51, 52, 53, 54, 55, 56, 57, 58, 59, 60, 61, 62, 63, 64, 65, 66, 67, 68, 69, 70, 71, 72, 73, 74, 75, 76, 77, 78, 79, 80, 81, 82, 83, 84, 85, 86, 87, 88, 89, 90, 91, 92, 93, 94, 95, 96, 97, 98, 99, 100, 101, 102, 103, 104, 105, 106, 107, 108, 109, 110, 111, 112, 113, 114, 115, 116, 117, 118, 119, 120, 121, 122, 123, 124, 125, 126, 127, 128, 129, 130, 131, 132, 133, 134, 135, 136, 137, 138] | 100000 => [1, 3, 4, 5, 6, 7, 8, 9, 10, 11, 12, 13, 14, 15, 16, 17, 18, 19, 20, 21, 22, 23, 24, 25, 26, 27, 28, 29, 30, 31, 32, 33, 34, 35, 36, 37, 38, 39, 40, 41, 42, 43, 44, 45, 46, 47, 48, 49, 50, 51, 52, 53, 54, 55, 56, 57, 58, 59, 60, 61, 62, 63, 64, 65, 66, 67, 68, 69, 70, 71, 72, 73, 74, 75, 76, 77, 78, 79, 80, 81, 82, 83, 84, 85, 86, 87, 88, 89, 90, 91, 92, 93, 94, 95, 96, 97, 98, 99, 100, 101, 102, 103, 104, 105, 106, 107, 108, 109, 110, 111, 112, 113, 114, 115, 116, 117, 118, 119, 120, 121, 122, 123, 124, 125, 126, 127, 128, 129, 130, 131, 132, 133, 134, 135, 136, 137, 138] | 200001 => [49] | 200016 => [115] | 200018 => [138] | _ => []
def ps_spec_l8Fault_0 : List (Pat RT) := [.rptr [(.int .i64), (.int .i64), (.int .i64), (.int .i64), (.rs .impl_Entry), (.int .i64), (.int .i64), (.rs .i64), (.rs .i64), (.rs .i64)], .flat .dead, .flat .dead, .flat .dead, .flat (.int .i64), .flat (.int .i64), .flat .dead, .flat .dead, .flat .dead, .flat .dead, .flat .dead, .flat .dead, .flat .dead, .flat .dead, .flat .dead, .flat .dead, .flat .dead, .flat .dead, .flat .dead, .flat .dead, .flat .dead, .flat .dead, .flat .dead, .flat .dead, .flat .dead, .flat .dead, .flat .dead, .flat .dead, .flat .dead, .flat .dead, .flat .dead, .flat .dead, .flat .dead, .flat .dead, .flat .dead, .flat .dead, .flat .dead, .flat .dead, .flat .dead, .flat .dead, .flat .dead, .flat .dead, .flat .dead, .flat .dead, .flat .dead, .flat .dead, .flat .dead, .flat .dead, .flat .dead, .flat .dead, .flat .dead, .flat .dead, .flat .dead, .flat .dead, .flat .dead, .flat .dead, .flat .dead, .flat .dead, .flat .dead, .flat .dead, .flat .dead, .flat .dead, .flat .dead, .flat .dead, .flat .dead, .flat .dead, .flat .dead, .flat .dead, .flat .dead, .flat .dead, .flat .dead, .flat .dead, .flat .dead, .flat .dead, .flat .dead, .flat .dead, .flat .dead, .flat .dead, .flat .dead, .flat .dead, .flat .dead, .flat .dead, .flat .dead, .flat .dead, .flat .dead, .flat .dead, .flat .dead, .flat .dead, .flat .dead, .flat .dead, .flat .dead, .flat .dead, .flat .dead, .flat .dead, .flat .dead, .flat .dead, .flat .dead, .flat .dead, .flat .dead, .flat .dead, .flat .dead, .flat .dead, .flat .dead, .flat .dead, .flat .dead, .flat .dead, .flat .dead, .flat .dead, .flat .dead, .flat .dead, .flat .dead, .flat .dead, .flat .dead, .flat .dead, .flat .dead, .flat .dead, .flat .dead, .flat .dead, .flat .dead, .flat .dead, .flat .dead, .flat .dead, .flat .dead, .flat .dead, .flat .dead, .flat .dead, .flat .dead, .flat .dead, .flat .dead, .flat .dead, .flat .dead, .flat .dead, .flat .dead, .flat .dead, .flat .dead, .flat .dead, .flat .dead, .flat .dead, .flat .dead]
def os_spec_l8Fault_0 : List (OP RT) := []
def conv_spec_l8Fault_0 (r : Raw den ps_spec_l8Fault_0 os_spec_l8Fault_0) : (Int × Int × Int × Int × (Sl S_impl_Entry) × Int × Int × (Sl Int) × (Sl Int) × (Sl Int) × Int) × (Int) := ((r.1.1.1, r.1.1.2.1, r.1.1.2.2.1, r.1.1.2.2.2.1, r.1.1.2.2.2.2.1, r.1.1.2.2.2.2.2.1, r.1.1.2.2.2.2.2.2.1, r.1.1.2.2.2.2.2.2.2.1, r.1.1.2.2.2.2.2.2.2.2.1, r.1.1.2.2.2.2.2.2.2.2.2.1, r.1.2.2.2.2.1), r.1.2.2.2.2.2.1)
def back_spec_l8Fault_0 (c : Int × Int × Int × Int × (Sl S_impl_Entry) × Int × Int × (Sl Int) × (Sl Int) × (Sl Int) × Int) (w : Int) : St RT den := ⟨[(.rptr [(.int .i64 c.1), (.int .i64 c.2.1), (.int .i64 c.2.2.1), (.int .i64 c.2.2.2.1), (.rs c.2.2.2.2.1.z .impl_Entry c.2.2.2.2.1.n c.2.2.2.2.1.f), (.int .i64 c.2.2.2.2.2.1), (.int .i64 c.2.2.2.2.2.2.1), (.rs c.2.2.2.2.2.2.2.1.z .i64 c.2.2.2.2.2.2.2.1.n c.2.2.2.2.2.2.2.1.f), (.rs c.2.2.2.2.2.2.2.2.1.z .i64 c.2.2.2.2.2.2.2.2.1.n c.2.2.2.2.2.2.2.2.1.f), (.rs c.2.2.2.2.2.2.2.2.2.1.z .i64 c.2.2.2.2.2.2.2.2.2.1.n c.2.2.2.2.2.2.2.2.2.1.f)]), .dead, .dead, .dead, (.int .i64 c.2.2.2.2.2.2.2.2.2.2), (.int .i64 w), .dead, .dead, .dead, .dead, .dead, .dead, .dead, .dead, .dead, .dead, .dead, .dead, .dead, .dead, .dead, .dead, .dead, .dead, .dead, .dead, .dead, .dead, .dead, .dead, .dead, .dead, .dead, .dead, .dead, .dead, .dead, .dead, .dead, .dead, .dead, .dead, .dead, .dead, .dead, .dead, .dead, .dead, .dead, .dead, .dead, .dead, .dead, .dead, .dead, .dead, .dead, .dead, .dead, .dead, .dead, .dead, .dead, .dead, .dead, .dead, .dead, .dead, .dead, .dead, .dead, .dead, .dead, .dead, .dead, .dead, .dead, .dead, .dead, .dead, .dead, .dead, .dead, .dead, .dead, .dead, .dead, .dead, .dead, .dead, .dead, .dead, .dead, .dead, .dead, .dead, .dead, .dead, .dead, .dead, .dead, .dead, .dead, .dead, .dead, .dead, .dead, .dead, .dead, .dead, .dead, .dead, .dead, .dead, .dead, .dead, .dead, .dead, .dead, .dead, .dead, .dead, .dead, .dead, .dead, .dead, .dead, .dead, .dead, .dead, .dead, .dead, .dead, .dead, .dead, .dead, .dead, .dead, .dead], []⟩
def Bk_spec_l8Fault_0 {ρ : Type} (fu : Nat) (c : Int × Int × Int × Int × (Sl S_impl_Entry) × Int × Int × (Sl Int) × (Sl Int) × (Sl Int) × Int) (k : Ex → St RT den → Option ρ) (w : Int) (go : (Int) → Option ρ) : Option ρ := F_spec_l8Fault_B0 fu c.1 c.2.1 c.2.2.1 c.2.2.2.1 c.2.2.2.2.1 c.2.2.2.2.2.1 c.2.2.2.2.2.2.1 c.2.2.2.2.2.2.2.1 c.2.2.2.2.2.2.2.2.1 c.2.2.2.2.2.2.2.2.2.1 c.2.2.2.2.2.2.2.2.2.2 (k .ret ⟨[(.rptr [(.int .i64 c.1), (.int .i64 c.2.1), (.int .i64 c.2.2.1), (.int .i64 c.2.2.2.1), (.rs c.2.2.2.2.1.z .impl_Entry c.2.2.2.2.1.n c.2.2.2.2.1.f), (.int .i64 c.2.2.2.2.2.1), (.int .i64 c.2.2.2.2.2.2.1), (.rs c.2.2.2.2.2.2.2.1.z .i64 c.2.2.2.2.2.2.2.1.n c.2.2.2.2.2.2.2.1.f), (.rs c.2.2.2.2.2.2.2.2.1.z .i64 c.2.2.2.2.2.2.2.2.1.n c.2.2.2.2.2.2.2.2.1.f), (.rs c.2.2.2.2.2.2.2.2.2.1.z .i64 c.2.2.2.2.2.2.2.2.2.1.n c.2.2.2.2.2.2.2.2.2.1.f)]), .dead, (.int .i64 3), .dead, .dead, .dead, .dead, .dead, .dead, .dead, .dead, .dead, .dead, .dead, .dead, .dead, .dead, .dead, .dead, .dead, .dead, .dead, .dead, .dead, .dead, .dead, .dead, .dead, .dead, .dead, .dead, .dead, .dead, .dead, .dead, .dead, .dead, .dead, .dead, .dead, .dead, .dead, .dead, .dead, .dead, .dead, .dead, .dead, .dead, .dead, .dead, .dead, .dead, .dead, .dead, .dead, .dead, .dead, .dead, .dead, .dead, .dead, .dead, .dead, .dead, .dead, .dead, .dead, .dead, .dead, .dead, .dead, .dead, .dead, .dead, .dead, .dead, .dead, .dead, .dead, .dead, .dead, .dead, .dead, .dead, .dead, .dead, .dead, .dead, .dead, .dead, .dead, .dead, .dead, .dead, .dead, .dead, .dead, .dead, .dead, .dead, .dead, .dead, .dead, .dead, .dead, .dead, .dead, .dead, .dead, .dead, .dead, .dead, .dead, .dead, .dead, .dead, .dead, .dead, .dead, .dead, .dead, .dead, .dead, .dead, .dead, .dead, .dead, .dead, .dead, .dead, .dead, .dead, .dead, .dead, .dead, .dead, .dead, .dead], []⟩) (k (.exit 0) ⟨[(.rptr [(.int .i64 c.1), (.int .i64 c.2.1), (.int .i64 c.2.2.1), (.int .i64 c.2.2.2.1), (.rs c.2.2.2.2.1.z .impl_Entry c.2.2.2.2.1.n c.2.2.2.2.1.f), (.int .i64 c.2.2.2.2.2.1), (.int .i64 c.2.2.2.2.2.2.1), (.rs c.2.2.2.2.2.2.2.1.z .i64 c.2.2.2.2.2.2.2.1.n c.2.2.2.2.2.2.2.1.f), (.rs c.2.2.2.2.2.2.2.2.1.z .i64 c.2.2.2.2.2.2.2.2.1.n c.2.2.2.2.2.2.2.2.1.f), (.rs c.2.2.2.2.2.2.2.2.2.1.z .i64 c.2.2.2.2.2.2.2.2.2.1.n c.2.2.2.2.2.2.2.2.2.1.f)]), .dead, .dead, .dead, .dead, .dead, .dead, .dead, .dead, .dead, .dead, .dead, .dead, .dead, .dead, .dead, .dead, .dead, .dead, .dead, .dead, .dead, .dead, .dead, .dead, .dead, .dead, .dead, .dead, .dead, .dead, .dead, .dead, .dead, .dead, .dead, .dead, .dead, .dead, .dead, .dead, .dead, .dead, .dead, .dead, .dead, .dead, .dead, .dead, .dead, .dead, .dead, .dead, .dead, .dead, .dead, .dead, .dead, .dead, .dead, .dead, .dead, .dead, .dead, .dead, .dead, .dead, .dead, .dead, .dead, .dead, .dead, .dead, .dead, .dead, .dead, .dead, .dead, .dead, .dead, .dead, .dead, .dead, .dead, .dead, .dead, .dead, .dead, .dead, .dead, .dead, .dead, .dead, .dead, .dead, .dead, .dead, .dead, .dead, .dead, .dead, .dead, .dead, .dead, .dead, .dead, .dead, .dead, .dead, .dead, .dead, .dead, .dead, .dead, .dead, .dead, .dead, .dead, .dead, .dead, .dead, .dead, .dead, .dead, .dead, .dead, .dead, .dead, .dead, .dead, .dead, .dead, .dead, .dead, .dead, .dead, .dead, .dead, .dead], []⟩) w go
def lp_spec_l8Fault (fu : Nat) : Lp RT den (Int) := fun b s k => match b with | 0 => handle ps_spec_l8Fault_0 os_spec_l8Fault_0 conv_spec_l8Fault_0 (Bk_spec_l8Fault_0 fu) fu s k | _ => none
theorem ev_spec_l8Fault (fu : Nat) (t_0 : S_impl_Node) : evFun E (pc_spec_l8Fault fu) msk_spec_l8Fault (lp_spec_l8Fault fu) out_i64 33 [(.rptr [(.int .i64 t_0.Id), (.int .i64 t_0.Peers), (.int .i64 t_0.Term), (.int .i64 t_0.Voted), (.rs t_0.Log.z .impl_Entry t_0.Log.n t_0.Log.f), (.int .i64 t_0.Role), (.int .i64 t_0.Commit), (.rs t_0.Votes.z .i64 t_0.Votes.n t_0.Votes.f), (.rs t_0.Next.z .i64 t_0.Next.n t_0.Next.f), (.rs t_0.Match.z .i64 t_0.Match.n t_0.Match.f)])] = F_spec_l8Fault fu t_0 := by kernel_rfl
noncomputable def body_spec_l8Fault : Code := Try.f33.body.getD .skip
noncomputable def lc_spec_l8Fault_0 : Code := ((loops 0 body_spec_l8Fault).getD 0 (0, .skip)).2
theorem round_spec_l8Fault_0 (fu : Nat) (it : St RT den → Option (Int)) (k : Ex → St RT den → Option (Int)) c w : evCode E (pc_spec_l8Fault fu) msk_spec_l8Fault (lp_spec_l8Fault fu) 0 lc_spec_l8Fault_0 (back_spec_l8Fault_0 c w) (after (msk_spec_l8Fault 0) (msk_spec_l8Fault 100000) 0 it k) = Bk_spec_l8Fault_0 fu c k w (fun w => it (back_spec_l8Fault_0 c w)) := by kernel_rfl
theorem lpok_spec_l8Fault_0 (fu : Nat) : ∀ s k r, lp_spec_l8Fault fu 0 s k = some r → ∃ fuel, iter (msk_spec_l8Fault 0) (msk_spec_l8Fault 100000) s.objs.length (evCode E (pc_spec_l8Fault fu) msk_spec_l8Fault (lp_spec_l8Fault fu) 0 lc_spec_l8Fault_0) fuel s k = some r :=
  handle_ok (ps := ps_spec_l8Fault_0) (os := os_spec_l8Fault_0) (conv := conv_spec_l8Fault_0) (B := Bk_spec_l8Fault_0 fu) (fu := fu) back_spec_l8Fault_0 (fun raw => by kernel_rfl) 0 (fun c w => by kernel_rfl) (round_spec_l8Fault_0 fu)
theorem lpok_spec_l8Fault (fu : Nat) : LpOk E (pc_spec_l8Fault fu) msk_spec_l8Fault (lp_spec_l8Fault fu) (loops 0 body_spec_l8Fault) := loop_all 1 (by kernel_rfl) fun i hi => match i, hi with
  | 0, _ => by
    have h : (loops 0 body_spec_l8Fault).getD 0 (0, .skip) = (0, lc_spec_l8Fault_0) := by kernel_rfl
    rw [h]; exact lpok_spec_l8Fault_0 fu
  | i + 1, hi => absurd hi (by omega)
def S_spec_l8Fault (fu : Nat) (xs : List (D RT den)) : Option (Out RT den) := match xs with | [.rptr [.int .i64 a0_1, .int .i64 a0_2, .int .i64 a0_3, .int .i64 a0_4, .rs za0_5 .impl_Entry na0_5 fa0_5, .int .i64 a0_6, .int .i64 a0_7, .rs za0_8 .i64 na0_8 fa0_8, .rs za0_9 .i64 na0_9 fa0_9, .rs za0_10 .i64 na0_10 fa0_10]] => some ⟨Int, F_spec_l8Fault fu (⟨a0_1, a0_2, a0_3, a0_4, (⟨za0_5, na0_5, fa0_5⟩ : (Sl S_impl_Entry)), a0_6, a0_7, (⟨za0_8, na0_8, fa0_8⟩ : (Sl Int)), (⟨za0_9, na0_9, fa0_9⟩ : (Sl Int)), (⟨za0_10, na0_10, fa0_10⟩ : (Sl Int))⟩ : S_impl_Node), enc_i64, fun _ => true⟩ | _ => none
theorem hpc_spec_l8Fault (fu : Nat) : ∀ f xs o, pc_spec_l8Fault fu f xs = some o → ∀ y, o.x = some y → Good E Try.prog f xs (o.g y) := by
  intro f xs o h
  unfold pc_spec_l8Fault at h
  split at h
  · exact good_spec_l1In fu xs o h
  · exact good_spec_l8Id fu xs o h
  · exact good_spec_LogFault fu xs o h
  · exact good_spec_LastOf fu xs o h
  · exact good_spec_l8Lists fu xs o h
  · cases h
theorem goodv_spec_l8Fault (fu : Nat) (t_0 : S_impl_Node) (y : Int) (hy : F_spec_l8Fault fu t_0 = some y) : Good E Try.prog 33 [(.rptr [(.int .i64 t_0.Id), (.int .i64 t_0.Peers), (.int .i64 t_0.Term), (.int .i64 t_0.Voted), (.rs t_0.Log.z .impl_Entry t_0.Log.n t_0.Log.f), (.int .i64 t_0.Role), (.int .i64 t_0.Commit), (.rs t_0.Votes.z .i64 t_0.Votes.n t_0.Votes.f), (.rs t_0.Next.z .i64 t_0.Next.n t_0.Next.f), (.rs t_0.Match.z .i64 t_0.Match.n t_0.Match.f)])] (enc_i64 y) :=
  fun_good E_ok (pc_good (hpc_spec_l8Fault fu)) (fn := Try.f33) (c := body_spec_l8Fault) (out := out_i64) (y := y) (by kernel_rfl) (by kernel_rfl) (by kernel_rfl) (lpok_spec_l8Fault fu) (fun d hd => out_i64_enc d _ hd) ((ev_spec_l8Fault fu t_0).trans hy)
theorem good_spec_l8Fault (fu : Nat) : ∀ xs o, S_spec_l8Fault fu xs = some o → ∀ y, o.x = some y → Good E Try.prog 33 xs (o.g y) := by
  intro xs o h y hy
  unfold S_spec_l8Fault at h
  split at h
  · rename_i a0_1 a0_2 a0_3 a0_4 za0_5 na0_5 fa0_5 a0_6 a0_7 za0_8 na0_8 fa0_8 za0_9 na0_9 fa0_9 za0_10 na0_10 fa0_10
    cases h
    exact goodv_spec_l8Fault fu (⟨a0_1, a0_2, a0_3, a0_4, (⟨za0_5, na0_5, fa0_5⟩ : (Sl S_impl_Entry)), a0_6, a0_7, (⟨za0_8, na0_8, fa0_8⟩ : (Sl Int)), (⟨za0_9, na0_9, fa0_9⟩ : (Sl Int)), (⟨za0_10, na0_10, fa0_10⟩ : (Sl Int))⟩ : S_impl_Node) y hy
  · cases h

/-! spec.CommitOf -/
def F_spec_CommitOf (fu : Nat) (n_0 : S_impl_Node) : Option (S_impl_IntResult) :=
  ((F_spec_l8Fault fu n_0).bind fun y21 => (bif (y21 != 0) then (some (⟨y21, 0⟩ : S_impl_IntResult)) else (some (⟨0, n_0.Commit⟩ : S_impl_IntResult))))
def pc_spec_CommitOf (fu : Nat) : Pc RT den := fun f xs => match f with | 33 => S_spec_l8Fault fu xs | _ => none
def msk_spec_CommitOf (b : Nat) : List Nat := []
def lp_spec_CommitOf (fu : Nat) : Lp RT den (S_impl_IntResult) := fun b s k => none
theorem ev_spec_CommitOf (fu : Nat) (n_0 : S_impl_Node) : evFun E (pc_spec_CommitOf fu) msk_spec_CommitOf (lp_spec_CommitOf fu) out_impl_IntResult 10 [(.agg [(.int .i64 n_0.Id), (.int .i64 n_0.Peers), (.int .i64 n_0.Term), (.int .i64 n_0.Voted), (.rs n_0.Log.z .impl_Entry n_0.Log.n n_0.Log.f), (.int .i64 n_0.Role), (.int .i64 n_0.Commit), (.rs n_0.Votes.z .i64 n_0.Votes.n n_0.Votes.f), (.rs n_0.Next.z .i64 n_0.Next.n n_0.Next.f), (.rs n_0.Match.z .i64 n_0.Match.n n_0.Match.f)])] = F_spec_CommitOf fu n_0 := by kernel_rfl
noncomputable def body_spec_CommitOf : Code := Try.f10.body.getD .skip
theorem lpok_spec_CommitOf (fu : Nat) : LpOk E (pc_spec_CommitOf fu) msk_spec_CommitOf (lp_spec_CommitOf fu) (loops 0 body_spec_CommitOf) := by
  have h : loops 0 body_spec_CommitOf = [] := by kernel_rfl
  rw [h]; intro p hp; cases hp
def S_spec_CommitOf (fu : Nat) (xs : List (D RT den)) : Option (Out RT den) := match xs with | [.agg [.int .i64 a0_1, .int .i64 a0_2, .int .i64 a0_3, .int .i64 a0_4, .rs za0_5 .impl_Entry na0_5 fa0_5, .int .i64 a0_6, .int .i64 a0_7, .rs za0_8 .i64 na0_8 fa0_8, .rs za0_9 .i64 na0_9 fa0_9, .rs za0_10 .i64 na0_10 fa0_10]] => some ⟨S_impl_IntResult, F_spec_CommitOf fu (⟨a0_1, a0_2, a0_3, a0_4, (⟨za0_5, na0_5, fa0_5⟩ : (Sl S_impl_Entry)), a0_6, a0_7, (⟨za0_8, na0_8, fa0_8⟩ : (Sl Int)), (⟨za0_9, na0_9, fa0_9⟩ : (Sl Int)), (⟨za0_10, na0_10, fa0_10⟩ : (Sl Int))⟩ : S_impl_Node), enc_impl_IntResult, fun _ => true⟩ | _ => none
theorem hpc_spec_CommitOf (fu : Nat) : ∀ f xs o, pc_spec_CommitOf fu f xs = some o → ∀ y, o.x = some y → Good E Try.prog f xs (o.g y) := by
  intro f xs o h
  unfold pc_spec_CommitOf at h
  split at h
  · exact good_spec_l8Fault fu xs o h
  · cases h
theorem goodv_spec_CommitOf (fu : Nat) (n_0 : S_impl_Node) (y : S_impl_IntResult) (hy : F_spec_CommitOf fu n_0 = some y) : Good E Try.prog 10 [(.agg [(.int .i64 n_0.Id), (.int .i64 n_0.Peers), (.int .i64 n_0.Term), (.int .i64 n_0.Voted), (.rs n_0.Log.z .impl_Entry n_0.Log.n n_0.Log.f), (.int .i64 n_0.Role), (.int .i64 n_0.Commit), (.rs n_0.Votes.z .i64 n_0.Votes.n n_0.Votes.f), (.rs n_0.Next.z .i64 n_0.Next.n n_0.Next.f), (.rs n_0.Match.z .i64 n_0.Match.n n_0.Match.f)])] (enc_impl_IntResult y) :=
  fun_good E_ok (pc_good (hpc_spec_CommitOf fu)) (fn := Try.f10) (c := body_spec_CommitOf) (out := out_impl_IntResult) (y := y) (by kernel_rfl) (by kernel_rfl) (by kernel_rfl) (lpok_spec_CommitOf fu) (fun d hd => out_impl_IntResult_enc d _ hd) ((ev_spec_CommitOf fu n_0).trans hy)
theorem good_spec_CommitOf (fu : Nat) : ∀ xs o, S_spec_CommitOf fu xs = some o → ∀ y, o.x = some y → Good E Try.prog 10 xs (o.g y) := by
  intro xs o h y hy
  unfold S_spec_CommitOf at h
  split at h
  · rename_i a0_1 a0_2 a0_3 a0_4 za0_5 na0_5 fa0_5 a0_6 a0_7 za0_8 na0_8 fa0_8 za0_9 na0_9 fa0_9 za0_10 na0_10 fa0_10
    cases h
    exact goodv_spec_CommitOf fu (⟨a0_1, a0_2, a0_3, a0_4, (⟨za0_5, na0_5, fa0_5⟩ : (Sl S_impl_Entry)), a0_6, a0_7, (⟨za0_8, na0_8, fa0_8⟩ : (Sl Int)), (⟨za0_9, na0_9, fa0_9⟩ : (Sl Int)), (⟨za0_10, na0_10, fa0_10⟩ : (Sl Int))⟩ : S_impl_Node) y hy
  · cases h

/-! impl.in -/
def F_impl_in (fu : Nat) (n_0 : Int) (low_1 : Int) (high_2 : Int) : Option (Bool) :=
  (((bif (decide (n_0 ≥ low_1)) then (some (decide (n_0 ≤ high_2))) else (some false)) : Option Bool).bind fun m124 => (some m124))
def pc_impl_in (fu : Nat) : Pc RT den := fun f xs => none
def msk_impl_in (b : Nat) : List Nat := match b with | 200001 => [6] | _ => []
def lp_impl_in (fu : Nat) : Lp RT den (Bool) := fun b s k => none
theorem ev_impl_in (fu : Nat) (n_0 : Int) (low_1 : Int) (high_2 : Int) : evFun E (pc_impl_in fu) msk_impl_in (lp_impl_in fu) out_b 40 [(.int .i64 n_0), (.int .i64 low_1), (.int .i64 high_2)] = F_impl_in fu n_0 low_1 high_2 := by kernel_rfl
noncomputable def body_impl_in : Code := Try.f40.body.getD .skip
theorem lpok_impl_in (fu : Nat) : LpOk E (pc_impl_in fu) msk_impl_in (lp_impl_in fu) (loops 0 body_impl_in) := by
  have h : loops 0 body_impl_in = [] := by kernel_rfl
  rw [h]; intro p hp; cases hp
def S_impl_in (fu : Nat) (xs : List (D RT den)) : Option (Out RT den) := match xs with | [.int .i64 a0_0, .int .i64 a1_0, .int .i64 a2_0] => some ⟨Bool, F_impl_in fu a0_0 a1_0 a2_0, enc_b, fun _ => true⟩ | _ => none
theorem hpc_impl_in (fu : Nat) : ∀ f xs o, pc_impl_in fu f xs = some o → ∀ y, o.x = some y → Good E Try.prog f xs (o.g y) := by
  intro f xs o h
  cases h
theorem goodv_impl_in (fu : Nat) (n_0 : Int) (low_1 : Int) (high_2 : Int) (y : Bool) (hy : F_impl_in fu n_0 low_1 high_2 = some y) : Good E Try.prog 40 [(.int .i64 n_0), (.int .i64 low_1), (.int .i64 high_2)] (enc_b y) :=
  fun_good E_ok (pc_good (hpc_impl_in fu)) (fn := Try.f40) (c := body_impl_in) (out := out_b) (y := y) (by kernel_rfl) (by kernel_rfl) (by kernel_rfl) (lpok_impl_in fu) (fun d hd => out_b_enc d _ hd) ((ev_impl_in fu n_0 low_1 high_2).trans hy)
theorem good_impl_in (fu : Nat) : ∀ xs o, S_impl_in fu xs = some o → ∀ y, o.x = some y → Good E Try.prog 40 xs (o.g y) := by
  intro xs o h y hy
  unfold S_impl_in at h
  split at h
  · rename_i a0_0 a1_0 a2_0
    cases h
    exact goodv_impl_in fu a0_0 a1_0 a2_0 y hy
  · cases h

/-! (*impl.Node).isId -/
def F_impl_Node_isId (fu : Nat) (n_0 : S_impl_Node) (id_1 : Int) : Option (Bool) :=
  ((F_impl_in fu id_1 0 (IntKind.wrap .i64 (n_0.Peers - 1))).bind fun y125 => (some y125))
def pc_impl_Node_isId (fu : Nat) : Pc RT den := fun f xs => match f with | 40 => S_impl_in fu xs | _ => none
def msk_impl_Node_isId (b : Nat) : List Nat := []
def lp_impl_Node_isId (fu : Nat) : Lp RT den (Bool) := fun b s k => none
theorem ev_impl_Node_isId (fu : Nat) (n_0 : S_impl_Node) (id_1 : Int) : evFun E (pc_impl_Node_isId fu) msk_impl_Node_isId (lp_impl_Node_isId fu) out_b 41 [(.rptr [(.int .i64 n_0.Id), (.int .i64 n_0.Peers), (.int .i64 n_0.Term), (.int .i64 n_0.Voted), (.rs n_0.Log.z .impl_Entry n_0.Log.n n_0.Log.f), (.int .i64 n_0.Role), (.int .i64 n_0.Commit), (.rs n_0.Votes.z .i64 n_0.Votes.n n_0.Votes.f), (.rs n_0.Next.z .i64 n_0.Next.n n_0.Next.f), (.rs n_0.Match.z .i64 n_0.Match.n n_0.Match.f)]), (.int .i64 id_1)] = F_impl_Node_isId fu n_0 id_1 := by kernel_rfl
noncomputable def body_impl_Node_isId : Code := Try.f41.body.getD .skip
theorem lpok_impl_Node_isId (fu : Nat) : LpOk E (pc_impl_Node_isId fu) msk_impl_Node_isId (lp_impl_Node_isId fu) (loops 0 body_impl_Node_isId) := by
  have h : loops 0 body_impl_Node_isId = [] := by kernel_rfl
  rw [h]; intro p hp; cases hp
def S_impl_Node_isId (fu : Nat) (xs : List (D RT den)) : Option (Out RT den) := match xs with | [.rptr [.int .i64 a0_1, .int .i64 a0_2, .int .i64 a0_3, .int .i64 a0_4, .rs za0_5 .impl_Entry na0_5 fa0_5, .int .i64 a0_6, .int .i64 a0_7, .rs za0_8 .i64 na0_8 fa0_8, .rs za0_9 .i64 na0_9 fa0_9, .rs za0_10 .i64 na0_10 fa0_10], .int .i64 a1_0] => some ⟨Bool, F_impl_Node_isId fu (⟨a0_1, a0_2, a0_3, a0_4, (⟨za0_5, na0_5, fa0_5⟩ : (Sl S_impl_Entry)), a0_6, a0_7, (⟨za0_8, na0_8, fa0_8⟩ : (Sl Int)), (⟨za0_9, na0_9, fa0_9⟩ : (Sl Int)), (⟨za0_10, na0_10, fa0_10⟩ : (Sl Int))⟩ : S_impl_Node) a1_0, enc_b, fun _ => true⟩ | _ => none
theorem hpc_impl_Node_isId (fu : Nat) : ∀ f xs o, pc_impl_Node_isId fu f xs = some o → ∀ y, o.x = some y → Good E Try.prog f xs (o.g y) := by
  intro f xs o h
  unfold pc_impl_Node_isId at h
  split at h
  · exact good_impl_in fu xs o h
  · cases h
theorem goodv_impl_Node_isId (fu : Nat) (n_0 : S_impl_Node) (id_1 : Int) (y : Bool) (hy : F_impl_Node_isId fu n_0 id_1 = some y) : Good E Try.prog 41 [(.rptr [(.int .i64 n_0.Id), (.int .i64 n_0.Peers), (.int .i64 n_0.Term), (.int .i64 n_0.Voted), (.rs n_0.Log.z .impl_Entry n_0.Log.n n_0.Log.f), (.int .i64 n_0.Role), (.int .i64 n_0.Commit), (.rs n_0.Votes.z .i64 n_0.Votes.n n_0.Votes.f), (.rs n_0.Next.z .i64 n_0.Next.n n_0.Next.f), (.rs n_0.Match.z .i64 n_0.Match.n n_0.Match.f)]), (.int .i64 id_1)] (enc_b y) :=
  fun_good E_ok (pc_good (hpc_impl_Node_isId fu)) (fn := Try.f41) (c := body_impl_Node_isId) (out := out_b) (y := y) (by kernel_rfl) (by kernel_rfl) (by kernel_rfl) (lpok_impl_Node_isId fu) (fun d hd => out_b_enc d _ hd) ((ev_impl_Node_isId fu n_0 id_1).trans hy)
theorem good_impl_Node_isId (fu : Nat) : ∀ xs o, S_impl_Node_isId fu xs = some o → ∀ y, o.x = some y → Good E Try.prog 41 xs (o.g y) := by
  intro xs o h y hy
  unfold S_impl_Node_isId at h
  split at h
  · rename_i a0_1 a0_2 a0_3 a0_4 za0_5 na0_5 fa0_5 a0_6 a0_7 za0_8 na0_8 fa0_8 za0_9 na0_9 fa0_9 za0_10 na0_10 fa0_10 a1_0
    cases h
    exact goodv_impl_Node_isId fu (⟨a0_1, a0_2, a0_3, a0_4, (⟨za0_5, na0_5, fa0_5⟩ : (Sl S_impl_Entry)), a0_6, a0_7, (⟨za0_8, na0_8, fa0_8⟩ : (Sl Int)), (⟨za0_9, na0_9, fa0_9⟩ : (Sl Int)), (⟨za0_10, na0_10, fa0_10⟩ : (Sl Int))⟩ : S_impl_Node) a1_0 y hy
  · cases h

/-! impl.needs -/
def F_impl_needs (fu : Nat) (kind_0 : Int) : Option (Bool × Bool × Bool × Bool) :=
  ((F_impl_in fu kind_0 5 8).bind fun y172 => ((F_impl_in fu kind_0 5 6).bind fun y173 => (bif (kind_0 == 1) then (some ((!y173), true, (kind_0 != 4), y172)) else (some ((!y173),
    y172, (kind_0 != 4), y172)))))
def pc_impl_needs (fu : Nat) : Pc RT den := fun f xs => match f with | 40 => S_impl_in fu xs | _ => none
def msk_impl_needs (b : Nat) : List Nat := []
def lp_impl_needs (fu : Nat) : Lp RT den (Bool × Bool × Bool × Bool) := fun b s k => none
theorem ev_impl_needs (fu : Nat) (kind_0 : Int) : evFun E (pc_impl_needs fu) msk_impl_needs (lp_impl_needs fu) out_b_b_b_b 90 [(.int .i64 kind_0)] = F_impl_needs fu kind_0 := by kernel_rfl
noncomputable def body_impl_needs : Code := Try.f90.body.getD .skip
theorem lpok_impl_needs (fu : Nat) : LpOk E (pc_impl_needs fu) msk_impl_needs (lp_impl_needs fu) (loops 0 body_impl_needs) := by
  have h : loops 0 body_impl_needs = [] := by kernel_rfl
  rw [h]; intro p hp; cases hp
def S_impl_needs (fu : Nat) (xs : List (D RT den)) : Option (Out RT den) := match xs with | [.int .i64 a0_0] => some ⟨Bool × Bool × Bool × Bool, F_impl_needs fu a0_0, enc_b_b_b_b, fun _ => true⟩ | _ => none
theorem hpc_impl_needs (fu : Nat) : ∀ f xs o, pc_impl_needs fu f xs = some o → ∀ y, o.x = some y → Good E Try.prog f xs (o.g y) := by
  intro f xs o h
  unfold pc_impl_needs at h
  split at h
  · exact good_impl_in fu xs o h
  · cases h
theorem goodv_impl_needs (fu : Nat) (kind_0 : Int) (y : Bool × Bool × Bool × Bool) (hy : F_impl_needs fu kind_0 = some y) : Good E Try.prog 90 [(.int .i64 kind_0)] (enc_b_b_b_b y) :=
  fun_good E_ok (pc_good (hpc_impl_needs fu)) (fn := Try.f90) (c := body_impl_needs) (out := out_b_b_b_b) (y := y) (by kernel_rfl) (by kernel_rfl) (by kernel_rfl) (lpok_impl_needs fu) (fun d hd => out_b_b_b_b_enc d _ hd) ((ev_impl_needs fu kind_0).trans hy)
theorem good_impl_needs (fu : Nat) : ∀ xs o, S_impl_needs fu xs = some o → ∀ y, o.x = some y → Good E Try.prog 90 xs (o.g y) := by
  intro xs o h y hy
  unfold S_impl_needs at h
  split at h
  · rename_i a0_0
    cases h
    exact goodv_impl_needs fu a0_0 y hy
  · cases h

/-! impl.isName -/
def F_impl_isName (fu : Nat) (name_0 : Int) : Option (Bool) :=
  ((F_impl_in fu name_0 1 999).bind fun y174 => (some y174))
def pc_impl_isName (fu : Nat) : Pc RT den := fun f xs => match f with | 40 => S_impl_in fu xs | _ => none
def msk_impl_isName (b : Nat) : List Nat := []
def lp_impl_isName (fu : Nat) : Lp RT den (Bool) := fun b s k => none
theorem ev_impl_isName (fu : Nat) (name_0 : Int) : evFun E (pc_impl_isName fu) msk_impl_isName (lp_impl_isName fu) out_b 91 [(.int .i64 name_0)] = F_impl_isName fu name_0 := by kernel_rfl
noncomputable def body_impl_isName : Code := Try.f91.body.getD .skip
theorem lpok_impl_isName (fu : Nat) : LpOk E (pc_impl_isName fu) msk_impl_isName (lp_impl_isName fu) (loops 0 body_impl_isName) := by
  have h : loops 0 body_impl_isName = [] := by kernel_rfl
  rw [h]; intro p hp; cases hp
def S_impl_isName (fu : Nat) (xs : List (D RT den)) : Option (Out RT den) := match xs with | [.int .i64 a0_0] => some ⟨Bool, F_impl_isName fu a0_0, enc_b, fun _ => true⟩ | _ => none
theorem hpc_impl_isName (fu : Nat) : ∀ f xs o, pc_impl_isName fu f xs = some o → ∀ y, o.x = some y → Good E Try.prog f xs (o.g y) := by
  intro f xs o h
  unfold pc_impl_isName at h
  split at h
  · exact good_impl_in fu xs o h
  · cases h
theorem goodv_impl_isName (fu : Nat) (name_0 : Int) (y : Bool) (hy : F_impl_isName fu name_0 = some y) : Good E Try.prog 91 [(.int .i64 name_0)] (enc_b y) :=
  fun_good E_ok (pc_good (hpc_impl_isName fu)) (fn := Try.f91) (c := body_impl_isName) (out := out_b) (y := y) (by kernel_rfl) (by kernel_rfl) (by kernel_rfl) (lpok_impl_isName fu) (fun d hd => out_b_enc d _ hd) ((ev_impl_isName fu name_0).trans hy)
theorem good_impl_isName (fu : Nat) : ∀ xs o, S_impl_isName fu xs = some o → ∀ y, o.x = some y → Good E Try.prog 91 xs (o.g y) := by
  intro xs o h y hy
  unfold S_impl_isName at h
  split at h
  · rename_i a0_0
    cases h
    exact goodv_impl_isName fu a0_0 y hy
  · cases h

/-! impl.isAddress -/
def F_impl_isAddress (fu : Nat) (a_0 : Int) : Option (Bool) :=
  ((F_impl_in fu a_0 0 4294967295).bind fun y175 => (some y175))
def pc_impl_isAddress (fu : Nat) : Pc RT den := fun f xs => match f with | 40 => S_impl_in fu xs | _ => none
def msk_impl_isAddress (b : Nat) : List Nat := []
def lp_impl_isAddress (fu : Nat) : Lp RT den (Bool) := fun b s k => none
theorem ev_impl_isAddress (fu : Nat) (a_0 : Int) : evFun E (pc_impl_isAddress fu) msk_impl_isAddress (lp_impl_isAddress fu) out_b 92 [(.int .i64 a_0)] = F_impl_isAddress fu a_0 := by kernel_rfl
noncomputable def body_impl_isAddress : Code := Try.f92.body.getD .skip
theorem lpok_impl_isAddress (fu : Nat) : LpOk E (pc_impl_isAddress fu) msk_impl_isAddress (lp_impl_isAddress fu) (loops 0 body_impl_isAddress) := by
  have h : loops 0 body_impl_isAddress = [] := by kernel_rfl
  rw [h]; intro p hp; cases hp
def S_impl_isAddress (fu : Nat) (xs : List (D RT den)) : Option (Out RT den) := match xs with | [.int .i64 a0_0] => some ⟨Bool, F_impl_isAddress fu a0_0, enc_b, fun _ => true⟩ | _ => none
theorem hpc_impl_isAddress (fu : Nat) : ∀ f xs o, pc_impl_isAddress fu f xs = some o → ∀ y, o.x = some y → Good E Try.prog f xs (o.g y) := by
  intro f xs o h
  unfold pc_impl_isAddress at h
  split at h
  · exact good_impl_in fu xs o h
  · cases h
theorem goodv_impl_isAddress (fu : Nat) (a_0 : Int) (y : Bool) (hy : F_impl_isAddress fu a_0 = some y) : Good E Try.prog 92 [(.int .i64 a_0)] (enc_b y) :=
  fun_good E_ok (pc_good (hpc_impl_isAddress fu)) (fn := Try.f92) (c := body_impl_isAddress) (out := out_b) (y := y) (by kernel_rfl) (by kernel_rfl) (by kernel_rfl) (lpok_impl_isAddress fu) (fun d hd => out_b_enc d _ hd) ((ev_impl_isAddress fu a_0).trans hy)
theorem good_impl_isAddress (fu : Nat) : ∀ xs o, S_impl_isAddress fu xs = some o → ∀ y, o.x = some y → Good E Try.prog 92 xs (o.g y) := by
  intro xs o h y hy
  unfold S_impl_isAddress at h
  split at h
  · rename_i a0_0
    cases h
    exact goodv_impl_isAddress fu a0_0 y hy
  · cases h

/-! impl.isPort -/
def F_impl_isPort (fu : Nat) (n_0 : Int) : Option (Bool) :=
  ((F_impl_in fu n_0 0 65535).bind fun y181 => (some y181))
def pc_impl_isPort (fu : Nat) : Pc RT den := fun f xs => match f with | 40 => S_impl_in fu xs | _ => none
def msk_impl_isPort (b : Nat) : List Nat := []
def lp_impl_isPort (fu : Nat) : Lp RT den (Bool) := fun b s k => none
theorem ev_impl_isPort (fu : Nat) (n_0 : Int) : evFun E (pc_impl_isPort fu) msk_impl_isPort (lp_impl_isPort fu) out_b 101 [(.int .i64 n_0)] = F_impl_isPort fu n_0 := by kernel_rfl
noncomputable def body_impl_isPort : Code := Try.f101.body.getD .skip
theorem lpok_impl_isPort (fu : Nat) : LpOk E (pc_impl_isPort fu) msk_impl_isPort (lp_impl_isPort fu) (loops 0 body_impl_isPort) := by
  have h : loops 0 body_impl_isPort = [] := by kernel_rfl
  rw [h]; intro p hp; cases hp
def S_impl_isPort (fu : Nat) (xs : List (D RT den)) : Option (Out RT den) := match xs with | [.int .i64 a0_0] => some ⟨Bool, F_impl_isPort fu a0_0, enc_b, fun _ => true⟩ | _ => none
theorem hpc_impl_isPort (fu : Nat) : ∀ f xs o, pc_impl_isPort fu f xs = some o → ∀ y, o.x = some y → Good E Try.prog f xs (o.g y) := by
  intro f xs o h
  unfold pc_impl_isPort at h
  split at h
  · exact good_impl_in fu xs o h
  · cases h
theorem goodv_impl_isPort (fu : Nat) (n_0 : Int) (y : Bool) (hy : F_impl_isPort fu n_0 = some y) : Good E Try.prog 101 [(.int .i64 n_0)] (enc_b y) :=
  fun_good E_ok (pc_good (hpc_impl_isPort fu)) (fn := Try.f101) (c := body_impl_isPort) (out := out_b) (y := y) (by kernel_rfl) (by kernel_rfl) (by kernel_rfl) (lpok_impl_isPort fu) (fun d hd => out_b_enc d _ hd) ((ev_impl_isPort fu n_0).trans hy)
theorem good_impl_isPort (fu : Nat) : ∀ xs o, S_impl_isPort fu xs = some o → ∀ y, o.x = some y → Good E Try.prog 101 xs (o.g y) := by
  intro xs o h y hy
  unfold S_impl_isPort at h
  split at h
  · rename_i a0_0
    cases h
    exact goodv_impl_isPort fu a0_0 y hy
  · cases h

/-! impl.isNumber -/
def F_impl_isNumber (fu : Nat) (x_0 : S_impl_Cmd) : Option (Bool) :=
  (bif (x_0.Kind == 1) then ((F_impl_in fu x_0.Number 0 9).bind fun y176 => (some y176)) else (bif (x_0.Kind == 2) then ((F_impl_in fu x_0.Number 0 9).bind fun y177 => (some y177)) else
    (bif (x_0.Kind == 3) then ((F_impl_in fu x_0.Number 1 3).bind fun y178 => (some y178)) else (bif (x_0.Kind == 9) then ((F_impl_in fu x_0.Number 0 1).bind fun y179 => (some y179)) else
    ((F_impl_isPort fu x_0.Number).bind fun y180 => (some y180))))))
def pc_impl_isNumber (fu : Nat) : Pc RT den := fun f xs => match f with | 40 => S_impl_in fu xs | 101 => S_impl_isPort fu xs | _ => none
def msk_impl_isNumber (b : Nat) : List Nat := []
def lp_impl_isNumber (fu : Nat) : Lp RT den (Bool) := fun b s k => none
theorem ev_impl_isNumber (fu : Nat) (x_0 : S_impl_Cmd) : evFun E (pc_impl_isNumber fu) msk_impl_isNumber (lp_impl_isNumber fu) out_b 93 [(.agg [(.int .i64 x_0.Kind), (.int .i64 x_0.Expect), (.int .i64 x_0.Name), (.int .i64 x_0.Addr), (.int .i64 x_0.Number), (.int .i64 x_0.Proto)])] = F_impl_isNumber fu x_0 := by kernel_rfl
noncomputable def body_impl_isNumber : Code := Try.f93.body.getD .skip
theorem lpok_impl_isNumber (fu : Nat) : LpOk E (pc_impl_isNumber fu) msk_impl_isNumber (lp_impl_isNumber fu) (loops 0 body_impl_isNumber) := by
  have h : loops 0 body_impl_isNumber = [] := by kernel_rfl
  rw [h]; intro p hp; cases hp
def S_impl_isNumber (fu : Nat) (xs : List (D RT den)) : Option (Out RT den) := match xs with | [.agg [.int .i64 a0_1, .int .i64 a0_2, .int .i64 a0_3, .int .i64 a0_4, .int .i64 a0_5, .int .i64 a0_6]] => some ⟨Bool, F_impl_isNumber fu (⟨a0_1, a0_2, a0_3, a0_4, a0_5, a0_6⟩ : S_impl_Cmd), enc_b, fun _ => true⟩ | _ => none
theorem hpc_impl_isNumber (fu : Nat) : ∀ f xs o, pc_impl_isNumber fu f xs = some o → ∀ y, o.x = some y → Good E Try.prog f xs (o.g y) := by
  intro f xs o h
  unfold pc_impl_isNumber at h
  split at h
  · exact good_impl_in fu xs o h
  · exact good_impl_isPort fu xs o h
  · cases h
theorem goodv_impl_isNumber (fu : Nat) (x_0 : S_impl_Cmd) (y : Bool) (hy : F_impl_isNumber fu x_0 = some y) : Good E Try.prog 93 [(.agg [(.int .i64 x_0.Kind), (.int .i64 x_0.Expect), (.int .i64 x_0.Name), (.int .i64 x_0.Addr), (.int .i64 x_0.Number), (.int .i64 x_0.Proto)])] (enc_b y) :=
  fun_good E_ok (pc_good (hpc_impl_isNumber fu)) (fn := Try.f93) (c := body_impl_isNumber) (out := out_b) (y := y) (by kernel_rfl) (by kernel_rfl) (by kernel_rfl) (lpok_impl_isNumber fu) (fun d hd => out_b_enc d _ hd) ((ev_impl_isNumber fu x_0).trans hy)
theorem good_impl_isNumber (fu : Nat) : ∀ xs o, S_impl_isNumber fu xs = some o → ∀ y, o.x = some y → Good E Try.prog 93 xs (o.g y) := by
  intro xs o h y hy
  unfold S_impl_isNumber at h
  split at h
  · rename_i a0_1 a0_2 a0_3 a0_4 a0_5 a0_6
    cases h
    exact goodv_impl_isNumber fu (⟨a0_1, a0_2, a0_3, a0_4, a0_5, a0_6⟩ : S_impl_Cmd) y hy
  · cases h

/-! impl.isProto -/
def F_impl_isProto (fu : Nat) (n_0 : Int) : Option (Bool) :=
  (((bif (n_0 == 6) then (some true) else (some (n_0 == 17))) : Option Bool).bind fun m182 => (some m182))
def pc_impl_isProto (fu : Nat) : Pc RT den := fun f xs => none
def msk_impl_isProto (b : Nat) : List Nat := match b with | 200001 => [2] | _ => []
def lp_impl_isProto (fu : Nat) : Lp RT den (Bool) := fun b s k => none
theorem ev_impl_isProto (fu : Nat) (n_0 : Int) : evFun E (pc_impl_isProto fu) msk_impl_isProto (lp_impl_isProto fu) out_b 94 [(.int .i64 n_0)] = F_impl_isProto fu n_0 := by kernel_rfl
noncomputable def body_impl_isProto : Code := Try.f94.body.getD .skip
theorem lpok_impl_isProto (fu : Nat) : LpOk E (pc_impl_isProto fu) msk_impl_isProto (lp_impl_isProto fu) (loops 0 body_impl_isProto) := by
  have h : loops 0 body_impl_isProto = [] := by kernel_rfl
  rw [h]; intro p hp; cases hp
def S_impl_isProto (fu : Nat) (xs : List (D RT den)) : Option (Out RT den) := match xs with | [.int .i64 a0_0] => some ⟨Bool, F_impl_isProto fu a0_0, enc_b, fun _ => true⟩ | _ => none
theorem hpc_impl_isProto (fu : Nat) : ∀ f xs o, pc_impl_isProto fu f xs = some o → ∀ y, o.x = some y → Good E Try.prog f xs (o.g y) := by
  intro f xs o h
  cases h
theorem goodv_impl_isProto (fu : Nat) (n_0 : Int) (y : Bool) (hy : F_impl_isProto fu n_0 = some y) : Good E Try.prog 94 [(.int .i64 n_0)] (enc_b y) :=
  fun_good E_ok (pc_good (hpc_impl_isProto fu)) (fn := Try.f94) (c := body_impl_isProto) (out := out_b) (y := y) (by kernel_rfl) (by kernel_rfl) (by kernel_rfl) (lpok_impl_isProto fu) (fun d hd => out_b_enc d _ hd) ((ev_impl_isProto fu n_0).trans hy)
theorem good_impl_isProto (fu : Nat) : ∀ xs o, S_impl_isProto fu xs = some o → ∀ y, o.x = some y → Good E Try.prog 94 xs (o.g y) := by
  intro xs o h y hy
  unfold S_impl_isProto at h
  split at h
  · rename_i a0_0
    cases h
    exact goodv_impl_isProto fu a0_0 y hy
  · cases h

/-! impl.CmdFault -/
def F_impl_CmdFault (fu : Nat) (x_0 : S_impl_Cmd) : Option (Int) :=
  ((F_impl_in fu x_0.Kind 1 9).bind fun y152 => (bif (!y152) then (some 1) else ((F_impl_needs fu x_0.Kind).bind fun y153 => ((((F_impl_in fu x_0.Expect (-1) 1000000).bind fun y154 =>
    (bif (!y154) then (some true) else (bif y153.1 then ((F_impl_isName fu x_0.Name).bind fun y155 => (bif (!y155) then (some true) else (bif y153.2.1 then ((F_impl_isAddress fu x_0.Addr).bind fun y156 =>
    (bif (!y156) then (some true) else (bif y153.2.2.1 then ((F_impl_isNumber fu x_0).bind fun y157 => (bif (!y157) then (some true) else (bif y153.2.2.2 then ((F_impl_isProto fu x_0.Proto).bind fun y158 =>
    (some (!y158))) else (some false)))) else (bif y153.2.2.2 then ((F_impl_isProto fu x_0.Proto).bind fun y159 => (some (!y159))) else (some false))))) else (bif y153.2.2.1 then
    ((F_impl_isNumber fu x_0).bind fun y160 => (bif (!y160) then (some true) else (bif y153.2.2.2 then ((F_impl_isProto fu x_0.Proto).bind fun y161 => (some (!y161))) else (some false)))) else
    (bif y153.2.2.2 then ((F_impl_isProto fu x_0.Proto).bind fun y162 => (some (!y162))) else (some false)))))) else (bif y153.2.1 then ((F_impl_isAddress fu x_0.Addr).bind fun y163 =>
    (bif (!y163) then (some true) else (bif y153.2.2.1 then ((F_impl_isNumber fu x_0).bind fun y164 => (bif (!y164) then (some true) else (bif y153.2.2.2 then ((F_impl_isProto fu x_0.Proto).bind fun y165 =>
    (some (!y165))) else (some false)))) else (bif y153.2.2.2 then ((F_impl_isProto fu x_0.Proto).bind fun y166 => (some (!y166))) else (some false))))) else (bif y153.2.2.1 then
    ((F_impl_isNumber fu x_0).bind fun y167 => (bif (!y167) then (some true) else (bif y153.2.2.2 then ((F_impl_isProto fu x_0.Proto).bind fun y168 => (some (!y168))) else (some false)))) else
    (bif y153.2.2.2 then ((F_impl_isProto fu x_0.Proto).bind fun y169 => (some (!y169))) else (some false))))))) : Option Bool).bind fun m170 => (bif m170 then (some 3) else (((bif (!y153.1) then
    (bif (x_0.Name != 0) then (some true) else (bif (!y153.2.1) then (bif (x_0.Addr != 0) then (some true) else (bif (!y153.2.2.1) then (bif (x_0.Number != 0) then (some true) else
    (bif (!y153.2.2.2) then (some (x_0.Proto != 0)) else (some false))) else (bif (!y153.2.2.2) then (some (x_0.Proto != 0)) else (some false)))) else (bif (!y153.2.2.1) then (bif (x_0.Number != 0) then
    (some true) else (bif (!y153.2.2.2) then (some (x_0.Proto != 0)) else (some false))) else (bif (!y153.2.2.2) then (some (x_0.Proto != 0)) else (some false))))) else (bif (!y153.2.1) then
    (bif (x_0.Addr != 0) then (some true) else (bif (!y153.2.2.1) then (bif (x_0.Number != 0) then (some true) else (bif (!y153.2.2.2) then (some (x_0.Proto != 0)) else (some false))) else
    (bif (!y153.2.2.2) then (some (x_0.Proto != 0)) else (some false)))) else (bif (!y153.2.2.1) then (bif (x_0.Number != 0) then (some true) else (bif (!y153.2.2.2) then (some (x_0.Proto != 0)) else
    (some false))) else (bif (!y153.2.2.2) then (some (x_0.Proto != 0)) else (some false))))) : Option Bool).bind fun m171 => (bif m171 then (some 1) else (some 0))))))))
def pc_impl_CmdFault (fu : Nat) : Pc RT den := fun f xs => match f with | 40 => S_impl_in fu xs | 90 => S_impl_needs fu xs | 91 => S_impl_isName fu xs | 92 => S_impl_isAddress fu xs | 93 => S_impl_isNumber fu xs | 94 => S_impl_isProto fu xs | _ => none
def msk_impl_CmdFault (b : Nat) : List Nat := match b with | 200004 => [19] | 200006 => [59] | _ => []
def lp_impl_CmdFault (fu : Nat) : Lp RT den (Int) := fun b s k => none
theorem ev_impl_CmdFault (fu : Nat) (x_0 : S_impl_Cmd) : evFun E (pc_impl_CmdFault fu) msk_impl_CmdFault (lp_impl_CmdFault fu) out_i64 82 [(.agg [(.int .i64 x_0.Kind), (.int .i64 x_0.Expect), (.int .i64 x_0.Name), (.int .i64 x_0.Addr), (.int .i64 x_0.Number), (.int .i64 x_0.Proto)])] = F_impl_CmdFault fu x_0 := by kernel_rfl
noncomputable def body_impl_CmdFault : Code := Try.f82.body.getD .skip
theorem lpok_impl_CmdFault (fu : Nat) : LpOk E (pc_impl_CmdFault fu) msk_impl_CmdFault (lp_impl_CmdFault fu) (loops 0 body_impl_CmdFault) := by
  have h : loops 0 body_impl_CmdFault = [] := by kernel_rfl
  rw [h]; intro p hp; cases hp
def S_impl_CmdFault (fu : Nat) (xs : List (D RT den)) : Option (Out RT den) := match xs with | [.agg [.int .i64 a0_1, .int .i64 a0_2, .int .i64 a0_3, .int .i64 a0_4, .int .i64 a0_5, .int .i64 a0_6]] => some ⟨Int, F_impl_CmdFault fu (⟨a0_1, a0_2, a0_3, a0_4, a0_5, a0_6⟩ : S_impl_Cmd), enc_i64, fun _ => true⟩ | _ => none
theorem hpc_impl_CmdFault (fu : Nat) : ∀ f xs o, pc_impl_CmdFault fu f xs = some o → ∀ y, o.x = some y → Good E Try.prog f xs (o.g y) := by
  intro f xs o h
  unfold pc_impl_CmdFault at h
  split at h
  · exact good_impl_in fu xs o h
  · exact good_impl_needs fu xs o h
  · exact good_impl_isName fu xs o h
  · exact good_impl_isAddress fu xs o h
  · exact good_impl_isNumber fu xs o h
  · exact good_impl_isProto fu xs o h
  · cases h
theorem goodv_impl_CmdFault (fu : Nat) (x_0 : S_impl_Cmd) (y : Int) (hy : F_impl_CmdFault fu x_0 = some y) : Good E Try.prog 82 [(.agg [(.int .i64 x_0.Kind), (.int .i64 x_0.Expect), (.int .i64 x_0.Name), (.int .i64 x_0.Addr), (.int .i64 x_0.Number), (.int .i64 x_0.Proto)])] (enc_i64 y) :=
  fun_good E_ok (pc_good (hpc_impl_CmdFault fu)) (fn := Try.f82) (c := body_impl_CmdFault) (out := out_i64) (y := y) (by kernel_rfl) (by kernel_rfl) (by kernel_rfl) (lpok_impl_CmdFault fu) (fun d hd => out_i64_enc d _ hd) ((ev_impl_CmdFault fu x_0).trans hy)
theorem good_impl_CmdFault (fu : Nat) : ∀ xs o, S_impl_CmdFault fu xs = some o → ∀ y, o.x = some y → Good E Try.prog 82 xs (o.g y) := by
  intro xs o h y hy
  unfold S_impl_CmdFault at h
  split at h
  · rename_i a0_1 a0_2 a0_3 a0_4 a0_5 a0_6
    cases h
    exact goodv_impl_CmdFault fu (⟨a0_1, a0_2, a0_3, a0_4, a0_5, a0_6⟩ : S_impl_Cmd) y hy
  · cases h

/-! impl.EntryFault -/
def F_impl_EntryFault (fu : Nat) (x_0 : S_impl_Entry) : Option (Int) :=
  ((((F_impl_in fu x_0.Term 1 100000).bind fun y147 => (bif (!y147) then (some true) else ((F_impl_in fu x_0.Client 0 999).bind fun y148 => (bif (!y148) then (some true) else
    ((F_impl_in fu x_0.Seq 0 1000000).bind fun y149 => (some (!y149))))))) : Option Bool).bind fun m150 => (bif m150 then (some 3) else (bif (!((x_0.Client == 0) == (x_0.Seq == 0))) then
    (some 1) else (bif (x_0.Client != 0) then ((F_impl_CmdFault fu x_0.Cmd).bind fun y151 => (some y151)) else (bif (!((x_0.Cmd.Kind == 0) && ((x_0.Cmd.Expect == 0) &&
    ((x_0.Cmd.Name == 0) && ((x_0.Cmd.Addr == 0) && ((x_0.Cmd.Number == 0) && ((x_0.Cmd.Proto == 0) && true))))))) then (some 1) else (some 0))))))
def pc_impl_EntryFault (fu : Nat) : Pc RT den := fun f xs => match f with | 40 => S_impl_in fu xs | 82 => S_impl_CmdFault fu xs | _ => none
def msk_impl_EntryFault (b : Nat) : List Nat := match b with | 200001 => [3] | _ => []
def lp_impl_EntryFault (fu : Nat) : Lp RT den (Int) := fun b s k => none
theorem ev_impl_EntryFault (fu : Nat) (x_0 : S_impl_Entry) : evFun E (pc_impl_EntryFault fu) msk_impl_EntryFault (lp_impl_EntryFault fu) out_i64 55 [(.agg [(.int .i64 x_0.Term), (.int .i64 x_0.Client), (.int .i64 x_0.Seq), (.int .i64 x_0.Cmd.Kind), (.int .i64 x_0.Cmd.Expect), (.int .i64 x_0.Cmd.Name), (.int .i64 x_0.Cmd.Addr), (.int .i64 x_0.Cmd.Number), (.int .i64 x_0.Cmd.Proto)])] = F_impl_EntryFault fu x_0 := by kernel_rfl
noncomputable def body_impl_EntryFault : Code := Try.f55.body.getD .skip
theorem lpok_impl_EntryFault (fu : Nat) : LpOk E (pc_impl_EntryFault fu) msk_impl_EntryFault (lp_impl_EntryFault fu) (loops 0 body_impl_EntryFault) := by
  have h : loops 0 body_impl_EntryFault = [] := by kernel_rfl
  rw [h]; intro p hp; cases hp
def S_impl_EntryFault (fu : Nat) (xs : List (D RT den)) : Option (Out RT den) := match xs with | [.agg [.int .i64 a0_1, .int .i64 a0_2, .int .i64 a0_3, .int .i64 a0_5, .int .i64 a0_6, .int .i64 a0_7, .int .i64 a0_8, .int .i64 a0_9, .int .i64 a0_10]] => some ⟨Int, F_impl_EntryFault fu (⟨a0_1, a0_2, a0_3, (⟨a0_5, a0_6, a0_7, a0_8, a0_9, a0_10⟩ : S_impl_Cmd)⟩ : S_impl_Entry), enc_i64, fun _ => true⟩ | _ => none
theorem hpc_impl_EntryFault (fu : Nat) : ∀ f xs o, pc_impl_EntryFault fu f xs = some o → ∀ y, o.x = some y → Good E Try.prog f xs (o.g y) := by
  intro f xs o h
  unfold pc_impl_EntryFault at h
  split at h
  · exact good_impl_in fu xs o h
  · exact good_impl_CmdFault fu xs o h
  · cases h
theorem goodv_impl_EntryFault (fu : Nat) (x_0 : S_impl_Entry) (y : Int) (hy : F_impl_EntryFault fu x_0 = some y) : Good E Try.prog 55 [(.agg [(.int .i64 x_0.Term), (.int .i64 x_0.Client), (.int .i64 x_0.Seq), (.int .i64 x_0.Cmd.Kind), (.int .i64 x_0.Cmd.Expect), (.int .i64 x_0.Cmd.Name), (.int .i64 x_0.Cmd.Addr), (.int .i64 x_0.Cmd.Number), (.int .i64 x_0.Cmd.Proto)])] (enc_i64 y) :=
  fun_good E_ok (pc_good (hpc_impl_EntryFault fu)) (fn := Try.f55) (c := body_impl_EntryFault) (out := out_i64) (y := y) (by kernel_rfl) (by kernel_rfl) (by kernel_rfl) (lpok_impl_EntryFault fu) (fun d hd => out_i64_enc d _ hd) ((ev_impl_EntryFault fu x_0).trans hy)
theorem good_impl_EntryFault (fu : Nat) : ∀ xs o, S_impl_EntryFault fu xs = some o → ∀ y, o.x = some y → Good E Try.prog 55 xs (o.g y) := by
  intro xs o h y hy
  unfold S_impl_EntryFault at h
  split at h
  · rename_i a0_1 a0_2 a0_3 a0_5 a0_6 a0_7 a0_8 a0_9 a0_10
    cases h
    exact goodv_impl_EntryFault fu (⟨a0_1, a0_2, a0_3, (⟨a0_5, a0_6, a0_7, a0_8, a0_9, a0_10⟩ : S_impl_Cmd)⟩ : S_impl_Entry) y hy
  · cases h

/-! impl.LogFault -/
def F_impl_LogFault_B0 {ρ : Type} (fu : Nat) (log0_0 : (Sl S_impl_Entry)) (t9_1 : (Sl S_impl_Entry)) (t10_2 : Int) (k0 : Int → Int → Int → Int → Int → Int → Int → Int → Int → Int → Option ρ) (k1 : Int → Int → Int → Int → Int → Int → Int → Int → Int → Option ρ) (k2 : Option ρ) (t11_3 : Int) (go : Int → Option ρ) : Option ρ :=
  (bif (decide (t11_3 < t10_2)) then ((bif (decide (0 ≤ t11_3) && decide ((Int.toNat t11_3) < t9_1.n)) then some () else none : Option Unit).bind fun _ => ((F_impl_EntryFault fu (t9_1.f (Int.toNat t11_3))).bind fun y126 =>
    (bif (y126 != 0) then (k0 y126 (t9_1.f (Int.toNat t11_3)).Term (t9_1.f (Int.toNat t11_3)).Client (t9_1.f (Int.toNat t11_3)).Seq (t9_1.f (Int.toNat t11_3)).Cmd.Kind (t9_1.f (Int.toNat t11_3)).Cmd.Expect (t9_1.f (Int.toNat t11_3)).Cmd.Name (t9_1.f (Int.toNat t11_3)).Cmd.Addr (t9_1.f (Int.toNat t11_3)).Cmd.Number (t9_1.f (Int.toNat t11_3)).Cmd.Proto) else
    (((bif (decide (t11_3 > 0)) then ((bif (decide (0 ≤ (IntKind.wrap .i64 (t11_3 - 1))) && decide ((Int.toNat (IntKind.wrap .i64 (t11_3 - 1))) < log0_0.n)) then some () else none : Option Unit).bind fun _ =>
    (some (decide ((t9_1.f (Int.toNat t11_3)).Term < (log0_0.f (Int.toNat (IntKind.wrap .i64 (t11_3 - 1)))).Term)))) else (some false)) : Option Bool).bind fun m127 => (bif m127 then
    (k1 (t9_1.f (Int.toNat t11_3)).Term (t9_1.f (Int.toNat t11_3)).Client (t9_1.f (Int.toNat t11_3)).Seq (t9_1.f (Int.toNat t11_3)).Cmd.Kind (t9_1.f (Int.toNat t11_3)).Cmd.Expect (t9_1.f (Int.toNat t11_3)).Cmd.Name (t9_1.f (Int.toNat t11_3)).Cmd.Addr (t9_1.f (Int.toNat t11_3)).Cmd.Number (t9_1.f (Int.toNat t11_3)).Cmd.Proto) else
    (go (IntKind.wrap .i64 (t11_3 + 1)))))))) else k2)
def F_impl_LogFault (fu : Nat) (log_0 : (Sl S_impl_Entry)) : Option (Int) :=
  (bif (decide (((log_0.n : Nat) : Int) > 40)) then (some 2) else (L (fun w0 go0 => F_impl_LogFault_B0 fu log_0 log_0 ((log_0.n : Nat) : Int) (fun z128 z129 z130 z131 z132 z133 z134 z135 z136 z137 =>
    (some z128)) (fun z138 z139 z140 z141 z142 z143 z144 z145 z146 => (some 1)) (some 0) w0 go0) fu (0 : Int)))
def pc_impl_LogFault (fu : Nat) : Pc RT den := fun f xs => match f with | 55 => S_impl_EntryFault fu xs | _ => none
def msk_impl_LogFault (b : Nat) : List Nat := match b with | 0 => [1, 2, 3, 4, 5, 6, 7, 8, 12, 13, 14, 15, 16, 17, 18, 19, 20, 21, 22, 23, 24, 25, 26, 27, 28, 29, 30, 31, 32, 33, 34] | 100000 => [0, 1, 3, 4, 5, 6, 7, 8, 9, 10, 11, 12, 13, 14, 15, 16, 17, 18, 19, 20, 21, 22, 23, 24, 25, 26, 27, 28, 29, 30, 31, 32, 33, 34] | 200009 => [33] | _ => []
def ps_impl_LogFault_0 : List (Pat RT) := [.flat (.rs .impl_Entry), .flat .dead, .flat .dead, .flat .dead, .flat .dead, .flat .dead, .flat .dead, .flat .dead, .flat .dead, .flat (.rs .impl_Entry), .flat (.int .i64), .flat (.int .i64), .flat .dead, .flat .dead, .flat .dead, .flat .dead, .flat .dead, .flat .dead, .flat .dead, .flat .dead, .flat .dead, .flat .dead, .flat .dead, .flat .dead, .flat .dead, .flat .dead, .flat .dead, .flat .dead, .flat .dead, .flat .dead, .flat .dead, .flat .dead, .flat .dead, .flat .dead, .flat .dead]
def os_impl_LogFault_0 : List (OP RT) := []
def conv_impl_LogFault_0 (r : Raw den ps_impl_LogFault_0 os_impl_LogFault_0) : ((Sl S_impl_Entry) × (Sl S_impl_Entry) × Int) × (Int) := ((r.1.1, r.1.2.2.2.2.2.2.2.2.2.1, r.1.2.2.2.2.2.2.2.2.2.2.1), r.1.2.2.2.2.2.2.2.2.2.2.2.1)
def back_impl_LogFault_0 (c : (Sl S_impl_Entry) × (Sl S_impl_Entry) × Int) (w : Int) : St RT den := ⟨[(.rs c.1.z .impl_Entry c.1.n c.1.f), .dead, .dead, .dead, .dead, .dead, .dead, .dead, .dead, (.rs c.2.1.z .impl_Entry c.2.1.n c.2.1.f), (.int .i64 c.2.2), (.int .i64 w), .dead, .dead, .dead, .dead, .dead, .dead, .dead, .dead, .dead, .dead, .dead, .dead, .dead, .dead, .dead, .dead, .dead, .dead, .dead, .dead, .dead, .dead, .dead], []⟩
def Bk_impl_LogFault_0 {ρ : Type} (fu : Nat) (c : (Sl S_impl_Entry) × (Sl S_impl_Entry) × Int) (k : Ex → St RT den → Option ρ) (w : Int) (go : (Int) → Option ρ) : Option ρ := F_impl_LogFault_B0 fu c.1 c.2.1 c.2.2 (fun a0 a1 a2 a3 a4 a5 a6 a7 a8 a9 => k .ret ⟨[.dead, .dead, (.int .i64 a0), .dead, .dead, .dead, .dead, .dead, .dead, .dead, .dead, .dead, .dead, .dead, .dead, .dead, .dead, .dead, .dead, .dead, .dead, .dead, .dead, .dead, .dead, .dead, .dead, .dead, .dead, .dead, .dead, .dead, .dead, .dead, .dead], [(.box [(.int .i64 a1), (.int .i64 a2), (.int .i64 a3), (.int .i64 a4), (.int .i64 a5), (.int .i64 a6), (.int .i64 a7), (.int .i64 a8), (.int .i64 a9)])]⟩) (fun a0 a1 a2 a3 a4 a5 a6 a7 a8 => k .ret ⟨[.dead, .dead, (.int .i64 1), .dead, .dead, .dead, .dead, .dead, .dead, .dead, .dead, .dead, .dead, .dead, .dead, .dead, .dead, .dead, .dead, .dead, .dead, .dead, .dead, .dead, .dead, .dead, .dead, .dead, .dead, .dead, .dead, .dead, .dead, .dead, .dead], [(.box [(.int .i64 a0), (.int .i64 a1), (.int .i64 a2), (.int .i64 a3), (.int .i64 a4), (.int .i64 a5), (.int .i64 a6), (.int .i64 a7), (.int .i64 a8)])]⟩) (k (.exit 0) ⟨[.dead, .dead, .dead, .dead, .dead, .dead, .dead, .dead, .dead, .dead, .dead, .dead, .dead, .dead, .dead, .dead, .dead, .dead, .dead, .dead, .dead, .dead, .dead, .dead, .dead, .dead, .dead, .dead, .dead, .dead, .dead, .dead, .dead, .dead, .dead], []⟩) w go
def lp_impl_LogFault (fu : Nat) : Lp RT den (Int) := fun b s k => match b with | 0 => handle ps_impl_LogFault_0 os_impl_LogFault_0 conv_impl_LogFault_0 (Bk_impl_LogFault_0 fu) fu s k | _ => none
theorem ev_impl_LogFault (fu : Nat) (log_0 : (Sl S_impl_Entry)) : evFun E (pc_impl_LogFault fu) msk_impl_LogFault (lp_impl_LogFault fu) out_i64 42 [(.rs log_0.z .impl_Entry log_0.n log_0.f)] = F_impl_LogFault fu log_0 := by kernel_rfl
noncomputable def body_impl_LogFault : Code := Try.f42.body.getD .skip
noncomputable def lc_impl_LogFault_0 : Code := ((loops 0 body_impl_LogFault).getD 0 (0, .skip)).2
theorem round_impl_LogFault_0 (fu : Nat) (it : St RT den → Option (Int)) (k : Ex → St RT den → Option (Int)) c w : evCode E (pc_impl_LogFault fu) msk_impl_LogFault (lp_impl_LogFault fu) 0 lc_impl_LogFault_0 (back_impl_LogFault_0 c w) (after (msk_impl_LogFault 0) (msk_impl_LogFault 100000) 0 it k) = Bk_impl_LogFault_0 fu c k w (fun w => it (back_impl_LogFault_0 c w)) := by kernel_rfl
theorem lpok_impl_LogFault_0 (fu : Nat) : ∀ s k r, lp_impl_LogFault fu 0 s k = some r → ∃ fuel, iter (msk_impl_LogFault 0) (msk_impl_LogFault 100000) s.objs.length (evCode E (pc_impl_LogFault fu) msk_impl_LogFault (lp_impl_LogFault fu) 0 lc_impl_LogFault_0) fuel s k = some r :=
  handle_ok (ps := ps_impl_LogFault_0) (os := os_impl_LogFault_0) (conv := conv_impl_LogFault_0) (B := Bk_impl_LogFault_0 fu) (fu := fu) back_impl_LogFault_0 (fun raw => by kernel_rfl) 0 (fun c w => by kernel_rfl) (round_impl_LogFault_0 fu)
theorem lpok_impl_LogFault (fu : Nat) : LpOk E (pc_impl_LogFault fu) msk_impl_LogFault (lp_impl_LogFault fu) (loops 0 body_impl_LogFault) := loop_all 1 (by kernel_rfl) fun i hi => match i, hi with
  | 0, _ => by
    have h : (loops 0 body_impl_LogFault).getD 0 (0, .skip) = (0, lc_impl_LogFault_0) := by kernel_rfl
    rw [h]; exact lpok_impl_LogFault_0 fu
  | i + 1, hi => absurd hi (by omega)
def S_impl_LogFault (fu : Nat) (xs : List (D RT den)) : Option (Out RT den) := match xs with | [.rs za0_0 .impl_Entry na0_0 fa0_0] => some ⟨Int, F_impl_LogFault fu (⟨za0_0, na0_0, fa0_0⟩ : (Sl S_impl_Entry)), enc_i64, fun _ => true⟩ | _ => none
theorem hpc_impl_LogFault (fu : Nat) : ∀ f xs o, pc_impl_LogFault fu f xs = some o → ∀ y, o.x = some y → Good E Try.prog f xs (o.g y) := by
  intro f xs o h
  unfold pc_impl_LogFault at h
  split at h
  · exact good_impl_EntryFault fu xs o h
  · cases h
theorem goodv_impl_LogFault (fu : Nat) (log_0 : (Sl S_impl_Entry)) (y : Int) (hy : F_impl_LogFault fu log_0 = some y) : Good E Try.prog 42 [(.rs log_0.z .impl_Entry log_0.n log_0.f)] (enc_i64 y) :=
  fun_good E_ok (pc_good (hpc_impl_LogFault fu)) (fn := Try.f42) (c := body_impl_LogFault) (out := out_i64) (y := y) (by kernel_rfl) (by kernel_rfl) (by kernel_rfl) (lpok_impl_LogFault fu) (fun d hd => out_i64_enc d _ hd) ((ev_impl_LogFault fu log_0).trans hy)
theorem good_impl_LogFault (fu : Nat) : ∀ xs o, S_impl_LogFault fu xs = some o → ∀ y, o.x = some y → Good E Try.prog 42 xs (o.g y) := by
  intro xs o h y hy
  unfold S_impl_LogFault at h
  split at h
  · rename_i za0_0 na0_0 fa0_0
    cases h
    exact goodv_impl_LogFault fu (⟨za0_0, na0_0, fa0_0⟩ : (Sl S_impl_Entry)) y hy
  · cases h

/-! impl.size[impl.Entry] -/
def F_impl_size_impl_Entry (fu : Nat) (list_0 : (Sl S_impl_Entry)) : Option (Int) :=
  (some ((list_0.n : Nat) : Int))
def pc_impl_size_impl_Entry (fu : Nat) : Pc RT den := fun f xs => none
def msk_impl_size_impl_Entry (b : Nat) : List Nat := []
def lp_impl_size_impl_Entry (fu : Nat) : Lp RT den (Int) := fun b s k => none
theorem ev_impl_size_impl_Entry (fu : Nat) (list_0 : (Sl S_impl_Entry)) : evFun E (pc_impl_size_impl_Entry fu) msk_impl_size_impl_Entry (lp_impl_size_impl_Entry fu) out_i64 71 [(.rs list_0.z .impl_Entry list_0.n list_0.f)] = F_impl_size_impl_Entry fu list_0 := by kernel_rfl
noncomputable def body_impl_size_impl_Entry : Code := Try.f71.body.getD .skip
theorem lpok_impl_size_impl_Entry (fu : Nat) : LpOk E (pc_impl_size_impl_Entry fu) msk_impl_size_impl_Entry (lp_impl_size_impl_Entry fu) (loops 0 body_impl_size_impl_Entry) := by
  have h : loops 0 body_impl_size_impl_Entry = [] := by kernel_rfl
  rw [h]; intro p hp; cases hp
def S_impl_size_impl_Entry (fu : Nat) (xs : List (D RT den)) : Option (Out RT den) := match xs with | [.rs za0_0 .impl_Entry na0_0 fa0_0] => some ⟨Int, F_impl_size_impl_Entry fu (⟨za0_0, na0_0, fa0_0⟩ : (Sl S_impl_Entry)), enc_i64, fun _ => true⟩ | _ => none
theorem hpc_impl_size_impl_Entry (fu : Nat) : ∀ f xs o, pc_impl_size_impl_Entry fu f xs = some o → ∀ y, o.x = some y → Good E Try.prog f xs (o.g y) := by
  intro f xs o h
  cases h
theorem goodv_impl_size_impl_Entry (fu : Nat) (list_0 : (Sl S_impl_Entry)) (y : Int) (hy : F_impl_size_impl_Entry fu list_0 = some y) : Good E Try.prog 71 [(.rs list_0.z .impl_Entry list_0.n list_0.f)] (enc_i64 y) :=
  fun_good E_ok (pc_good (hpc_impl_size_impl_Entry fu)) (fn := Try.f71) (c := body_impl_size_impl_Entry) (out := out_i64) (y := y) (by kernel_rfl) (by kernel_rfl) (by kernel_rfl) (lpok_impl_size_impl_Entry fu) (fun d hd => out_i64_enc d _ hd) ((ev_impl_size_impl_Entry fu list_0).trans hy)
theorem good_impl_size_impl_Entry (fu : Nat) : ∀ xs o, S_impl_size_impl_Entry fu xs = some o → ∀ y, o.x = some y → Good E Try.prog 71 xs (o.g y) := by
  intro xs o h y hy
  unfold S_impl_size_impl_Entry at h
  split at h
  · rename_i za0_0 na0_0 fa0_0
    cases h
    exact goodv_impl_size_impl_Entry fu (⟨za0_0, na0_0, fa0_0⟩ : (Sl S_impl_Entry)) y hy
  · cases h

/-! impl.last -/
def F_impl_last (fu : Nat) (log_0 : (Sl S_impl_Entry)) : Option (S_impl_Entry) :=
  (bif (((log_0.n : Nat) : Int) == 0) then (some (⟨0, 0, 0, (⟨0, 0, 0, 0, 0, 0⟩ : S_impl_Cmd)⟩ : S_impl_Entry)) else ((bif (decide (0 ≤ (IntKind.wrap .i64 (((log_0.n : Nat) : Int) - 1))) &&
    decide ((Int.toNat (IntKind.wrap .i64 (((log_0.n : Nat) : Int) - 1))) < log_0.n)) then some () else none : Option Unit).bind fun _ => (some (log_0.f (Int.toNat (IntKind.wrap .i64 (((log_0.n : Nat) : Int) - 1)))))))
def pc_impl_last (fu : Nat) : Pc RT den := fun f xs => none
def msk_impl_last (b : Nat) : List Nat := []
def lp_impl_last (fu : Nat) : Lp RT den (S_impl_Entry) := fun b s k => none
theorem ev_impl_last (fu : Nat) (log_0 : (Sl S_impl_Entry)) : evFun E (pc_impl_last fu) msk_impl_last (lp_impl_last fu) out_impl_Entry 43 [(.rs log_0.z .impl_Entry log_0.n log_0.f)] = F_impl_last fu log_0 := by kernel_rfl
noncomputable def body_impl_last : Code := Try.f43.body.getD .skip
theorem lpok_impl_last (fu : Nat) : LpOk E (pc_impl_last fu) msk_impl_last (lp_impl_last fu) (loops 0 body_impl_last) := by
  have h : loops 0 body_impl_last = [] := by kernel_rfl
  rw [h]; intro p hp; cases hp
def S_impl_last (fu : Nat) (xs : List (D RT den)) : Option (Out RT den) := match xs with | [.rs za0_0 .impl_Entry na0_0 fa0_0] => some ⟨S_impl_Entry, F_impl_last fu (⟨za0_0, na0_0, fa0_0⟩ : (Sl S_impl_Entry)), enc_impl_Entry, fun _ => true⟩ | _ => none
theorem hpc_impl_last (fu : Nat) : ∀ f xs o, pc_impl_last fu f xs = some o → ∀ y, o.x = some y → Good E Try.prog f xs (o.g y) := by
  intro f xs o h
  cases h
theorem goodv_impl_last (fu : Nat) (log_0 : (Sl S_impl_Entry)) (y : S_impl_Entry) (hy : F_impl_last fu log_0 = some y) : Good E Try.prog 43 [(.rs log_0.z .impl_Entry log_0.n log_0.f)] (enc_impl_Entry y) :=
  fun_good E_ok (pc_good (hpc_impl_last fu)) (fn := Try.f43) (c := body_impl_last) (out := out_impl_Entry) (y := y) (by kernel_rfl) (by kernel_rfl) (by kernel_rfl) (lpok_impl_last fu) (fun d hd => out_impl_Entry_enc d _ hd) ((ev_impl_last fu log_0).trans hy)
theorem good_impl_last (fu : Nat) : ∀ xs o, S_impl_last fu xs = some o → ∀ y, o.x = some y → Good E Try.prog 43 xs (o.g y) := by
  intro xs o h y hy
  unfold S_impl_last at h
  split at h
  · rename_i za0_0 na0_0 fa0_0
    cases h
    exact goodv_impl_last fu (⟨za0_0, na0_0, fa0_0⟩ : (Sl S_impl_Entry)) y hy
  · cases h

/-! impl.size[int64] -/
def F_impl_size_int64 (fu : Nat) (list_0 : (Sl Int)) : Option (Int) :=
  (some ((list_0.n : Nat) : Int))
def pc_impl_size_int64 (fu : Nat) : Pc RT den := fun f xs => none
def msk_impl_size_int64 (b : Nat) : List Nat := []
def lp_impl_size_int64 (fu : Nat) : Lp RT den (Int) := fun b s k => none
theorem ev_impl_size_int64 (fu : Nat) (list_0 : (Sl Int)) : evFun E (pc_impl_size_int64 fu) msk_impl_size_int64 (lp_impl_size_int64 fu) out_i64 72 [(.rs list_0.z .i64 list_0.n list_0.f)] = F_impl_size_int64 fu list_0 := by kernel_rfl
noncomputable def body_impl_size_int64 : Code := Try.f72.body.getD .skip
theorem lpok_impl_size_int64 (fu : Nat) : LpOk E (pc_impl_size_int64 fu) msk_impl_size_int64 (lp_impl_size_int64 fu) (loops 0 body_impl_size_int64) := by
  have h : loops 0 body_impl_size_int64 = [] := by kernel_rfl
  rw [h]; intro p hp; cases hp
def S_impl_size_int64 (fu : Nat) (xs : List (D RT den)) : Option (Out RT den) := match xs with | [.rs za0_0 .i64 na0_0 fa0_0] => some ⟨Int, F_impl_size_int64 fu (⟨za0_0, na0_0, fa0_0⟩ : (Sl Int)), enc_i64, fun _ => true⟩ | _ => none
theorem hpc_impl_size_int64 (fu : Nat) : ∀ f xs o, pc_impl_size_int64 fu f xs = some o → ∀ y, o.x = some y → Good E Try.prog f xs (o.g y) := by
  intro f xs o h
  cases h
theorem goodv_impl_size_int64 (fu : Nat) (list_0 : (Sl Int)) (y : Int) (hy : F_impl_size_int64 fu list_0 = some y) : Good E Try.prog 72 [(.rs list_0.z .i64 list_0.n list_0.f)] (enc_i64 y) :=
  fun_good E_ok (pc_good (hpc_impl_size_int64 fu)) (fn := Try.f72) (c := body_impl_size_int64) (out := out_i64) (y := y) (by kernel_rfl) (by kernel_rfl) (by kernel_rfl) (lpok_impl_size_int64 fu) (fun d hd => out_i64_enc d _ hd) ((ev_impl_size_int64 fu list_0).trans hy)
theorem good_impl_size_int64 (fu : Nat) : ∀ xs o, S_impl_size_int64 fu xs = some o → ∀ y, o.x = some y → Good E Try.prog 72 xs (o.g y) := by
  intro xs o h y hy
  unfold S_impl_size_int64 at h
  split at h
  · rename_i za0_0 na0_0 fa0_0
    cases h
    exact goodv_impl_size_int64 fu (⟨za0_0, na0_0, fa0_0⟩ : (Sl Int)) y hy
  · cases h

/-! impl.NodeFault'1 -/
def F_impl_NodeFault_c1 (fu : Nat) (k_0 : Int) (x_1_1 : Int) : Option (Bool) :=
  ((F_impl_in fu k_0 1 (IntKind.wrap .i64 (x_1_1 + 1))).bind fun y186 => (some (!y186)))
def pc_impl_NodeFault_c1 (fu : Nat) : Pc RT den := fun f xs => match f with | 40 => S_impl_in fu xs | _ => none
def msk_impl_NodeFault_c1 (b : Nat) : List Nat := []
def lp_impl_NodeFault_c1 (fu : Nat) : Lp RT den (Bool) := fun b s k => none
theorem ev_impl_NodeFault_c1 (fu : Nat) (k_0 : Int) (x_1_1 : Int) : evFun E (pc_impl_NodeFault_c1 fu) msk_impl_NodeFault_c1 (lp_impl_NodeFault_c1 fu) out_b 74 [(.int .i64 k_0), (.rptr [(.int .i64 x_1_1)])] = F_impl_NodeFault_c1 fu k_0 x_1_1 := by kernel_rfl
noncomputable def body_impl_NodeFault_c1 : Code := Try.f74.body.getD .skip
theorem lpok_impl_NodeFault_c1 (fu : Nat) : LpOk E (pc_impl_NodeFault_c1 fu) msk_impl_NodeFault_c1 (lp_impl_NodeFault_c1 fu) (loops 0 body_impl_NodeFault_c1) := by
  have h : loops 0 body_impl_NodeFault_c1 = [] := by kernel_rfl
  rw [h]; intro p hp; cases hp
def S_impl_NodeFault_c1 (fu : Nat) (xs : List (D RT den)) : Option (Out RT den) := match xs with | [.int .i64 a0_0, .rptr [.int .i64 a1_0]] => some ⟨Bool, F_impl_NodeFault_c1 fu a0_0 a1_0, enc_b, fun _ => true⟩ | _ => none
theorem hpc_impl_NodeFault_c1 (fu : Nat) : ∀ f xs o, pc_impl_NodeFault_c1 fu f xs = some o → ∀ y, o.x = some y → Good E Try.prog f xs (o.g y) := by
  intro f xs o h
  unfold pc_impl_NodeFault_c1 at h
  split at h
  · exact good_impl_in fu xs o h
  · cases h
theorem goodv_impl_NodeFault_c1 (fu : Nat) (k_0 : Int) (x_1_1 : Int) (y : Bool) (hy : F_impl_NodeFault_c1 fu k_0 x_1_1 = some y) : Good E Try.prog 74 [(.int .i64 k_0), (.rptr [(.int .i64 x_1_1)])] (enc_b y) :=
  fun_good E_ok (pc_good (hpc_impl_NodeFault_c1 fu)) (fn := Try.f74) (c := body_impl_NodeFault_c1) (out := out_b) (y := y) (by kernel_rfl) (by kernel_rfl) (by kernel_rfl) (lpok_impl_NodeFault_c1 fu) (fun d hd => out_b_enc d _ hd) ((ev_impl_NodeFault_c1 fu k_0 x_1_1).trans hy)
theorem good_impl_NodeFault_c1 (fu : Nat) : ∀ xs o, S_impl_NodeFault_c1 fu xs = some o → ∀ y, o.x = some y → Good E Try.prog 74 xs (o.g y) := by
  intro xs o h y hy
  unfold S_impl_NodeFault_c1 at h
  split at h
  · rename_i a0_0 a1_0
    cases h
    exact goodv_impl_NodeFault_c1 fu a0_0 a1_0 y hy
  · cases h

/-! slices.IndexFunc[[]int64,int64] -/
def F_slices_IndexFunc_int64_int64_w_impl_NodeFault_c1_B0 {ρ : Type} (fu : Nat) (s0_0 : (Sl Int)) (f1_1 : Int) (t7_2 : Int) (k0 : Int → Option ρ) (k1 : Option ρ) (t8_3 : Int) (go : Int → Option ρ) : Option ρ :=
  (bif (decide (t8_3 < t7_2)) then ((bif (decide (0 ≤ t8_3) && decide ((Int.toNat t8_3) < s0_0.n)) then some () else none : Option Unit).bind fun _ => ((F_impl_NodeFault_c1 fu (s0_0.f (Int.toNat t8_3)) f1_1).bind fun y184 =>
    (bif y184 then (k0 t8_3) else (go (IntKind.wrap .i64 (t8_3 + 1)))))) else k1)
def F_slices_IndexFunc_int64_int64_w_impl_NodeFault_c1 (fu : Nat) (s_0 : (Sl Int)) (f_1_1 : Int) : Option (Int) :=
  (L (fun w0 go0 => F_slices_IndexFunc_int64_int64_w_impl_NodeFault_c1_B0 fu s_0 f_1_1 ((s_0.n : Nat) : Int) (fun z185 => (some z185)) (some (-1)) w0 go0) fu (0 : Int))
def pc_slices_IndexFunc_int64_int64_w_impl_NodeFault_c1 (fu : Nat) : Pc RT den := fun f xs => match f with | 74 => S_impl_NodeFault_c1 fu xs | _ => none
def msk_slices_IndexFunc_int64_int64_w_impl_NodeFault_c1 (b : Nat) : List Nat := match b with | 0 => [2, 3, 4, 5, 6, 9, 10, 11, 12, 13, 14, 15, 16, 17, 18] | 100000 => [0, 1, 2, 3, 5, 6, 7, 8, 9, 10, 11, 12, 13, 14, 15, 16, 17, 18] | _ => []
def ps_slices_IndexFunc_int64_int64_w_impl_NodeFault_c1_0 : List (Pat RT) := [.flat (.rs .i64), .fn 74 [.rptr [(.int .i64)]], .flat .dead, .flat .dead, .flat .dead, .flat .dead, .flat .dead, .flat (.int .i64), .flat (.int .i64), .flat .dead, .flat .dead, .flat .dead, .flat .dead, .flat .dead, .flat .dead, .flat .dead, .flat .dead, .flat .dead, .flat .dead]
def os_slices_IndexFunc_int64_int64_w_impl_NodeFault_c1_0 : List (OP RT) := []
def conv_slices_IndexFunc_int64_int64_w_impl_NodeFault_c1_0 (r : Raw den ps_slices_IndexFunc_int64_int64_w_impl_NodeFault_c1_0 os_slices_IndexFunc_int64_int64_w_impl_NodeFault_c1_0) : ((Sl Int) × Int × Int) × (Int) := ((r.1.1, r.1.2.1.1.1, r.1.2.2.2.2.2.2.2.1), r.1.2.2.2.2.2.2.2.2.1)
def back_slices_IndexFunc_int64_int64_w_impl_NodeFault_c1_0 (c : (Sl Int) × Int × Int) (w : Int) : St RT den := ⟨[(.rs c.1.z .i64 c.1.n c.1.f), (.fn 74 [(.rptr [(.int .i64 c.2.1)])]), .dead, .dead, .dead, .dead, .dead, (.int .i64 c.2.2), (.int .i64 w), .dead, .dead, .dead, .dead, .dead, .dead, .dead, .dead, .dead, .dead], []⟩
def Bk_slices_IndexFunc_int64_int64_w_impl_NodeFault_c1_0 {ρ : Type} (fu : Nat) (c : (Sl Int) × Int × Int) (k : Ex → St RT den → Option ρ) (w : Int) (go : (Int) → Option ρ) : Option ρ := F_slices_IndexFunc_int64_int64_w_impl_NodeFault_c1_B0 fu c.1 c.2.1 c.2.2 (fun a0 => k .ret ⟨[.dead, .dead, .dead, .dead, (.int .i64 a0), .dead, .dead, .dead, .dead, .dead, .dead, .dead, .dead, .dead, .dead, .dead, .dead, .dead, .dead], []⟩) (k (.exit 0) ⟨[.dead, .dead, .dead, .dead, .dead, .dead, .dead, .dead, .dead, .dead, .dead, .dead, .dead, .dead, .dead, .dead, .dead, .dead, .dead], []⟩) w go
def lp_slices_IndexFunc_int64_int64_w_impl_NodeFault_c1 (fu : Nat) : Lp RT den (Int) := fun b s k => match b with | 0 => handle ps_slices_IndexFunc_int64_int64_w_impl_NodeFault_c1_0 os_slices_IndexFunc_int64_int64_w_impl_NodeFault_c1_0 conv_slices_IndexFunc_int64_int64_w_impl_NodeFault_c1_0 (Bk_slices_IndexFunc_int64_int64_w_impl_NodeFault_c1_0 fu) fu s k | _ => none
theorem ev_slices_IndexFunc_int64_int64_w_impl_NodeFault_c1 (fu : Nat) (s_0 : (Sl Int)) (f_1_1 : Int) : evFun E (pc_slices_IndexFunc_int64_int64_w_impl_NodeFault_c1 fu) msk_slices_IndexFunc_int64_int64_w_impl_NodeFault_c1 (lp_slices_IndexFunc_int64_int64_w_impl_NodeFault_c1 fu) out_i64 87 [(.rs s_0.z .i64 s_0.n s_0.f), (.fn 74 [(.rptr [(.int .i64 f_1_1)])])] = F_slices_IndexFunc_int64_int64_w_impl_NodeFault_c1 fu s_0 f_1_1 := by kernel_rfl
noncomputable def body_slices_IndexFunc_int64_int64_w_impl_NodeFault_c1 : Code := Try.f87.body.getD .skip
noncomputable def lc_slices_IndexFunc_int64_int64_w_impl_NodeFault_c1_0 : Code := ((loops 0 body_slices_IndexFunc_int64_int64_w_impl_NodeFault_c1).getD 0 (0, .skip)).2
theorem round_slices_IndexFunc_int64_int64_w_impl_NodeFault_c1_0 (fu : Nat) (it : St RT den → Option (Int)) (k : Ex → St RT den → Option (Int)) c w : evCode E (pc_slices_IndexFunc_int64_int64_w_impl_NodeFault_c1 fu) msk_slices_IndexFunc_int64_int64_w_impl_NodeFault_c1 (lp_slices_IndexFunc_int64_int64_w_impl_NodeFault_c1 fu) 0 lc_slices_IndexFunc_int64_int64_w_impl_NodeFault_c1_0 (back_slices_IndexFunc_int64_int64_w_impl_NodeFault_c1_0 c w) (after (msk_slices_IndexFunc_int64_int64_w_impl_NodeFault_c1 0) (msk_slices_IndexFunc_int64_int64_w_impl_NodeFault_c1 100000) 0 it k) = Bk_slices_IndexFunc_int64_int64_w_impl_NodeFault_c1_0 fu c k w (fun w => it (back_slices_IndexFunc_int64_int64_w_impl_NodeFault_c1_0 c w)) := by kernel_rfl
theorem lpok_slices_IndexFunc_int64_int64_w_impl_NodeFault_c1_0 (fu : Nat) : ∀ s k r, lp_slices_IndexFunc_int64_int64_w_impl_NodeFault_c1 fu 0 s k = some r → ∃ fuel, iter (msk_slices_IndexFunc_int64_int64_w_impl_NodeFault_c1 0) (msk_slices_IndexFunc_int64_int64_w_impl_NodeFault_c1 100000) s.objs.length (evCode E (pc_slices_IndexFunc_int64_int64_w_impl_NodeFault_c1 fu) msk_slices_IndexFunc_int64_int64_w_impl_NodeFault_c1 (lp_slices_IndexFunc_int64_int64_w_impl_NodeFault_c1 fu) 0 lc_slices_IndexFunc_int64_int64_w_impl_NodeFault_c1_0) fuel s k = some r :=
  handle_ok (ps := ps_slices_IndexFunc_int64_int64_w_impl_NodeFault_c1_0) (os := os_slices_IndexFunc_int64_int64_w_impl_NodeFault_c1_0) (conv := conv_slices_IndexFunc_int64_int64_w_impl_NodeFault_c1_0) (B := Bk_slices_IndexFunc_int64_int64_w_impl_NodeFault_c1_0 fu) (fu := fu) back_slices_IndexFunc_int64_int64_w_impl_NodeFault_c1_0 (fun raw => by kernel_rfl) 0 (fun c w => by kernel_rfl) (round_slices_IndexFunc_int64_int64_w_impl_NodeFault_c1_0 fu)
theorem lpok_slices_IndexFunc_int64_int64_w_impl_NodeFault_c1 (fu : Nat) : LpOk E (pc_slices_IndexFunc_int64_int64_w_impl_NodeFault_c1 fu) msk_slices_IndexFunc_int64_int64_w_impl_NodeFault_c1 (lp_slices_IndexFunc_int64_int64_w_impl_NodeFault_c1 fu) (loops 0 body_slices_IndexFunc_int64_int64_w_impl_NodeFault_c1) := loop_all 1 (by kernel_rfl) fun i hi => match i, hi with
  | 0, _ => by
    have h : (loops 0 body_slices_IndexFunc_int64_int64_w_impl_NodeFault_c1).getD 0 (0, .skip) = (0, lc_slices_IndexFunc_int64_int64_w_impl_NodeFault_c1_0) := by kernel_rfl
    rw [h]; exact lpok_slices_IndexFunc_int64_int64_w_impl_NodeFault_c1_0 fu
  | i + 1, hi => absurd hi (by omega)
def S_slices_IndexFunc_int64_int64_w_impl_NodeFault_c1 (fu : Nat) (xs : List (D RT den)) : Option (Out RT den) := match xs with | [.rs za0_0 .i64 na0_0 fa0_0, .fn 74 [.rptr [.int .i64 a1_0]]] => some ⟨Int, F_slices_IndexFunc_int64_int64_w_impl_NodeFault_c1 fu (⟨za0_0, na0_0, fa0_0⟩ : (Sl Int)) a1_0, enc_i64, fun _ => true⟩ | _ => none
theorem hpc_slices_IndexFunc_int64_int64_w_impl_NodeFault_c1 (fu : Nat) : ∀ f xs o, pc_slices_IndexFunc_int64_int64_w_impl_NodeFault_c1 fu f xs = some o → ∀ y, o.x = some y → Good E Try.prog f xs (o.g y) := by
  intro f xs o h
  unfold pc_slices_IndexFunc_int64_int64_w_impl_NodeFault_c1 at h
  split at h
  · exact good_impl_NodeFault_c1 fu xs o h
  · cases h
theorem goodv_slices_IndexFunc_int64_int64_w_impl_NodeFault_c1 (fu : Nat) (s_0 : (Sl Int)) (f_1_1 : Int) (y : Int) (hy : F_slices_IndexFunc_int64_int64_w_impl_NodeFault_c1 fu s_0 f_1_1 = some y) : Good E Try.prog 87 [(.rs s_0.z .i64 s_0.n s_0.f), (.fn 74 [(.rptr [(.int .i64 f_1_1)])])] (enc_i64 y) :=
  fun_good E_ok (pc_good (hpc_slices_IndexFunc_int64_int64_w_impl_NodeFault_c1 fu)) (fn := Try.f87) (c := body_slices_IndexFunc_int64_int64_w_impl_NodeFault_c1) (out := out_i64) (y := y) (by kernel_rfl) (by kernel_rfl) (by kernel_rfl) (lpok_slices_IndexFunc_int64_int64_w_impl_NodeFault_c1 fu) (fun d hd => out_i64_enc d _ hd) ((ev_slices_IndexFunc_int64_int64_w_impl_NodeFault_c1 fu s_0 f_1_1).trans hy)
theorem good_slices_IndexFunc_int64_int64_w_impl_NodeFault_c1 (fu : Nat) : ∀ xs o, S_slices_IndexFunc_int64_int64_w_impl_NodeFault_c1 fu xs = some o → ∀ y, o.x = some y → Good E Try.prog 87 xs (o.g y) := by
  intro xs o h y hy
  unfold S_slices_IndexFunc_int64_int64_w_impl_NodeFault_c1 at h
  split at h
  · rename_i za0_0 na0_0 fa0_0 a1_0
    cases h
    exact goodv_slices_IndexFunc_int64_int64_w_impl_NodeFault_c1 fu (⟨za0_0, na0_0, fa0_0⟩ : (Sl Int)) a1_0 y hy
  · cases h

/-! slices.ContainsFunc[[]int64,int64] -/
def F_slices_ContainsFunc_int64_int64_w_impl_NodeFault_c1 (fu : Nat) (s_0 : (Sl Int)) (f_1_1 : Int) : Option (Bool) :=
  ((F_slices_IndexFunc_int64_int64_w_impl_NodeFault_c1 fu s_0 f_1_1).bind fun y183 => (some (decide (y183 ≥ 0))))
def pc_slices_ContainsFunc_int64_int64_w_impl_NodeFault_c1 (fu : Nat) : Pc RT den := fun f xs => match f with | 87 => S_slices_IndexFunc_int64_int64_w_impl_NodeFault_c1 fu xs | _ => none
def msk_slices_ContainsFunc_int64_int64_w_impl_NodeFault_c1 (b : Nat) : List Nat := []
def lp_slices_ContainsFunc_int64_int64_w_impl_NodeFault_c1 (fu : Nat) : Lp RT den (Bool) := fun b s k => none
theorem ev_slices_ContainsFunc_int64_int64_w_impl_NodeFault_c1 (fu : Nat) (s_0 : (Sl Int)) (f_1_1 : Int) : evFun E (pc_slices_ContainsFunc_int64_int64_w_impl_NodeFault_c1 fu) msk_slices_ContainsFunc_int64_int64_w_impl_NodeFault_c1 (lp_slices_ContainsFunc_int64_int64_w_impl_NodeFault_c1 fu) out_b 73 [(.rs s_0.z .i64 s_0.n s_0.f), (.fn 74 [(.rptr [(.int .i64 f_1_1)])])] = F_slices_ContainsFunc_int64_int64_w_impl_NodeFault_c1 fu s_0 f_1_1 := by kernel_rfl
noncomputable def body_slices_ContainsFunc_int64_int64_w_impl_NodeFault_c1 : Code := Try.f73.body.getD .skip
theorem lpok_slices_ContainsFunc_int64_int64_w_impl_NodeFault_c1 (fu : Nat) : LpOk E (pc_slices_ContainsFunc_int64_int64_w_impl_NodeFault_c1 fu) msk_slices_ContainsFunc_int64_int64_w_impl_NodeFault_c1 (lp_slices_ContainsFunc_int64_int64_w_impl_NodeFault_c1 fu) (loops 0 body_slices_ContainsFunc_int64_int64_w_impl_NodeFault_c1) := by
  have h : loops 0 body_slices_ContainsFunc_int64_int64_w_impl_NodeFault_c1 = [] := by kernel_rfl
  rw [h]; intro p hp; cases hp
def S_slices_ContainsFunc_int64_int64_w_impl_NodeFault_c1 (fu : Nat) (xs : List (D RT den)) : Option (Out RT den) := match xs with | [.rs za0_0 .i64 na0_0 fa0_0, .fn 74 [.rptr [.int .i64 a1_0]]] => some ⟨Bool, F_slices_ContainsFunc_int64_int64_w_impl_NodeFault_c1 fu (⟨za0_0, na0_0, fa0_0⟩ : (Sl Int)) a1_0, enc_b, fun _ => true⟩ | _ => none
theorem hpc_slices_ContainsFunc_int64_int64_w_impl_NodeFault_c1 (fu : Nat) : ∀ f xs o, pc_slices_ContainsFunc_int64_int64_w_impl_NodeFault_c1 fu f xs = some o → ∀ y, o.x = some y → Good E Try.prog f xs (o.g y) := by
  intro f xs o h
  unfold pc_slices_ContainsFunc_int64_int64_w_impl_NodeFault_c1 at h
  split at h
  · exact good_slices_IndexFunc_int64_int64_w_impl_NodeFault_c1 fu xs o h
  · cases h
theorem goodv_slices_ContainsFunc_int64_int64_w_impl_NodeFault_c1 (fu : Nat) (s_0 : (Sl Int)) (f_1_1 : Int) (y : Bool) (hy : F_slices_ContainsFunc_int64_int64_w_impl_NodeFault_c1 fu s_0 f_1_1 = some y) : Good E Try.prog 73 [(.rs s_0.z .i64 s_0.n s_0.f), (.fn 74 [(.rptr [(.int .i64 f_1_1)])])] (enc_b y) :=
  fun_good E_ok (pc_good (hpc_slices_ContainsFunc_int64_int64_w_impl_NodeFault_c1 fu)) (fn := Try.f73) (c := body_slices_ContainsFunc_int64_int64_w_impl_NodeFault_c1) (out := out_b) (y := y) (by kernel_rfl) (by kernel_rfl) (by kernel_rfl) (lpok_slices_ContainsFunc_int64_int64_w_impl_NodeFault_c1 fu) (fun d hd => out_b_enc d _ hd) ((ev_slices_ContainsFunc_int64_int64_w_impl_NodeFault_c1 fu s_0 f_1_1).trans hy)
theorem good_slices_ContainsFunc_int64_int64_w_impl_NodeFault_c1 (fu : Nat) : ∀ xs o, S_slices_ContainsFunc_int64_int64_w_impl_NodeFault_c1 fu xs = some o → ∀ y, o.x = some y → Good E Try.prog 73 xs (o.g y) := by
  intro xs o h y hy
  unfold S_slices_ContainsFunc_int64_int64_w_impl_NodeFault_c1 at h
  split at h
  · rename_i za0_0 na0_0 fa0_0 a1_0
    cases h
    exact goodv_slices_ContainsFunc_int64_int64_w_impl_NodeFault_c1 fu (⟨za0_0, na0_0, fa0_0⟩ : (Sl Int)) a1_0 y hy
  · cases h

/-! impl.NodeFault'2 -/
def F_impl_NodeFault_c2 (fu : Nat) (k_0 : Int) (x_1_1 : Int) : Option (Bool) :=
  ((F_impl_in fu k_0 0 x_1_1).bind fun y190 => (some (!y190)))
def pc_impl_NodeFault_c2 (fu : Nat) : Pc RT den := fun f xs => match f with | 40 => S_impl_in fu xs | _ => none
def msk_impl_NodeFault_c2 (b : Nat) : List Nat := []
def lp_impl_NodeFault_c2 (fu : Nat) : Lp RT den (Bool) := fun b s k => none
theorem ev_impl_NodeFault_c2 (fu : Nat) (k_0 : Int) (x_1_1 : Int) : evFun E (pc_impl_NodeFault_c2 fu) msk_impl_NodeFault_c2 (lp_impl_NodeFault_c2 fu) out_b 75 [(.int .i64 k_0), (.rptr [(.int .i64 x_1_1)])] = F_impl_NodeFault_c2 fu k_0 x_1_1 := by kernel_rfl
noncomputable def body_impl_NodeFault_c2 : Code := Try.f75.body.getD .skip
theorem lpok_impl_NodeFault_c2 (fu : Nat) : LpOk E (pc_impl_NodeFault_c2 fu) msk_impl_NodeFault_c2 (lp_impl_NodeFault_c2 fu) (loops 0 body_impl_NodeFault_c2) := by
  have h : loops 0 body_impl_NodeFault_c2 = [] := by kernel_rfl
  rw [h]; intro p hp; cases hp
def S_impl_NodeFault_c2 (fu : Nat) (xs : List (D RT den)) : Option (Out RT den) := match xs with | [.int .i64 a0_0, .rptr [.int .i64 a1_0]] => some ⟨Bool, F_impl_NodeFault_c2 fu a0_0 a1_0, enc_b, fun _ => true⟩ | _ => none
theorem hpc_impl_NodeFault_c2 (fu : Nat) : ∀ f xs o, pc_impl_NodeFault_c2 fu f xs = some o → ∀ y, o.x = some y → Good E Try.prog f xs (o.g y) := by
  intro f xs o h
  unfold pc_impl_NodeFault_c2 at h
  split at h
  · exact good_impl_in fu xs o h
  · cases h
theorem goodv_impl_NodeFault_c2 (fu : Nat) (k_0 : Int) (x_1_1 : Int) (y : Bool) (hy : F_impl_NodeFault_c2 fu k_0 x_1_1 = some y) : Good E Try.prog 75 [(.int .i64 k_0), (.rptr [(.int .i64 x_1_1)])] (enc_b y) :=
  fun_good E_ok (pc_good (hpc_impl_NodeFault_c2 fu)) (fn := Try.f75) (c := body_impl_NodeFault_c2) (out := out_b) (y := y) (by kernel_rfl) (by kernel_rfl) (by kernel_rfl) (lpok_impl_NodeFault_c2 fu) (fun d hd => out_b_enc d _ hd) ((ev_impl_NodeFault_c2 fu k_0 x_1_1).trans hy)
theorem good_impl_NodeFault_c2 (fu : Nat) : ∀ xs o, S_impl_NodeFault_c2 fu xs = some o → ∀ y, o.x = some y → Good E Try.prog 75 xs (o.g y) := by
  intro xs o h y hy
  unfold S_impl_NodeFault_c2 at h
  split at h
  · rename_i a0_0 a1_0
    cases h
    exact goodv_impl_NodeFault_c2 fu a0_0 a1_0 y hy
  · cases h

/-! slices.IndexFunc[[]int64,int64] -/
def F_slices_IndexFunc_int64_int64_w_impl_NodeFault_c2_B0 {ρ : Type} (fu : Nat) (s0_0 : (Sl Int)) (f1_1 : Int) (t7_2 : Int) (k0 : Int → Option ρ) (k1 : Option ρ) (t8_3 : Int) (go : Int → Option ρ) : Option ρ :=
  (bif (decide (t8_3 < t7_2)) then ((bif (decide (0 ≤ t8_3) && decide ((Int.toNat t8_3) < s0_0.n)) then some () else none : Option Unit).bind fun _ => ((F_impl_NodeFault_c2 fu (s0_0.f (Int.toNat t8_3)) f1_1).bind fun y188 =>
    (bif y188 then (k0 t8_3) else (go (IntKind.wrap .i64 (t8_3 + 1)))))) else k1)
def F_slices_IndexFunc_int64_int64_w_impl_NodeFault_c2 (fu : Nat) (s_0 : (Sl Int)) (f_1_1 : Int) : Option (Int) :=
  (L (fun w0 go0 => F_slices_IndexFunc_int64_int64_w_impl_NodeFault_c2_B0 fu s_0 f_1_1 ((s_0.n : Nat) : Int) (fun z189 => (some z189)) (some (-1)) w0 go0) fu (0 : Int))
def pc_slices_IndexFunc_int64_int64_w_impl_NodeFault_c2 (fu : Nat) : Pc RT den := fun f xs => match f with | 75 => S_impl_NodeFault_c2 fu xs | _ => none
def msk_slices_IndexFunc_int64_int64_w_impl_NodeFault_c2 (b : Nat) : List Nat := match b with | 0 => [2, 3, 4, 5, 6, 9, 10, 11, 12, 13, 14, 15, 16, 17, 18] | 100000 => [0, 1, 2, 3, 5, 6, 7, 8, 9, 10, 11, 12, 13, 14, 15, 16, 17, 18] | _ => []
def ps_slices_IndexFunc_int64_int64_w_impl_NodeFault_c2_0 : List (Pat RT) := [.flat (.rs .i64), .fn 75 [.rptr [(.int .i64)]], .flat .dead, .flat .dead, .flat .dead, .flat .dead, .flat .dead, .flat (.int .i64), .flat (.int .i64), .flat .dead, .flat .dead, .flat .dead, .flat .dead, .flat .dead, .flat .dead, .flat .dead, .flat .dead, .flat .dead, .flat .dead]
def os_slices_IndexFunc_int64_int64_w_impl_NodeFault_c2_0 : List (OP RT) := []
def conv_slices_IndexFunc_int64_int64_w_impl_NodeFault_c2_0 (r : Raw den ps_slices_IndexFunc_int64_int64_w_impl_NodeFault_c2_0 os_slices_IndexFunc_int64_int64_w_impl_NodeFault_c2_0) : ((Sl Int) × Int × Int) × (Int) := ((r.1.1, r.1.2.1.1.1, r.1.2.2.2.2.2.2.2.1), r.1.2.2.2.2.2.2.2.2.1)
def back_slices_IndexFunc_int64_int64_w_impl_NodeFault_c2_0 (c : (Sl Int) × Int × Int) (w : Int) : St RT den := ⟨[(.rs c.1.z .i64 c.1.n c.1.f), (.fn 75 [(.rptr [(.int .i64 c.2.1)])]), .dead, .dead, .dead, .dead, .dead, (.int .i64 c.2.2), (.int .i64 w), .dead, .dead, .dead, .dead, .dead, .dead, .dead, .dead, .dead, .dead], []⟩
def Bk_slices_IndexFunc_int64_int64_w_impl_NodeFault_c2_0 {ρ : Type} (fu : Nat) (c : (Sl Int) × Int × Int) (k : Ex → St RT den → Option ρ) (w : Int) (go : (Int) → Option ρ) : Option ρ := F_slices_IndexFunc_int64_int64_w_impl_NodeFault_c2_B0 fu c.1 c.2.1 c.2.2 (fun a0 => k .ret ⟨[.dead, .dead, .dead, .dead, (.int .i64 a0), .dead, .dead, .dead, .dead, .dead, .dead, .dead, .dead, .dead, .dead, .dead, .dead, .dead, .dead], []⟩) (k (.exit 0) ⟨[.dead, .dead, .dead, .dead, .dead, .dead, .dead, .dead, .dead, .dead, .dead, .dead, .dead, .dead, .dead, .dead, .dead, .dead, .dead], []⟩) w go
def lp_slices_IndexFunc_int64_int64_w_impl_NodeFault_c2 (fu : Nat) : Lp RT den (Int) := fun b s k => match b with | 0 => handle ps_slices_IndexFunc_int64_int64_w_impl_NodeFault_c2_0 os_slices_IndexFunc_int64_int64_w_impl_NodeFault_c2_0 conv_slices_IndexFunc_int64_int64_w_impl_NodeFault_c2_0 (Bk_slices_IndexFunc_int64_int64_w_impl_NodeFault_c2_0 fu) fu s k | _ => none
theorem ev_slices_IndexFunc_int64_int64_w_impl_NodeFault_c2 (fu : Nat) (s_0 : (Sl Int)) (f_1_1 : Int) : evFun E (pc_slices_IndexFunc_int64_int64_w_impl_NodeFault_c2 fu) msk_slices_IndexFunc_int64_int64_w_impl_NodeFault_c2 (lp_slices_IndexFunc_int64_int64_w_impl_NodeFault_c2 fu) out_i64 87 [(.rs s_0.z .i64 s_0.n s_0.f), (.fn 75 [(.rptr [(.int .i64 f_1_1)])])] = F_slices_IndexFunc_int64_int64_w_impl_NodeFault_c2 fu s_0 f_1_1 := by kernel_rfl
noncomputable def body_slices_IndexFunc_int64_int64_w_impl_NodeFault_c2 : Code := Try.f87.body.getD .skip
noncomputable def lc_slices_IndexFunc_int64_int64_w_impl_NodeFault_c2_0 : Code := ((loops 0 body_slices_IndexFunc_int64_int64_w_impl_NodeFault_c2).getD 0 (0, .skip)).2
theorem round_slices_IndexFunc_int64_int64_w_impl_NodeFault_c2_0 (fu : Nat) (it : St RT den → Option (Int)) (k : Ex → St RT den → Option (Int)) c w : evCode E (pc_slices_IndexFunc_int64_int64_w_impl_NodeFault_c2 fu) msk_slices_IndexFunc_int64_int64_w_impl_NodeFault_c2 (lp_slices_IndexFunc_int64_int64_w_impl_NodeFault_c2 fu) 0 lc_slices_IndexFunc_int64_int64_w_impl_NodeFault_c2_0 (back_slices_IndexFunc_int64_int64_w_impl_NodeFault_c2_0 c w) (after (msk_slices_IndexFunc_int64_int64_w_impl_NodeFault_c2 0) (msk_slices_IndexFunc_int64_int64_w_impl_NodeFault_c2 100000) 0 it k) = Bk_slices_IndexFunc_int64_int64_w_impl_NodeFault_c2_0 fu c k w (fun w => it (back_slices_IndexFunc_int64_int64_w_impl_NodeFault_c2_0 c w)) := by kernel_rfl
theorem lpok_slices_IndexFunc_int64_int64_w_impl_NodeFault_c2_0 (fu : Nat) : ∀ s k r, lp_slices_IndexFunc_int64_int64_w_impl_NodeFault_c2 fu 0 s k = some r → ∃ fuel, iter (msk_slices_IndexFunc_int64_int64_w_impl_NodeFault_c2 0) (msk_slices_IndexFunc_int64_int64_w_impl_NodeFault_c2 100000) s.objs.length (evCode E (pc_slices_IndexFunc_int64_int64_w_impl_NodeFault_c2 fu) msk_slices_IndexFunc_int64_int64_w_impl_NodeFault_c2 (lp_slices_IndexFunc_int64_int64_w_impl_NodeFault_c2 fu) 0 lc_slices_IndexFunc_int64_int64_w_impl_NodeFault_c2_0) fuel s k = some r :=
  handle_ok (ps := ps_slices_IndexFunc_int64_int64_w_impl_NodeFault_c2_0) (os := os_slices_IndexFunc_int64_int64_w_impl_NodeFault_c2_0) (conv := conv_slices_IndexFunc_int64_int64_w_impl_NodeFault_c2_0) (B := Bk_slices_IndexFunc_int64_int64_w_impl_NodeFault_c2_0 fu) (fu := fu) back_slices_IndexFunc_int64_int64_w_impl_NodeFault_c2_0 (fun raw => by kernel_rfl) 0 (fun c w => by kernel_rfl) (round_slices_IndexFunc_int64_int64_w_impl_NodeFault_c2_0 fu)
theorem lpok_slices_IndexFunc_int64_int64_w_impl_NodeFault_c2 (fu : Nat) : LpOk E (pc_slices_IndexFunc_int64_int64_w_impl_NodeFault_c2 fu) msk_slices_IndexFunc_int64_int64_w_impl_NodeFault_c2 (lp_slices_IndexFunc_int64_int64_w_impl_NodeFault_c2 fu) (loops 0 body_slices_IndexFunc_int64_int64_w_impl_NodeFault_c2) := loop_all 1 (by kernel_rfl) fun i hi => match i, hi with
  | 0, _ => by
    have h : (loops 0 body_slices_IndexFunc_int64_int64_w_impl_NodeFault_c2).getD 0 (0, .skip) = (0, lc_slices_IndexFunc_int64_int64_w_impl_NodeFault_c2_0) := by kernel_rfl
    rw [h]; exact lpok_slices_IndexFunc_int64_int64_w_impl_NodeFault_c2_0 fu
  | i + 1, hi => absurd hi (by omega)
def S_slices_IndexFunc_int64_int64_w_impl_NodeFault_c2 (fu : Nat) (xs : List (D RT den)) : Option (Out RT den) := match xs with | [.rs za0_0 .i64 na0_0 fa0_0, .fn 75 [.rptr [.int .i64 a1_0]]] => some ⟨Int, F_slices_IndexFunc_int64_int64_w_impl_NodeFault_c2 fu (⟨za0_0, na0_0, fa0_0⟩ : (Sl Int)) a1_0, enc_i64, fun _ => true⟩ | _ => none
theorem hpc_slices_IndexFunc_int64_int64_w_impl_NodeFault_c2 (fu : Nat) : ∀ f xs o, pc_slices_IndexFunc_int64_int64_w_impl_NodeFault_c2 fu f xs = some o → ∀ y, o.x = some y → Good E Try.prog f xs (o.g y) := by
  intro f xs o h
  unfold pc_slices_IndexFunc_int64_int64_w_impl_NodeFault_c2 at h
  split at h
  · exact good_impl_NodeFault_c2 fu xs o h
  · cases h
theorem goodv_slices_IndexFunc_int64_int64_w_impl_NodeFault_c2 (fu : Nat) (s_0 : (Sl Int)) (f_1_1 : Int) (y : Int) (hy : F_slices_IndexFunc_int64_int64_w_impl_NodeFault_c2 fu s_0 f_1_1 = some y) : Good E Try.prog 87 [(.rs s_0.z .i64 s_0.n s_0.f), (.fn 75 [(.rptr [(.int .i64 f_1_1)])])] (enc_i64 y) :=
  fun_good E_ok (pc_good (hpc_slices_IndexFunc_int64_int64_w_impl_NodeFault_c2 fu)) (fn := Try.f87) (c := body_slices_IndexFunc_int64_int64_w_impl_NodeFault_c2) (out := out_i64) (y := y) (by kernel_rfl) (by kernel_rfl) (by kernel_rfl) (lpok_slices_IndexFunc_int64_int64_w_impl_NodeFault_c2 fu) (fun d hd => out_i64_enc d _ hd) ((ev_slices_IndexFunc_int64_int64_w_impl_NodeFault_c2 fu s_0 f_1_1).trans hy)
theorem good_slices_IndexFunc_int64_int64_w_impl_NodeFault_c2 (fu : Nat) : ∀ xs o, S_slices_IndexFunc_int64_int64_w_impl_NodeFault_c2 fu xs = some o → ∀ y, o.x = some y → Good E Try.prog 87 xs (o.g y) := by
  intro xs o h y hy
  unfold S_slices_IndexFunc_int64_int64_w_impl_NodeFault_c2 at h
  split at h
  · rename_i za0_0 na0_0 fa0_0 a1_0
    cases h
    exact goodv_slices_IndexFunc_int64_int64_w_impl_NodeFault_c2 fu (⟨za0_0, na0_0, fa0_0⟩ : (Sl Int)) a1_0 y hy
  · cases h
end Go.Proofs.Ytgdlionhnifajaa.Pc
