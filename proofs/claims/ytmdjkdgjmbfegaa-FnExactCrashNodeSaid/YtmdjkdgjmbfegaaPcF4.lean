/- The functions' evaluated forms, each a proved summary. Conditions: none. -/
import Derived.Test.YtmdjkdgjmbfegaaPcF3
namespace Go.Proofs.Ytmdjkdgjmbfegaa.Pc
open Go Go.RowKit Go.Proofs Vm
set_option linter.unusedVariables false
set_option linter.unusedSimpArgs false
set_option maxRecDepth 100000
/-! spec.l8Lists -/
def F_spec_l8Lists_B0 {ρ : Type} (fu : Nat) (n0_0 : Int) (n0_1 : Int) (n0_2 : Int) (n0_3 : Int) (n0_4 : (Sl S_impl_Entry)) (n0_5 : Int) (n0_6 : Int) (n0_7 : (Sl Int)) (n0_8 : (Sl Int)) (n0_9 : (Sl Int)) (k0 : Option ρ) (k1 : Option ρ) (i3_10 : Int) (go : Int → Option ρ) : Option ρ :=
  (bif (decide (i3_10 < ((n0_7.n : Nat) : Int))) then ((bif (decide (0 ≤ i3_10) && decide ((Int.toNat i3_10) < n0_7.n)) then some () else none : Option Unit).bind fun _ =>
    ((F_spec_l8Id fu (⟨n0_0, n0_1, n0_2, n0_3, n0_4, n0_5, n0_6, n0_7, n0_8, n0_9⟩ : S_impl_Node) (n0_7.f (Int.toNat i3_10))).bind fun y259 => (bif (!y259) then k0 else (go (IntKind.wrap .i64 (i3_10 + 1)))))) else
    k1)
def F_spec_l8Lists (fu : Nat) (n_0 : S_impl_Node) : Option (Bool) :=
  ((((F_spec_l8Rises fu n_0.Votes).bind fun y257 => (bif (!y257) then (some true) else (bif (decide (((n_0.Votes.n : Nat) : Int) > 0)) then (some (n_0.Role != 1)) else (some false)))) : Option Bool).bind fun m258 =>
    (bif m258 then (some false) else (L (fun w0 go0 => F_spec_l8Lists_B0 fu n_0.Id n_0.Peers n_0.Term n_0.Voted n_0.Log n_0.Role n_0.Commit n_0.Votes n_0.Next n_0.Match (some false) (bif (n_0.Role == 2) then
    (((bif (((n_0.Next.n : Nat) : Int) == n_0.Peers) then (some (((n_0.Match.n : Nat) : Int) == n_0.Peers)) else (some false)) : Option Bool).bind fun m260 => (some m260)) else
    (((bif (((n_0.Next.n : Nat) : Int) == 0) then (some (((n_0.Match.n : Nat) : Int) == 0)) else (some false)) : Option Bool).bind fun m261 => (some m261))) w0 go0) fu (0 : Int))))
def pcf_spec_l8Lists (fu : Nat) (f : Nat) (xs : List (D RT den)) : Option (Out RT den) := match f with | 89 => S_spec_l8Id fu xs | 113 => S_spec_l8Rises fu xs | _ => none
def pcx_spec_l8Lists (fu : Nat) (f : Nat) (xs : List (D RT den)) (ins : List (Ob RT den)) : Option (OutX RT den) := none
def pc_spec_l8Lists (fu : Nat) : Pc RT den := ⟨pcf_spec_l8Lists fu, fun _ => false, fun _ => false, pcx_spec_l8Lists fu⟩
def msk_spec_l8Lists (b : Nat) : List Nat := match b with | 0 => [1, 2, 4, 5, 6, 7, 8, 9, 10, 11, 12, 13, 14, 15, 16, 17, 18, 19, 20, 21, 22, 23, 24, 25, 26, 27, 28, 29, 30, 31, 32, 33, 34, 35, 36, 37, 38, 39, 40, 41, 42, 43, 44, 45, 46, 47, 48, 49, 50, 51, 52, 53, 54, 55, 56, 57, 58, 59, 60, 61, 62, 63, 64, 65, 66, 67, 68, 69] | 100000 => [1, 3, 4, 5, 6, 7, 8, 9, 10, 11, 12, 13, 14, 15, 16, 17, 18, 19, 20, 21, 22, 23, 24, 25, 26, 27, 28, 29, 30, 31, 32, 33, 34, 35, 36, 37, 38, 39, 40, 41, 42, 43, 44, 45, 46, 47, 48, 49, 50, 51, 52, 53, 54, 55, 56, 57, 58, 59, 60, 61, 62, 63, 64, 65, 66, 67, 68, 69] | 200001 => [25] | 200011 => [2] | _ => []
def ps_spec_l8Lists_0 : List (Pat RT) := [.rptr [(.int .i64), (.int .i64), (.int .i64), (.int .i64), (.rs .impl_Entry), (.int .i64), (.int .i64), (.rs .i64), (.rs .i64), (.rs .i64)], .flat .dead, .flat .dead, .flat (.int .i64), .flat .dead, .flat .dead, .flat .dead, .flat .dead, .flat .dead, .flat .dead, .flat .dead, .flat .dead, .flat .dead, .flat .dead, .flat .dead, .flat .dead, .flat .dead, .flat .dead, .flat .dead, .flat .dead, .flat .dead, .flat .dead, .flat .dead, .flat .dead, .flat .dead, .flat .dead, .flat .dead, .flat .dead, .flat .dead, .flat .dead, .flat .dead, .flat .dead, .flat .dead, .flat .dead, .flat .dead, .flat .dead, .flat .dead, .flat .dead, .flat .dead, .flat .dead, .flat .dead, .flat .dead, .flat .dead, .flat .dead, .flat .dead, .flat .dead, .flat .dead, .flat .dead, .flat .dead, .flat .dead, .flat .dead, .flat .dead, .flat .dead, .flat .dead, .flat .dead, .flat .dead, .flat .dead, .flat .dead, .flat .dead, .flat .dead, .flat .dead, .flat .dead, .flat .dead, .flat .dead, .flat .dead, .flat .dead, .flat .dead, .flat .dead, .flat .dead, .flat .dead]
def os_spec_l8Lists_0 : List (OP RT) := []
def conv_spec_l8Lists_0 (r : Raw den ps_spec_l8Lists_0 os_spec_l8Lists_0) : (Int × Int × Int × Int × (Sl S_impl_Entry) × Int × Int × (Sl Int) × (Sl Int) × (Sl Int)) × (Int) := ((r.1.1.1, r.1.1.2.1, r.1.1.2.2.1, r.1.1.2.2.2.1, r.1.1.2.2.2.2.1, r.1.1.2.2.2.2.2.1, r.1.1.2.2.2.2.2.2.1, r.1.1.2.2.2.2.2.2.2.1, r.1.1.2.2.2.2.2.2.2.2.1, r.1.1.2.2.2.2.2.2.2.2.2.1), r.1.2.2.2.1)
def back_spec_l8Lists_0 (c : Int × Int × Int × Int × (Sl S_impl_Entry) × Int × Int × (Sl Int) × (Sl Int) × (Sl Int)) (w : Int) : St RT den := ⟨[(.rptr [(.int .i64 c.1), (.int .i64 c.2.1), (.int .i64 c.2.2.1), (.int .i64 c.2.2.2.1), (.rs c.2.2.2.2.1.z .impl_Entry c.2.2.2.2.1.n c.2.2.2.2.1.f), (.int .i64 c.2.2.2.2.2.1), (.int .i64 c.2.2.2.2.2.2.1), (.rs c.2.2.2.2.2.2.2.1.z .i64 c.2.2.2.2.2.2.2.1.n c.2.2.2.2.2.2.2.1.f), (.rs c.2.2.2.2.2.2.2.2.1.z .i64 c.2.2.2.2.2.2.2.2.1.n c.2.2.2.2.2.2.2.2.1.f), (.rs c.2.2.2.2.2.2.2.2.2.z .i64 c.2.2.2.2.2.2.2.2.2.n c.2.2.2.2.2.2.2.2.2.f)]), .dead, .dead, (.int .i64 w), .dead, .dead, .dead, .dead, .dead, .dead, .dead, .dead, .dead, .dead, .dead, .dead, .dead, .dead, .dead, .dead, .dead, .dead, .dead, .dead, .dead, .dead, .dead, .dead, .dead, .dead, .dead, .dead, .dead, .dead, .dead, .dead, .dead, .dead, .dead, .dead, .dead, .dead, .dead, .dead, .dead, .dead, .dead, .dead, .dead, .dead, .dead, .dead, .dead, .dead, .dead, .dead, .dead, .dead, .dead, .dead, .dead, .dead, .dead, .dead, .dead, .dead, .dead, .dead, .dead, .dead], []⟩
def Bk_spec_l8Lists_0 {ρ : Type} (fu : Nat) (c : Int × Int × Int × Int × (Sl S_impl_Entry) × Int × Int × (Sl Int) × (Sl Int) × (Sl Int)) (k : Ex → St RT den → Option ρ) (w : Int) (go : (Int) → Option ρ) : Option ρ := F_spec_l8Lists_B0 fu c.1 c.2.1 c.2.2.1 c.2.2.2.1 c.2.2.2.2.1 c.2.2.2.2.2.1 c.2.2.2.2.2.2.1 c.2.2.2.2.2.2.2.1 c.2.2.2.2.2.2.2.2.1 c.2.2.2.2.2.2.2.2.2 (k .ret ⟨[(.rptr [(.int .i64 c.1), (.int .i64 c.2.1), (.int .i64 c.2.2.1), (.int .i64 c.2.2.2.1), (.rs c.2.2.2.2.1.z .impl_Entry c.2.2.2.2.1.n c.2.2.2.2.1.f), (.int .i64 c.2.2.2.2.2.1), (.int .i64 c.2.2.2.2.2.2.1), (.rs c.2.2.2.2.2.2.2.1.z .i64 c.2.2.2.2.2.2.2.1.n c.2.2.2.2.2.2.2.1.f), (.rs c.2.2.2.2.2.2.2.2.1.z .i64 c.2.2.2.2.2.2.2.2.1.n c.2.2.2.2.2.2.2.2.1.f), (.rs c.2.2.2.2.2.2.2.2.2.z .i64 c.2.2.2.2.2.2.2.2.2.n c.2.2.2.2.2.2.2.2.2.f)]), .dead, (.bool false), .dead, .dead, .dead, .dead, .dead, .dead, .dead, .dead, .dead, .dead, .dead, .dead, .dead, .dead, .dead, .dead, .dead, .dead, .dead, .dead, .dead, .dead, .dead, .dead, .dead, .dead, .dead, .dead, .dead, .dead, .dead, .dead, .dead, .dead, .dead, .dead, .dead, .dead, .dead, .dead, .dead, .dead, .dead, .dead, .dead, .dead, .dead, .dead, .dead, .dead, .dead, .dead, .dead, .dead, .dead, .dead, .dead, .dead, .dead, .dead, .dead, .dead, .dead, .dead, .dead, .dead, .dead], []⟩) (k (.exit 0) ⟨[(.rptr [(.int .i64 c.1), (.int .i64 c.2.1), (.int .i64 c.2.2.1), (.int .i64 c.2.2.2.1), (.rs c.2.2.2.2.1.z .impl_Entry c.2.2.2.2.1.n c.2.2.2.2.1.f), (.int .i64 c.2.2.2.2.2.1), (.int .i64 c.2.2.2.2.2.2.1), (.rs c.2.2.2.2.2.2.2.1.z .i64 c.2.2.2.2.2.2.2.1.n c.2.2.2.2.2.2.2.1.f), (.rs c.2.2.2.2.2.2.2.2.1.z .i64 c.2.2.2.2.2.2.2.2.1.n c.2.2.2.2.2.2.2.2.1.f), (.rs c.2.2.2.2.2.2.2.2.2.z .i64 c.2.2.2.2.2.2.2.2.2.n c.2.2.2.2.2.2.2.2.2.f)]), .dead, .dead, .dead, .dead, .dead, .dead, .dead, .dead, .dead, .dead, .dead, .dead, .dead, .dead, .dead, .dead, .dead, .dead, .dead, .dead, .dead, .dead, .dead, .dead, .dead, .dead, .dead, .dead, .dead, .dead, .dead, .dead, .dead, .dead, .dead, .dead, .dead, .dead, .dead, .dead, .dead, .dead, .dead, .dead, .dead, .dead, .dead, .dead, .dead, .dead, .dead, .dead, .dead, .dead, .dead, .dead, .dead, .dead, .dead, .dead, .dead, .dead, .dead, .dead, .dead, .dead, .dead, .dead, .dead], []⟩) w go
def lp_spec_l8Lists (fu : Nat) : Lp RT den (Bool) := fun b s k => match b with | 0 => handle ps_spec_l8Lists_0 os_spec_l8Lists_0 conv_spec_l8Lists_0 (Bk_spec_l8Lists_0 fu) fu s k | _ => none
theorem ev_spec_l8Lists (fu : Nat) (n_0 : S_impl_Node) : evFun E (pc_spec_l8Lists fu) msk_spec_l8Lists (lp_spec_l8Lists fu) out_bo 91 [(.rptr [(.int .i64 n_0.Id), (.int .i64 n_0.Peers), (.int .i64 n_0.Term), (.int .i64 n_0.Voted), (.rs n_0.Log.z .impl_Entry n_0.Log.n n_0.Log.f), (.int .i64 n_0.Role), (.int .i64 n_0.Commit), (.rs n_0.Votes.z .i64 n_0.Votes.n n_0.Votes.f), (.rs n_0.Next.z .i64 n_0.Next.n n_0.Next.f), (.rs n_0.Match.z .i64 n_0.Match.n n_0.Match.f)])] = F_spec_l8Lists fu n_0 := by kernel_rfl
noncomputable def body_spec_l8Lists : Code := Try.f91.body.getD .skip
noncomputable def lc_spec_l8Lists_0 : Code := ((loops 0 body_spec_l8Lists).getD 0 (0, .skip)).2
theorem round_spec_l8Lists_0 (fu : Nat) (it : St RT den → Option (Bool)) (k : Ex → St RT den → Option (Bool)) c w : evCode E (pc_spec_l8Lists fu) msk_spec_l8Lists (lp_spec_l8Lists fu) 0 lc_spec_l8Lists_0 (back_spec_l8Lists_0 c w) (after (msk_spec_l8Lists 0) (msk_spec_l8Lists 100000) 0 it k) = Bk_spec_l8Lists_0 fu c k w (fun w => it (back_spec_l8Lists_0 c w)) := by kernel_rfl
theorem lpok_spec_l8Lists_0 (fu : Nat) : ∀ s k r, lp_spec_l8Lists fu 0 s k = some r → ∃ fuel, iter (msk_spec_l8Lists 0) (msk_spec_l8Lists 100000) s.objs.length (evCode E (pc_spec_l8Lists fu) msk_spec_l8Lists (lp_spec_l8Lists fu) 0 lc_spec_l8Lists_0) fuel s k = some r :=
  handle_ok (ps := ps_spec_l8Lists_0) (os := os_spec_l8Lists_0) (conv := conv_spec_l8Lists_0) (B := Bk_spec_l8Lists_0 fu) (fu := fu) back_spec_l8Lists_0 (fun raw => by kernel_rfl) 0 (fun c w => by kernel_rfl) (round_spec_l8Lists_0 fu)
theorem lpok_spec_l8Lists (fu : Nat) : LpOk E (pc_spec_l8Lists fu) msk_spec_l8Lists (lp_spec_l8Lists fu) (loops 0 body_spec_l8Lists) := loop_all 1 (by kernel_rfl) fun i hi => match i, hi with
  | 0, _ => by
    have h : (loops 0 body_spec_l8Lists).getD 0 (0, .skip) = (0, lc_spec_l8Lists_0) := by kernel_rfl
    rw [h]; exact lpok_spec_l8Lists_0 fu
  | i + 1, hi => absurd hi (by omega)
def S_spec_l8Lists (fu : Nat) (xs : List (D RT den)) : Option (Out RT den) := match xs with | [.rptr (.int .i64 a0_1 :: .int .i64 a0_2 :: .int .i64 a0_3 :: .int .i64 a0_4 :: .rs za0_5 .impl_Entry na0_5 fa0_5 :: .int .i64 a0_6 :: .int .i64 a0_7 :: .rs za0_8 .i64 na0_8 fa0_8 :: .rs za0_9 .i64 na0_9 fa0_9 :: .rs za0_10 .i64 na0_10 fa0_10 :: ra0)] => some ⟨Bool, F_spec_l8Lists fu (⟨a0_1, a0_2, a0_3, a0_4, (⟨za0_5, na0_5, fa0_5⟩ : (Sl S_impl_Entry)), a0_6, a0_7, (⟨za0_8, na0_8, fa0_8⟩ : (Sl Int)), (⟨za0_9, na0_9, fa0_9⟩ : (Sl Int)), (⟨za0_10, na0_10, fa0_10⟩ : (Sl Int))⟩ : S_impl_Node), enc_bo, fun _ => true⟩ | _ => none
theorem hpc_spec_l8Lists (fu : Nat) : ∀ f xs o, pcf_spec_l8Lists fu f xs = some o → ∀ y, o.x = some y → Good E Try.prog f xs (o.g y) := by
  intro f xs o h
  unfold pcf_spec_l8Lists at h
  split at h
  · exact good_spec_l8Id fu xs o h
  · exact good_spec_l8Rises fu xs o h
  · cases h
theorem hpx_spec_l8Lists (fu : Nat) : ∀ f xs ins o, pcx_spec_l8Lists fu f xs ins = some o → ∀ y, o.x = some y → GoodX E Try.prog f xs ins (o.g y).1 (o.g y).2 := by
  intro f xs ins o h
  cases h
theorem goodv_spec_l8Lists (fu : Nat) (n_0 : S_impl_Node) (y : Bool) (hy : F_spec_l8Lists fu n_0 = some y) : Good E Try.prog 91 [(.rptr [(.int .i64 n_0.Id), (.int .i64 n_0.Peers), (.int .i64 n_0.Term), (.int .i64 n_0.Voted), (.rs n_0.Log.z .impl_Entry n_0.Log.n n_0.Log.f), (.int .i64 n_0.Role), (.int .i64 n_0.Commit), (.rs n_0.Votes.z .i64 n_0.Votes.n n_0.Votes.f), (.rs n_0.Next.z .i64 n_0.Next.n n_0.Next.f), (.rs n_0.Match.z .i64 n_0.Match.n n_0.Match.f)])] (enc_bo y) :=
  fun_good E_ok (pc_good (pc := pc_spec_l8Lists fu) (hpc_spec_l8Lists fu) (hpx_spec_l8Lists fu)) (fn := Try.f91) (c := body_spec_l8Lists) (out := out_bo) (y := y) (by kernel_rfl) (by kernel_rfl) (by kernel_rfl) (lpok_spec_l8Lists fu) (fun d hd => out_bo_enc d _ hd) ((ev_spec_l8Lists fu n_0).trans hy)
theorem good_spec_l8Lists (fu : Nat) : ∀ xs o, S_spec_l8Lists fu xs = some o → ∀ y, o.x = some y → Good E Try.prog 91 xs (o.g y) := by
  intro xs o h y hy
  unfold S_spec_l8Lists at h
  split at h
  · rename_i a0_1 a0_2 a0_3 a0_4 za0_5 na0_5 fa0_5 a0_6 a0_7 za0_8 na0_8 fa0_8 za0_9 na0_9 fa0_9 za0_10 na0_10 fa0_10 ra0
    cases h
    exact (goodv_spec_l8Lists fu (⟨a0_1, a0_2, a0_3, a0_4, (⟨za0_5, na0_5, fa0_5⟩ : (Sl S_impl_Entry)), a0_6, a0_7, (⟨za0_8, na0_8, fa0_8⟩ : (Sl Int)), (⟨za0_9, na0_9, fa0_9⟩ : (Sl Int)), (⟨za0_10, na0_10, fa0_10⟩ : (Sl Int))⟩ : S_impl_Node) y hy).sub ⟨Sub.of_eq ra0 rfl, trivial⟩
  · cases h

/-! spec.l8Fault -/
def F_spec_l8Fault_B0 {ρ : Type} (fu : Nat) (t0_0 : Int) (t0_1 : Int) (t0_2 : Int) (t0_3 : Int) (t0_4 : (Sl S_impl_Entry)) (t0_5 : Int) (t0_6 : Int) (t0_7 : (Sl Int)) (t0_8 : (Sl Int)) (t0_9 : (Sl Int)) (r4_10 : Int) (k0 : Option ρ) (k1 : Option ρ) (a5_11 : Int) (go : Int → Option ρ) : Option ρ :=
  (bif (decide (a5_11 < ((t0_8.n : Nat) : Int))) then ((((bif (decide (0 ≤ a5_11) && decide ((Int.toNat a5_11) < t0_8.n)) then some () else none : Option Unit).bind fun _ =>
    ((F_spec_l1In fu (t0_8.f (Int.toNat a5_11)) 1 (IntKind.wrap .i64 (r4_10 + 1))).bind fun y252 => (bif (!y252) then (some true) else ((bif (decide (0 ≤ a5_11) && decide ((Int.toNat a5_11) < t0_9.n)) then
    some () else none : Option Unit).bind fun _ => ((F_spec_l1In fu (t0_9.f (Int.toNat a5_11)) 0 r4_10).bind fun y253 => (some (!y253))))))) : Option Bool).bind fun m254 => (bif m254 then
    k0 else (go (IntKind.wrap .i64 (a5_11 + 1))))) else k1)
def F_spec_l8Fault (fu : Nat) (t_0 : S_impl_Node) : Option (Int) :=
  ((((F_spec_l1In fu t_0.Peers 1 5).bind fun y242 => (bif (!y242) then (some true) else ((F_spec_l8Id fu t_0 t_0.Id).bind fun y243 => (bif (!y243) then (some true) else
    ((F_spec_l1In fu t_0.Term 0 100000).bind fun y244 => (bif (!y244) then (some true) else ((F_spec_l1In fu t_0.Voted (-1) (IntKind.wrap .i64 (t_0.Peers - 1))).bind fun y245 =>
    (bif (!y245) then (some true) else ((F_spec_l1In fu t_0.Role 0 2).bind fun y246 => (some (!y246))))))))))) : Option Bool).bind fun m247 => (bif m247 then (some 3) else
    ((F_spec_LogFault fu t_0.Log).bind fun y248 => (bif (y248 != 0) then (some y248) else ((F_spec_LastOf fu t_0.Log).bind fun y249 => (bif (decide (y249.Term > t_0.Term)) then
    (some 1) else ((F_spec_l1In fu t_0.Commit 0 ((t_0.Log.n : Nat) : Int)).bind fun y250 => (bif (!y250) then (some 3) else ((F_spec_l8Lists fu t_0).bind fun y251 => (bif (!y251) then
    (some 1) else (L (fun w0 go0 => F_spec_l8Fault_B0 fu t_0.Id t_0.Peers t_0.Term t_0.Voted t_0.Log t_0.Role t_0.Commit t_0.Votes t_0.Next t_0.Match ((t_0.Log.n : Nat) : Int) (some 3) (((bif (t_0.Role != 0) then
    (bif (t_0.Voted != t_0.Id) then (some true) else (some (t_0.Term == 0))) else (some false)) : Option Bool).bind fun m255 => (bif m255 then (some 1) else (some 0))) w0 go0) fu (0 : Int))))))))))))
def pcf_spec_l8Fault (fu : Nat) (f : Nat) (xs : List (D RT den)) : Option (Out RT den) := match f with | 41 => S_spec_LogFault fu xs | 53 => S_spec_l1In fu xs | 89 => S_spec_l8Id fu xs | 90 => S_spec_LastOf fu xs | 91 => S_spec_l8Lists fu xs | _ => none
def pcx_spec_l8Fault (fu : Nat) (f : Nat) (xs : List (D RT den)) (ins : List (Ob RT den)) : Option (OutX RT den) := none
def pc_spec_l8Fault (fu : Nat) : Pc RT den := ⟨pcf_spec_l8Fault fu, fun _ => false, fun _ => false, pcx_spec_l8Fault fu⟩
def msk_spec_l8Fault (b : Nat) : List Nat := match b with | 0 => [1, 2, 3, 6, 7, 8, 9, 10, 11, 12, 13, 14, 15, 16, 17, 18, 19, 20, 21, 22, 23, 24, 25, 26, 27, 28, 29, 30, 31, 32, 33, 34, 35, 36, 37, 38, 39, 40, 41, 42, 43, 44, 45, 46, 47, 48, 49, 50, 51, 52, 53, 54, 55, 56, 57, 58, 59, 60, 61, 62, 63, 64, 65, 66, 67, 68, 69, 70, 71, 72, 73, 74, 75, 76, 77, 78, 79, 80, 81, 82, 83, 84, 85, 86, 87, 88, 89, 90, 91, 92, 93, 94, 95, 96, 97, 98, 99, 100, 101, 102, 103, 104, 105, 106, 107, 108, 109, 110, 111, 112, 113, 114, 115, 116, 117, 118, 119, 120, 121, 122, 123, 124, 125, 126, 127, 128, 129, 130, 131, 132, 133, 134, 135, 136, 137, 138] | 100000 => [1, 3, 4, 5, 6, 7, 8, 9, 10, 11, 12, 13, 14, 15, 16, 17, 18, 19, 20, 21, 22, 23, 24, 25, 26, 27, 28, 29, 30, 31, 32, 33, 34, 35, 36, 37, 38, 39, 40, 41, 42, 43, 44, 45, 46, 47, 48, 49, 50, 51, 52, 53, 54, 55, 56, 57, 58, 59, 60, 61, 62, 63, 64, 65, 66, 67, 68, 69, 70, 71, 72, 73, 74, 75, 76, 77, 78, 79, 80, 81, 82, 83, 84, 85, 86, 87, 88, 89, 90, 91, 92, 93, 94, 95, 96, 97, 98, 99, 100, 101, 102, 103, 104, 105, 106, 107, 108, 109, 110, 111, 112, 113, 114, 115, 116, 117, 118, 119, 120, 121, 122, 123, 124, 125, 126, 127, 128, 129, 130, 131, 132, 133, 134, 135, 136, 137, 138] | 200001 => [49] | 200016 => [115] | 200018 => [138] | _ => []
def ps_spec_l8Fault_0 : List (Pat RT) := [.rptr [(.int .i64), (.int .i64), (.int .i64), (.int .i64), (.rs .impl_Entry), (.int .i64), (.int .i64), (.rs .i64), (.rs .i64), (.rs .i64)], .flat .dead, .flat .dead, .flat .dead, .flat (.int .i64), .flat (.int .i64), .flat .dead, .flat .dead, .flat .dead, .flat .dead, .flat .dead, .flat .dead, .flat .dead, .flat .dead, .flat .dead, .flat .dead, .flat .dead, .flat .dead, .flat .dead, .flat .dead, .flat .dead, .flat .dead, .flat .dead, .flat .dead, .flat .dead, .flat .dead, .flat .dead, .flat .dead, .flat .dead, .flat .dead, .flat .dead, .flat .dead, .flat .dead, .flat .dead, .flat .dead, .flat .dead, .flat .dead, .flat .dead, .flat .dead, .flat .dead, .flat .dead, .flat .dead, .flat .dead, .flat .dead, .flat .dead, .flat .dead, .flat .dead, .flat .dead, .flat .dead, .flat .dead, .flat .dead, .flat .dead, .flat .dead, .flat .dead, .flat .dead, .flat .dead, .flat .dead, .flat .dead, .flat .dead, .flat .dead, .flat .dead, .flat .dead, .flat .dead, .flat .dead, .flat .dead, .flat .dead, .flat .dead, .flat .dead, .flat .dead, .flat .dead, .flat .dead, .flat .dead, .flat .dead, .flat .dead, .flat .dead, .flat .dead, .flat .dead, .flat .dead, .flat .dead, .flat .dead, .flat .dead, .flat .dead, .flat .dead, .flat .dead, .flat .dead, .flat .dead, .flat .dead, .flat .dead, .flat .dead, .flat .dead, .flat .dead, .flat .dead, .flat .dead, .flat .dead, .flat .dead, .flat .dead, .flat .dead, .flat .dead, .flat .dead, .flat .dead, .flat .dead, .flat .dead, .flat .dead, .flat .dead, .flat .dead, .flat .dead, .flat .dead, .flat .dead, .flat .dead, .flat .dead, .flat .dead, .flat .dead, .flat .dead, .flat .dead, .flat .dead, .flat .dead, .flat .dead, .flat .dead, .flat .dead, .flat .dead, .flat .dead, .flat .dead, .flat .dead, .flat .dead, .flat .dead, .flat .dead, .flat .dead, .flat .dead, .flat .dead, .flat .dead, .flat .dead, .flat .dead, .flat .dead, .flat .dead, .flat .dead, .flat .dead, .flat .dead, .flat .dead, .flat .dead]
def os_spec_l8Fault_0 : List (OP RT) := []
def conv_spec_l8Fault_0 (r : Raw den ps_spec_l8Fault_0 os_spec_l8Fault_0) : (Int × Int × Int × Int × (Sl S_impl_Entry) × Int × Int × (Sl Int) × (Sl Int) × (Sl Int) × Int) × (Int) := ((r.1.1.1, r.1.1.2.1, r.1.1.2.2.1, r.1.1.2.2.2.1, r.1.1.2.2.2.2.1, r.1.1.2.2.2.2.2.1, r.1.1.2.2.2.2.2.2.1, r.1.1.2.2.2.2.2.2.2.1, r.1.1.2.2.2.2.2.2.2.2.1, r.1.1.2.2.2.2.2.2.2.2.2.1, r.1.2.2.2.2.1), r.1.2.2.2.2.2.1)
def back_spec_l8Fault_0 (c : Int × Int × Int × Int × (Sl S_impl_Entry) × Int × Int × (Sl Int) × (Sl Int) × (Sl Int) × Int) (w : Int) : St RT den := ⟨[(.rptr [(.int .i64 c.1), (.int .i64 c.2.1), (.int .i64 c.2.2.1), (.int .i64 c.2.2.2.1), (.rs c.2.2.2.2.1.z .impl_Entry c.2.2.2.2.1.n c.2.2.2.2.1.f), (.int .i64 c.2.2.2.2.2.1), (.int .i64 c.2.2.2.2.2.2.1), (.rs c.2.2.2.2.2.2.2.1.z .i64 c.2.2.2.2.2.2.2.1.n c.2.2.2.2.2.2.2.1.f), (.rs c.2.2.2.2.2.2.2.2.1.z .i64 c.2.2.2.2.2.2.2.2.1.n c.2.2.2.2.2.2.2.2.1.f), (.rs c.2.2.2.2.2.2.2.2.2.1.z .i64 c.2.2.2.2.2.2.2.2.2.1.n c.2.2.2.2.2.2.2.2.2.1.f)]), .dead, .dead, .dead, (.int .i64 c.2.2.2.2.2.2.2.2.2.2), (.int .i64 w), .dead, .dead, .dead, .dead, .dead, .dead, .dead, .dead, .dead, .dead, .dead, .dead, .dead, .dead, .dead, .dead, .dead, .dead, .dead, .dead, .dead, .dead, .dead, .dead, .dead, .dead, .dead, .dead, .dead, .dead, .dead, .dead, .dead, .dead, .dead, .dead, .dead, .dead, .dead, .dead, .dead, .dead, .dead, .dead, .dead, .dead, .dead, .dead, .dead, .dead, .dead, .dead, .dead, .dead, .dead, .dead, .dead, .dead, .dead, .dead, .dead, .dead, .dead, .dead, .dead, .dead, .dead, .dead, .dead, .dead, .dead, .dead, .dead, .dead, .dead, .dead, .dead, .dead, .dead, .dead, .dead, .dead, .dead, .dead, .dead, .dead, .dead, .dead, .dead, .dead, .dead, .dead, .dead, .dead, .dead, .dead, .dead, .dead, .dead, .dead, .dead, .dead, .dead, .dead, .dead, .dead, .dead, .dead, .dead, .dead, .dead, .dead, .dead, .dead, .dead, .dead, .dead, .dead, .dead, .dead, .dead, .dead, .dead, .dead, .dead, .dead, .dead, .dead, .dead, .dead, .dead, .dead, .dead], []⟩
def Bk_spec_l8Fault_0 {ρ : Type} (fu : Nat) (c : Int × Int × Int × Int × (Sl S_impl_Entry) × Int × Int × (Sl Int) × (Sl Int) × (Sl Int) × Int) (k : Ex → St RT den → Option ρ) (w : Int) (go : (Int) → Option ρ) : Option ρ := F_spec_l8Fault_B0 fu c.1 c.2.1 c.2.2.1 c.2.2.2.1 c.2.2.2.2.1 c.2.2.2.2.2.1 c.2.2.2.2.2.2.1 c.2.2.2.2.2.2.2.1 c.2.2.2.2.2.2.2.2.1 c.2.2.2.2.2.2.2.2.2.1 c.2.2.2.2.2.2.2.2.2.2 (k .ret ⟨[(.rptr [(.int .i64 c.1), (.int .i64 c.2.1), (.int .i64 c.2.2.1), (.int .i64 c.2.2.2.1), (.rs c.2.2.2.2.1.z .impl_Entry c.2.2.2.2.1.n c.2.2.2.2.1.f), (.int .i64 c.2.2.2.2.2.1), (.int .i64 c.2.2.2.2.2.2.1), (.rs c.2.2.2.2.2.2.2.1.z .i64 c.2.2.2.2.2.2.2.1.n c.2.2.2.2.2.2.2.1.f), (.rs c.2.2.2.2.2.2.2.2.1.z .i64 c.2.2.2.2.2.2.2.2.1.n c.2.2.2.2.2.2.2.2.1.f), (.rs c.2.2.2.2.2.2.2.2.2.1.z .i64 c.2.2.2.2.2.2.2.2.2.1.n c.2.2.2.2.2.2.2.2.2.1.f)]), .dead, (.int .i64 3), .dead, .dead, .dead, .dead, .dead, .dead, .dead, .dead, .dead, .dead, .dead, .dead, .dead, .dead, .dead, .dead, .dead, .dead, .dead, .dead, .dead, .dead, .dead, .dead, .dead, .dead, .dead, .dead, .dead, .dead, .dead, .dead, .dead, .dead, .dead, .dead, .dead, .dead, .dead, .dead, .dead, .dead, .dead, .dead, .dead, .dead, .dead, .dead, .dead, .dead, .dead, .dead, .dead, .dead, .dead, .dead, .dead, .dead, .dead, .dead, .dead, .dead, .dead, .dead, .dead, .dead, .dead, .dead, .dead, .dead, .dead, .dead, .dead, .dead, .dead, .dead, .dead, .dead, .dead, .dead, .dead, .dead, .dead, .dead, .dead, .dead, .dead, .dead, .dead, .dead, .dead, .dead, .dead, .dead, .dead, .dead, .dead, .dead, .dead, .dead, .dead, .dead, .dead, .dead, .dead, .dead, .dead, .dead, .dead, .dead, .dead, .dead, .dead, .dead, .dead, .dead, .dead, .dead, .dead, .dead, .dead, .dead, .dead, .dead, .dead, .dead, .dead, .dead, .dead, .dead, .dead, .dead, .dead, .dead, .dead, .dead], []⟩) (k (.exit 0) ⟨[(.rptr [(.int .i64 c.1), (.int .i64 c.2.1), (.int .i64 c.2.2.1), (.int .i64 c.2.2.2.1), (.rs c.2.2.2.2.1.z .impl_Entry c.2.2.2.2.1.n c.2.2.2.2.1.f), (.int .i64 c.2.2.2.2.2.1), (.int .i64 c.2.2.2.2.2.2.1), (.rs c.2.2.2.2.2.2.2.1.z .i64 c.2.2.2.2.2.2.2.1.n c.2.2.2.2.2.2.2.1.f), (.rs c.2.2.2.2.2.2.2.2.1.z .i64 c.2.2.2.2.2.2.2.2.1.n c.2.2.2.2.2.2.2.2.1.f), (.rs c.2.2.2.2.2.2.2.2.2.1.z .i64 c.2.2.2.2.2.2.2.2.2.1.n c.2.2.2.2.2.2.2.2.2.1.f)]), .dead, .dead, .dead, .dead, .dead, .dead, .dead, .dead, .dead, .dead, .dead, .dead, .dead, .dead, .dead, .dead, .dead, .dead, .dead, .dead, .dead, .dead, .dead, .dead, .dead, .dead, .dead, .dead, .dead, .dead, .dead, .dead, .dead, .dead, .dead, .dead, .dead, .dead, .dead, .dead, .dead, .dead, .dead, .dead, .dead, .dead, .dead, .dead, .dead, .dead, .dead, .dead, .dead, .dead, .dead, .dead, .dead, .dead, .dead, .dead, .dead, .dead, .dead, .dead, .dead, .dead, .dead, .dead, .dead, .dead, .dead, .dead, .dead, .dead, .dead, .dead, .dead, .dead, .dead, .dead, .dead, .dead, .dead, .dead, .dead, .dead, .dead, .dead, .dead, .dead, .dead, .dead, .dead, .dead, .dead, .dead, .dead, .dead, .dead, .dead, .dead, .dead, .dead, .dead, .dead, .dead, .dead, .dead, .dead, .dead, .dead, .dead, .dead, .dead, .dead, .dead, .dead, .dead, .dead, .dead, .dead, .dead, .dead, .dead, .dead, .dead, .dead, .dead, .dead, .dead, .dead, .dead, .dead, .dead, .dead, .dead, .dead, .dead], []⟩) w go
def lp_spec_l8Fault (fu : Nat) : Lp RT den (Int) := fun b s k => match b with | 0 => handle ps_spec_l8Fault_0 os_spec_l8Fault_0 conv_spec_l8Fault_0 (Bk_spec_l8Fault_0 fu) fu s k | _ => none
theorem ev_spec_l8Fault (fu : Nat) (t_0 : S_impl_Node) : evFun E (pc_spec_l8Fault fu) msk_spec_l8Fault (lp_spec_l8Fault fu) out_i64 68 [(.rptr [(.int .i64 t_0.Id), (.int .i64 t_0.Peers), (.int .i64 t_0.Term), (.int .i64 t_0.Voted), (.rs t_0.Log.z .impl_Entry t_0.Log.n t_0.Log.f), (.int .i64 t_0.Role), (.int .i64 t_0.Commit), (.rs t_0.Votes.z .i64 t_0.Votes.n t_0.Votes.f), (.rs t_0.Next.z .i64 t_0.Next.n t_0.Next.f), (.rs t_0.Match.z .i64 t_0.Match.n t_0.Match.f)])] = F_spec_l8Fault fu t_0 := by kernel_rfl
noncomputable def body_spec_l8Fault : Code := Try.f68.body.getD .skip
noncomputable def lc_spec_l8Fault_0 : Code := ((loops 0 body_spec_l8Fault).getD 0 (0, .skip)).2
theorem round_spec_l8Fault_0 (fu : Nat) (it : St RT den → Option (Int)) (k : Ex → St RT den → Option (Int)) c w : evCode E (pc_spec_l8Fault fu) msk_spec_l8Fault (lp_spec_l8Fault fu) 0 lc_spec_l8Fault_0 (back_spec_l8Fault_0 c w) (after (msk_spec_l8Fault 0) (msk_spec_l8Fault 100000) 0 it k) = Bk_spec_l8Fault_0 fu c k w (fun w => it (back_spec_l8Fault_0 c w)) := by kernel_rfl
theorem lpok_spec_l8Fault_0 (fu : Nat) : ∀ s k r, lp_spec_l8Fault fu 0 s k = some r → ∃ fuel, iter (msk_spec_l8Fault 0) (msk_spec_l8Fault 100000) s.objs.length (evCode E (pc_spec_l8Fault fu) msk_spec_l8Fault (lp_spec_l8Fault fu) 0 lc_spec_l8Fault_0) fuel s k = some r :=
  handle_ok (ps := ps_spec_l8Fault_0) (os := os_spec_l8Fault_0) (conv := conv_spec_l8Fault_0) (B := Bk_spec_l8Fault_0 fu) (fu := fu) back_spec_l8Fault_0 (fun raw => by kernel_rfl) 0 (fun c w => by kernel_rfl) (round_spec_l8Fault_0 fu)
theorem lpok_spec_l8Fault (fu : Nat) : LpOk E (pc_spec_l8Fault fu) msk_spec_l8Fault (lp_spec_l8Fault fu) (loops 0 body_spec_l8Fault) := loop_all 1 (by kernel_rfl) fun i hi => match i, hi with
  | 0, _ => by
    have h : (loops 0 body_spec_l8Fault).getD 0 (0, .skip) = (0, lc_spec_l8Fault_0) := by kernel_rfl
    rw [h]; exact lpok_spec_l8Fault_0 fu
  | i + 1, hi => absurd hi (by omega)
def S_spec_l8Fault (fu : Nat) (xs : List (D RT den)) : Option (Out RT den) := match xs with | [.rptr (.int .i64 a0_1 :: .int .i64 a0_2 :: .int .i64 a0_3 :: .int .i64 a0_4 :: .rs za0_5 .impl_Entry na0_5 fa0_5 :: .int .i64 a0_6 :: .int .i64 a0_7 :: .rs za0_8 .i64 na0_8 fa0_8 :: .rs za0_9 .i64 na0_9 fa0_9 :: .rs za0_10 .i64 na0_10 fa0_10 :: ra0)] => some ⟨Int, F_spec_l8Fault fu (⟨a0_1, a0_2, a0_3, a0_4, (⟨za0_5, na0_5, fa0_5⟩ : (Sl S_impl_Entry)), a0_6, a0_7, (⟨za0_8, na0_8, fa0_8⟩ : (Sl Int)), (⟨za0_9, na0_9, fa0_9⟩ : (Sl Int)), (⟨za0_10, na0_10, fa0_10⟩ : (Sl Int))⟩ : S_impl_Node), enc_i64, fun _ => true⟩ | _ => none
theorem hpc_spec_l8Fault (fu : Nat) : ∀ f xs o, pcf_spec_l8Fault fu f xs = some o → ∀ y, o.x = some y → Good E Try.prog f xs (o.g y) := by
  intro f xs o h
  unfold pcf_spec_l8Fault at h
  split at h
  · exact good_spec_LogFault fu xs o h
  · exact good_spec_l1In fu xs o h
  · exact good_spec_l8Id fu xs o h
  · exact good_spec_LastOf fu xs o h
  · exact good_spec_l8Lists fu xs o h
  · cases h
theorem hpx_spec_l8Fault (fu : Nat) : ∀ f xs ins o, pcx_spec_l8Fault fu f xs ins = some o → ∀ y, o.x = some y → GoodX E Try.prog f xs ins (o.g y).1 (o.g y).2 := by
  intro f xs ins o h
  cases h
theorem goodv_spec_l8Fault (fu : Nat) (t_0 : S_impl_Node) (y : Int) (hy : F_spec_l8Fault fu t_0 = some y) : Good E Try.prog 68 [(.rptr [(.int .i64 t_0.Id), (.int .i64 t_0.Peers), (.int .i64 t_0.Term), (.int .i64 t_0.Voted), (.rs t_0.Log.z .impl_Entry t_0.Log.n t_0.Log.f), (.int .i64 t_0.Role), (.int .i64 t_0.Commit), (.rs t_0.Votes.z .i64 t_0.Votes.n t_0.Votes.f), (.rs t_0.Next.z .i64 t_0.Next.n t_0.Next.f), (.rs t_0.Match.z .i64 t_0.Match.n t_0.Match.f)])] (enc_i64 y) :=
  fun_good E_ok (pc_good (pc := pc_spec_l8Fault fu) (hpc_spec_l8Fault fu) (hpx_spec_l8Fault fu)) (fn := Try.f68) (c := body_spec_l8Fault) (out := out_i64) (y := y) (by kernel_rfl) (by kernel_rfl) (by kernel_rfl) (lpok_spec_l8Fault fu) (fun d hd => out_i64_enc d _ hd) ((ev_spec_l8Fault fu t_0).trans hy)
theorem good_spec_l8Fault (fu : Nat) : ∀ xs o, S_spec_l8Fault fu xs = some o → ∀ y, o.x = some y → Good E Try.prog 68 xs (o.g y) := by
  intro xs o h y hy
  unfold S_spec_l8Fault at h
  split at h
  · rename_i a0_1 a0_2 a0_3 a0_4 za0_5 na0_5 fa0_5 a0_6 a0_7 za0_8 na0_8 fa0_8 za0_9 na0_9 fa0_9 za0_10 na0_10 fa0_10 ra0
    cases h
    exact (goodv_spec_l8Fault fu (⟨a0_1, a0_2, a0_3, a0_4, (⟨za0_5, na0_5, fa0_5⟩ : (Sl S_impl_Entry)), a0_6, a0_7, (⟨za0_8, na0_8, fa0_8⟩ : (Sl Int)), (⟨za0_9, na0_9, fa0_9⟩ : (Sl Int)), (⟨za0_10, na0_10, fa0_10⟩ : (Sl Int))⟩ : S_impl_Node) y hy).sub ⟨Sub.of_eq ra0 rfl, trivial⟩
  · cases h

/-! spec.CrashNode -/
def F_spec_CrashNode_H (fu : Nat) (n_0 : S_impl_Node) : Option (S_impl_NodeResult) :=
  ((F_spec_l8Fault fu n_0).bind fun y239 => (bif (y239 != 0) then ((F_spec_l8Bad_H fu y239).bind fun y240 => (some (⟨y240.Code, (⟨y240.Node.Id, y240.Node.Peers, y240.Node.Term,
    y240.Node.Voted, (⟨none, y240.Node.Log.n, y240.Node.Log.f⟩ : (Sl S_impl_Entry)), y240.Node.Role, y240.Node.Commit, (⟨none, y240.Node.Votes.n, y240.Node.Votes.f⟩ : (Sl Int)),
    (⟨none, y240.Node.Next.n, y240.Node.Next.f⟩ : (Sl Int)), (⟨none, y240.Node.Match.n, y240.Node.Match.f⟩ : (Sl Int))⟩ : S_impl_Node), (⟨(some true), 0, (fun _ => dflt .impl_Mail)⟩ : (Sl S_impl_Mail))⟩ : S_impl_NodeResult))) else
    ((F_spec_l7Copy_H fu n_0.Log).bind fun y241 => (some (⟨0, (⟨n_0.Id, n_0.Peers, n_0.Term, n_0.Voted, (⟨none, y241.n, y241.f⟩ : (Sl S_impl_Entry)), 0, 0, (⟨(some true), 0, (fun _ =>
    dflt .i64)⟩ : (Sl Int)), (⟨(some true), 0, (fun _ => dflt .i64)⟩ : (Sl Int)), (⟨(some true), 0, (fun _ => dflt .i64)⟩ : (Sl Int))⟩ : S_impl_Node), (⟨(some true), 0, (fun _ =>
    dflt .impl_Mail)⟩ : (Sl S_impl_Mail))⟩ : S_impl_NodeResult)))))
def pcf_spec_CrashNode_H (fu : Nat) (f : Nat) (xs : List (D RT den)) : Option (Out RT den) := match f with | 68 => S_spec_l8Fault fu xs | _ => none
def pcx_spec_CrashNode_H (fu : Nat) (f : Nat) (xs : List (D RT den)) (ins : List (Ob RT den)) : Option (OutX RT den) := match f with | 54 => S_spec_l7Copy_H fu xs ins | 61 => S_spec_l8Bad_H fu xs ins | _ => none
def pc_spec_CrashNode_H (fu : Nat) : Pc RT den := ⟨pcf_spec_CrashNode_H fu, fun f => match f with | 54 => true | 61 => true | _ => false, fun _ => false, pcx_spec_CrashNode_H fu⟩
def msk_spec_CrashNode_H (b : Nat) : List Nat := []
def lp_spec_CrashNode_H (fu : Nat) : Lp RT den (S_impl_NodeResult) := fun b s k => none
theorem ev_spec_CrashNode_H (fu : Nat) (n_0 : S_impl_Node) : evFunX E (pc_spec_CrashNode_H fu) msk_spec_CrashNode_H (lp_spec_CrashNode_H fu) out_impl_NodeResult_H 31 [(.agg [(.int .i64 n_0.Id), (.int .i64 n_0.Peers), (.int .i64 n_0.Term), (.int .i64 n_0.Voted), (.rs n_0.Log.z .impl_Entry n_0.Log.n n_0.Log.f), (.int .i64 n_0.Role), (.int .i64 n_0.Commit), (.rs n_0.Votes.z .i64 n_0.Votes.n n_0.Votes.f), (.rs n_0.Next.z .i64 n_0.Next.n n_0.Next.f), (.rs n_0.Match.z .i64 n_0.Match.n n_0.Match.f)])] [] = F_spec_CrashNode_H fu n_0 := by kernel_rfl
noncomputable def body_spec_CrashNode_H : Code := Try.f31.body.getD .skip
theorem lpok_spec_CrashNode_H (fu : Nat) : LpOk E (pc_spec_CrashNode_H fu) msk_spec_CrashNode_H (lp_spec_CrashNode_H fu) (loops 0 body_spec_CrashNode_H) := by
  have h : loops 0 body_spec_CrashNode_H = [] := by kernel_rfl
  rw [h]; intro p hp; cases hp
def S_spec_CrashNode_H (fu : Nat) (xs : List (D RT den)) (ins : List (Ob RT den)) : Option (OutX RT den) := match xs, ins with | [.agg [.int .i64 a0_1, .int .i64 a0_2, .int .i64 a0_3, .int .i64 a0_4, .rs za0_5 .impl_Entry na0_5 fa0_5, .int .i64 a0_6, .int .i64 a0_7, .rs za0_8 .i64 na0_8 fa0_8, .rs za0_9 .i64 na0_9 fa0_9, .rs za0_10 .i64 na0_10 fa0_10]], [] => some ⟨S_impl_NodeResult, F_spec_CrashNode_H fu (⟨a0_1, a0_2, a0_3, a0_4, (⟨za0_5, na0_5, fa0_5⟩ : (Sl S_impl_Entry)), a0_6, a0_7, (⟨za0_8, na0_8, fa0_8⟩ : (Sl Int)), (⟨za0_9, na0_9, fa0_9⟩ : (Sl Int)), (⟨za0_10, na0_10, fa0_10⟩ : (Sl Int))⟩ : S_impl_Node), enc_impl_NodeResult_H⟩ | _, _ => none
theorem hpc_spec_CrashNode_H (fu : Nat) : ∀ f xs o, pcf_spec_CrashNode_H fu f xs = some o → ∀ y, o.x = some y → Good E Try.prog f xs (o.g y) := by
  intro f xs o h
  unfold pcf_spec_CrashNode_H at h
  split at h
  · exact good_spec_l8Fault fu xs o h
  · cases h
theorem hpx_spec_CrashNode_H (fu : Nat) : ∀ f xs ins o, pcx_spec_CrashNode_H fu f xs ins = some o → ∀ y, o.x = some y → GoodX E Try.prog f xs ins (o.g y).1 (o.g y).2 := by
  intro f xs ins o h
  unfold pcx_spec_CrashNode_H at h
  split at h
  · exact good_spec_l7Copy_H fu xs ins o h
  · exact good_spec_l8Bad_H fu xs ins o h
  · cases h
theorem goodv_spec_CrashNode_H (fu : Nat) (n_0 : S_impl_Node) (y : S_impl_NodeResult) (hy : F_spec_CrashNode_H fu n_0 = some y) : GoodX E Try.prog 31 [(.agg [(.int .i64 n_0.Id), (.int .i64 n_0.Peers), (.int .i64 n_0.Term), (.int .i64 n_0.Voted), (.rs n_0.Log.z .impl_Entry n_0.Log.n n_0.Log.f), (.int .i64 n_0.Role), (.int .i64 n_0.Commit), (.rs n_0.Votes.z .i64 n_0.Votes.n n_0.Votes.f), (.rs n_0.Next.z .i64 n_0.Next.n n_0.Next.f), (.rs n_0.Match.z .i64 n_0.Match.n n_0.Match.f)])] [] (enc_impl_NodeResult_H y).1 (enc_impl_NodeResult_H y).2 :=
  funX_good E_ok (pc_good (pc := pc_spec_CrashNode_H fu) (hpc_spec_CrashNode_H fu) (hpx_spec_CrashNode_H fu)) (fn := Try.f31) (c := body_spec_CrashNode_H) (out := out_impl_NodeResult_H) (y := y) (by kernel_rfl) (by kernel_rfl) (by kernel_rfl) (lpok_spec_CrashNode_H fu) (by kernel_rfl) (Nat.zero_le _) (fun d os hd => out_impl_NodeResult_H_enc d os _ hd) ((ev_spec_CrashNode_H fu n_0).trans hy)
theorem good_spec_CrashNode_H (fu : Nat) : ∀ xs ins o, S_spec_CrashNode_H fu xs ins = some o → ∀ y, o.x = some y → GoodX E Try.prog 31 xs ins (o.g y).1 (o.g y).2 := by
  intro xs ins o h y hy
  unfold S_spec_CrashNode_H at h
  split at h
  · rename_i a0_1 a0_2 a0_3 a0_4 za0_5 na0_5 fa0_5 a0_6 a0_7 za0_8 na0_8 fa0_8 za0_9 na0_9 fa0_9 za0_10 na0_10 fa0_10
    cases h
    exact goodv_spec_CrashNode_H fu (⟨a0_1, a0_2, a0_3, a0_4, (⟨za0_5, na0_5, fa0_5⟩ : (Sl S_impl_Entry)), a0_6, a0_7, (⟨za0_8, na0_8, fa0_8⟩ : (Sl Int)), (⟨za0_9, na0_9, fa0_9⟩ : (Sl Int)), (⟨za0_10, na0_10, fa0_10⟩ : (Sl Int))⟩ : S_impl_Node) y hy
  · cases h

/-! (*impl.Node).isId -/
def F_impl_Node_isId (fu : Nat) (n_0 : S_impl_Node) (id_1 : Int) : Option (Bool) :=
  ((F_impl_in fu id_1 0 (IntKind.wrap .i64 (n_0.Peers - 1))).bind fun y292 => (some y292))
def pcf_impl_Node_isId (fu : Nat) (f : Nat) (xs : List (D RT den)) : Option (Out RT den) := match f with | 62 => S_impl_in fu xs | _ => none
def pcx_impl_Node_isId (fu : Nat) (f : Nat) (xs : List (D RT den)) (ins : List (Ob RT den)) : Option (OutX RT den) := none
def pc_impl_Node_isId (fu : Nat) : Pc RT den := ⟨pcf_impl_Node_isId fu, fun _ => false, fun _ => false, pcx_impl_Node_isId fu⟩
def msk_impl_Node_isId (b : Nat) : List Nat := []
def lp_impl_Node_isId (fu : Nat) : Lp RT den (Bool) := fun b s k => none
theorem ev_impl_Node_isId (fu : Nat) (n_0 : S_impl_Node) (id_1 : Int) : evFun E (pc_impl_Node_isId fu) msk_impl_Node_isId (lp_impl_Node_isId fu) out_bo 92 [(.rptr [(.int .i64 n_0.Id), (.int .i64 n_0.Peers), (.int .i64 n_0.Term), (.int .i64 n_0.Voted), (.rs n_0.Log.z .impl_Entry n_0.Log.n n_0.Log.f), (.int .i64 n_0.Role), (.int .i64 n_0.Commit), (.rs n_0.Votes.z .i64 n_0.Votes.n n_0.Votes.f), (.rs n_0.Next.z .i64 n_0.Next.n n_0.Next.f), (.rs n_0.Match.z .i64 n_0.Match.n n_0.Match.f)]), (.int .i64 id_1)] = F_impl_Node_isId fu n_0 id_1 := by kernel_rfl
noncomputable def body_impl_Node_isId : Code := Try.f92.body.getD .skip
theorem lpok_impl_Node_isId (fu : Nat) : LpOk E (pc_impl_Node_isId fu) msk_impl_Node_isId (lp_impl_Node_isId fu) (loops 0 body_impl_Node_isId) := by
  have h : loops 0 body_impl_Node_isId = [] := by kernel_rfl
  rw [h]; intro p hp; cases hp
def S_impl_Node_isId (fu : Nat) (xs : List (D RT den)) : Option (Out RT den) := match xs with | [.rptr (.int .i64 a0_1 :: .int .i64 a0_2 :: .int .i64 a0_3 :: .int .i64 a0_4 :: .rs za0_5 .impl_Entry na0_5 fa0_5 :: .int .i64 a0_6 :: .int .i64 a0_7 :: .rs za0_8 .i64 na0_8 fa0_8 :: .rs za0_9 .i64 na0_9 fa0_9 :: .rs za0_10 .i64 na0_10 fa0_10 :: ra0), .int .i64 a1_0] => some ⟨Bool, F_impl_Node_isId fu (⟨a0_1, a0_2, a0_3, a0_4, (⟨za0_5, na0_5, fa0_5⟩ : (Sl S_impl_Entry)), a0_6, a0_7, (⟨za0_8, na0_8, fa0_8⟩ : (Sl Int)), (⟨za0_9, na0_9, fa0_9⟩ : (Sl Int)), (⟨za0_10, na0_10, fa0_10⟩ : (Sl Int))⟩ : S_impl_Node) a1_0, enc_bo, fun _ => true⟩ | _ => none
theorem hpc_impl_Node_isId (fu : Nat) : ∀ f xs o, pcf_impl_Node_isId fu f xs = some o → ∀ y, o.x = some y → Good E Try.prog f xs (o.g y) := by
  intro f xs o h
  unfold pcf_impl_Node_isId at h
  split at h
  · exact good_impl_in fu xs o h
  · cases h
theorem hpx_impl_Node_isId (fu : Nat) : ∀ f xs ins o, pcx_impl_Node_isId fu f xs ins = some o → ∀ y, o.x = some y → GoodX E Try.prog f xs ins (o.g y).1 (o.g y).2 := by
  intro f xs ins o h
  cases h
theorem goodv_impl_Node_isId (fu : Nat) (n_0 : S_impl_Node) (id_1 : Int) (y : Bool) (hy : F_impl_Node_isId fu n_0 id_1 = some y) : Good E Try.prog 92 [(.rptr [(.int .i64 n_0.Id), (.int .i64 n_0.Peers), (.int .i64 n_0.Term), (.int .i64 n_0.Voted), (.rs n_0.Log.z .impl_Entry n_0.Log.n n_0.Log.f), (.int .i64 n_0.Role), (.int .i64 n_0.Commit), (.rs n_0.Votes.z .i64 n_0.Votes.n n_0.Votes.f), (.rs n_0.Next.z .i64 n_0.Next.n n_0.Next.f), (.rs n_0.Match.z .i64 n_0.Match.n n_0.Match.f)]), (.int .i64 id_1)] (enc_bo y) :=
  fun_good E_ok (pc_good (pc := pc_impl_Node_isId fu) (hpc_impl_Node_isId fu) (hpx_impl_Node_isId fu)) (fn := Try.f92) (c := body_impl_Node_isId) (out := out_bo) (y := y) (by kernel_rfl) (by kernel_rfl) (by kernel_rfl) (lpok_impl_Node_isId fu) (fun d hd => out_bo_enc d _ hd) ((ev_impl_Node_isId fu n_0 id_1).trans hy)
theorem good_impl_Node_isId (fu : Nat) : ∀ xs o, S_impl_Node_isId fu xs = some o → ∀ y, o.x = some y → Good E Try.prog 92 xs (o.g y) := by
  intro xs o h y hy
  unfold S_impl_Node_isId at h
  split at h
  · rename_i a0_1 a0_2 a0_3 a0_4 za0_5 na0_5 fa0_5 a0_6 a0_7 za0_8 na0_8 fa0_8 za0_9 na0_9 fa0_9 za0_10 na0_10 fa0_10 ra0 a1_0
    cases h
    exact (goodv_impl_Node_isId fu (⟨a0_1, a0_2, a0_3, a0_4, (⟨za0_5, na0_5, fa0_5⟩ : (Sl S_impl_Entry)), a0_6, a0_7, (⟨za0_8, na0_8, fa0_8⟩ : (Sl Int)), (⟨za0_9, na0_9, fa0_9⟩ : (Sl Int)), (⟨za0_10, na0_10, fa0_10⟩ : (Sl Int))⟩ : S_impl_Node) a1_0 y hy).sub ⟨Sub.of_eq ra0 rfl, .refl _, trivial⟩
  · cases h

/-! impl.last -/
def F_impl_last (fu : Nat) (log_0 : (Sl S_impl_Entry)) : Option (S_impl_Entry) :=
  (bif (((log_0.n : Nat) : Int) == 0) then (some (⟨0, 0, 0, (⟨0, 0, 0, 0, 0, 0⟩ : S_impl_Cmd)⟩ : S_impl_Entry)) else ((bif (decide (0 ≤ (IntKind.wrap .i64 (((log_0.n : Nat) : Int) - 1))) &&
    decide ((Int.toNat (IntKind.wrap .i64 (((log_0.n : Nat) : Int) - 1))) < log_0.n)) then some () else none : Option Unit).bind fun _ => (some (log_0.f (Int.toNat (IntKind.wrap .i64 (((log_0.n : Nat) : Int) - 1)))))))
def pcf_impl_last (fu : Nat) (f : Nat) (xs : List (D RT den)) : Option (Out RT den) := none
def pcx_impl_last (fu : Nat) (f : Nat) (xs : List (D RT den)) (ins : List (Ob RT den)) : Option (OutX RT den) := none
def pc_impl_last (fu : Nat) : Pc RT den := ⟨pcf_impl_last fu, fun _ => false, fun _ => false, pcx_impl_last fu⟩
def msk_impl_last (b : Nat) : List Nat := []
def lp_impl_last (fu : Nat) : Lp RT den (S_impl_Entry) := fun b s k => none
theorem ev_impl_last (fu : Nat) (log_0 : (Sl S_impl_Entry)) : evFun E (pc_impl_last fu) msk_impl_last (lp_impl_last fu) out_impl_Entry 60 [(.rs log_0.z .impl_Entry log_0.n log_0.f)] = F_impl_last fu log_0 := by kernel_rfl
noncomputable def body_impl_last : Code := Try.f60.body.getD .skip
theorem lpok_impl_last (fu : Nat) : LpOk E (pc_impl_last fu) msk_impl_last (lp_impl_last fu) (loops 0 body_impl_last) := by
  have h : loops 0 body_impl_last = [] := by kernel_rfl
  rw [h]; intro p hp; cases hp
def S_impl_last (fu : Nat) (xs : List (D RT den)) : Option (Out RT den) := match xs with | [.rs za0_0 .impl_Entry na0_0 fa0_0] => some ⟨S_impl_Entry, F_impl_last fu (⟨za0_0, na0_0, fa0_0⟩ : (Sl S_impl_Entry)), enc_impl_Entry, fun _ => true⟩ | _ => none
theorem hpc_impl_last (fu : Nat) : ∀ f xs o, pcf_impl_last fu f xs = some o → ∀ y, o.x = some y → Good E Try.prog f xs (o.g y) := by
  intro f xs o h
  cases h
theorem hpx_impl_last (fu : Nat) : ∀ f xs ins o, pcx_impl_last fu f xs ins = some o → ∀ y, o.x = some y → GoodX E Try.prog f xs ins (o.g y).1 (o.g y).2 := by
  intro f xs ins o h
  cases h
theorem goodv_impl_last (fu : Nat) (log_0 : (Sl S_impl_Entry)) (y : S_impl_Entry) (hy : F_impl_last fu log_0 = some y) : Good E Try.prog 60 [(.rs log_0.z .impl_Entry log_0.n log_0.f)] (enc_impl_Entry y) :=
  fun_good E_ok (pc_good (pc := pc_impl_last fu) (hpc_impl_last fu) (hpx_impl_last fu)) (fn := Try.f60) (c := body_impl_last) (out := out_impl_Entry) (y := y) (by kernel_rfl) (by kernel_rfl) (by kernel_rfl) (lpok_impl_last fu) (fun d hd => out_impl_Entry_enc d _ hd) ((ev_impl_last fu log_0).trans hy)
theorem good_impl_last (fu : Nat) : ∀ xs o, S_impl_last fu xs = some o → ∀ y, o.x = some y → Good E Try.prog 60 xs (o.g y) := by
  intro xs o h y hy
  unfold S_impl_last at h
  split at h
  · rename_i za0_0 na0_0 fa0_0
    cases h
    exact goodv_impl_last fu (⟨za0_0, na0_0, fa0_0⟩ : (Sl S_impl_Entry)) y hy
  · cases h

/-! impl.size[int64] -/
def F_impl_size_int64 (fu : Nat) (list_0 : (Sl Int)) : Option (Int) :=
  (some ((list_0.n : Nat) : Int))
def pcf_impl_size_int64 (fu : Nat) (f : Nat) (xs : List (D RT den)) : Option (Out RT den) := none
def pcx_impl_size_int64 (fu : Nat) (f : Nat) (xs : List (D RT den)) (ins : List (Ob RT den)) : Option (OutX RT den) := none
def pc_impl_size_int64 (fu : Nat) : Pc RT den := ⟨pcf_impl_size_int64 fu, fun _ => false, fun _ => false, pcx_impl_size_int64 fu⟩
def msk_impl_size_int64 (b : Nat) : List Nat := []
def lp_impl_size_int64 (fu : Nat) : Lp RT den (Int) := fun b s k => none
theorem ev_impl_size_int64 (fu : Nat) (list_0 : (Sl Int)) : evFun E (pc_impl_size_int64 fu) msk_impl_size_int64 (lp_impl_size_int64 fu) out_i64 93 [(.rs list_0.z .i64 list_0.n list_0.f)] = F_impl_size_int64 fu list_0 := by kernel_rfl
noncomputable def body_impl_size_int64 : Code := Try.f93.body.getD .skip
theorem lpok_impl_size_int64 (fu : Nat) : LpOk E (pc_impl_size_int64 fu) msk_impl_size_int64 (lp_impl_size_int64 fu) (loops 0 body_impl_size_int64) := by
  have h : loops 0 body_impl_size_int64 = [] := by kernel_rfl
  rw [h]; intro p hp; cases hp
def S_impl_size_int64 (fu : Nat) (xs : List (D RT den)) : Option (Out RT den) := match xs with | [.rs za0_0 .i64 na0_0 fa0_0] => some ⟨Int, F_impl_size_int64 fu (⟨za0_0, na0_0, fa0_0⟩ : (Sl Int)), enc_i64, fun _ => true⟩ | _ => none
theorem hpc_impl_size_int64 (fu : Nat) : ∀ f xs o, pcf_impl_size_int64 fu f xs = some o → ∀ y, o.x = some y → Good E Try.prog f xs (o.g y) := by
  intro f xs o h
  cases h
theorem hpx_impl_size_int64 (fu : Nat) : ∀ f xs ins o, pcx_impl_size_int64 fu f xs ins = some o → ∀ y, o.x = some y → GoodX E Try.prog f xs ins (o.g y).1 (o.g y).2 := by
  intro f xs ins o h
  cases h
theorem goodv_impl_size_int64 (fu : Nat) (list_0 : (Sl Int)) (y : Int) (hy : F_impl_size_int64 fu list_0 = some y) : Good E Try.prog 93 [(.rs list_0.z .i64 list_0.n list_0.f)] (enc_i64 y) :=
  fun_good E_ok (pc_good (pc := pc_impl_size_int64 fu) (hpc_impl_size_int64 fu) (hpx_impl_size_int64 fu)) (fn := Try.f93) (c := body_impl_size_int64) (out := out_i64) (y := y) (by kernel_rfl) (by kernel_rfl) (by kernel_rfl) (lpok_impl_size_int64 fu) (fun d hd => out_i64_enc d _ hd) ((ev_impl_size_int64 fu list_0).trans hy)
theorem good_impl_size_int64 (fu : Nat) : ∀ xs o, S_impl_size_int64 fu xs = some o → ∀ y, o.x = some y → Good E Try.prog 93 xs (o.g y) := by
  intro xs o h y hy
  unfold S_impl_size_int64 at h
  split at h
  · rename_i za0_0 na0_0 fa0_0
    cases h
    exact goodv_impl_size_int64 fu (⟨za0_0, na0_0, fa0_0⟩ : (Sl Int)) y hy
  · cases h

/-! impl.NodeFault'1 -/
def F_impl_NodeFault_c1 (fu : Nat) (k_0 : Int) (x_1_1 : Int) : Option (Bool) :=
  ((F_impl_in fu k_0 1 (IntKind.wrap .i64 (x_1_1 + 1))).bind fun y296 => (some (!y296)))
def pcf_impl_NodeFault_c1 (fu : Nat) (f : Nat) (xs : List (D RT den)) : Option (Out RT den) := match f with | 62 => S_impl_in fu xs | _ => none
def pcx_impl_NodeFault_c1 (fu : Nat) (f : Nat) (xs : List (D RT den)) (ins : List (Ob RT den)) : Option (OutX RT den) := none
def pc_impl_NodeFault_c1 (fu : Nat) : Pc RT den := ⟨pcf_impl_NodeFault_c1 fu, fun _ => false, fun _ => false, pcx_impl_NodeFault_c1 fu⟩
def msk_impl_NodeFault_c1 (b : Nat) : List Nat := []
def lp_impl_NodeFault_c1 (fu : Nat) : Lp RT den (Bool) := fun b s k => none
theorem ev_impl_NodeFault_c1 (fu : Nat) (k_0 : Int) (x_1_1 : Int) : evFun E (pc_impl_NodeFault_c1 fu) msk_impl_NodeFault_c1 (lp_impl_NodeFault_c1 fu) out_bo 95 [(.int .i64 k_0), (.rptr [(.int .i64 x_1_1)])] = F_impl_NodeFault_c1 fu k_0 x_1_1 := by kernel_rfl
noncomputable def body_impl_NodeFault_c1 : Code := Try.f95.body.getD .skip
theorem lpok_impl_NodeFault_c1 (fu : Nat) : LpOk E (pc_impl_NodeFault_c1 fu) msk_impl_NodeFault_c1 (lp_impl_NodeFault_c1 fu) (loops 0 body_impl_NodeFault_c1) := by
  have h : loops 0 body_impl_NodeFault_c1 = [] := by kernel_rfl
  rw [h]; intro p hp; cases hp
def S_impl_NodeFault_c1 (fu : Nat) (xs : List (D RT den)) : Option (Out RT den) := match xs with | [.int .i64 a0_0, .rptr [.int .i64 a1_0]] => some ⟨Bool, F_impl_NodeFault_c1 fu a0_0 a1_0, enc_bo, fun _ => true⟩ | _ => none
theorem hpc_impl_NodeFault_c1 (fu : Nat) : ∀ f xs o, pcf_impl_NodeFault_c1 fu f xs = some o → ∀ y, o.x = some y → Good E Try.prog f xs (o.g y) := by
  intro f xs o h
  unfold pcf_impl_NodeFault_c1 at h
  split at h
  · exact good_impl_in fu xs o h
  · cases h
theorem hpx_impl_NodeFault_c1 (fu : Nat) : ∀ f xs ins o, pcx_impl_NodeFault_c1 fu f xs ins = some o → ∀ y, o.x = some y → GoodX E Try.prog f xs ins (o.g y).1 (o.g y).2 := by
  intro f xs ins o h
  cases h
theorem goodv_impl_NodeFault_c1 (fu : Nat) (k_0 : Int) (x_1_1 : Int) (y : Bool) (hy : F_impl_NodeFault_c1 fu k_0 x_1_1 = some y) : Good E Try.prog 95 [(.int .i64 k_0), (.rptr [(.int .i64 x_1_1)])] (enc_bo y) :=
  fun_good E_ok (pc_good (pc := pc_impl_NodeFault_c1 fu) (hpc_impl_NodeFault_c1 fu) (hpx_impl_NodeFault_c1 fu)) (fn := Try.f95) (c := body_impl_NodeFault_c1) (out := out_bo) (y := y) (by kernel_rfl) (by kernel_rfl) (by kernel_rfl) (lpok_impl_NodeFault_c1 fu) (fun d hd => out_bo_enc d _ hd) ((ev_impl_NodeFault_c1 fu k_0 x_1_1).trans hy)
theorem good_impl_NodeFault_c1 (fu : Nat) : ∀ xs o, S_impl_NodeFault_c1 fu xs = some o → ∀ y, o.x = some y → Good E Try.prog 95 xs (o.g y) := by
  intro xs o h y hy
  unfold S_impl_NodeFault_c1 at h
  split at h
  · rename_i a0_0 a1_0
    cases h
    exact goodv_impl_NodeFault_c1 fu a0_0 a1_0 y hy
  · cases h

/-! slices.IndexFunc[[]int64,int64] -/
def F_slices_IndexFunc_int64_int64_w_impl_NodeFault_c1_B0 {ρ : Type} (fu : Nat) (s0_0 : (Sl Int)) (f1_1 : Int) (t7_2 : Int) (k0 : Int → Option ρ) (k1 : Option ρ) (t8_3 : Int) (go : Int → Option ρ) : Option ρ :=
  (bif (decide (t8_3 < t7_2)) then ((bif (decide (0 ≤ t8_3) && decide ((Int.toNat t8_3) < s0_0.n)) then some () else none : Option Unit).bind fun _ => ((F_impl_NodeFault_c1 fu (s0_0.f (Int.toNat t8_3)) f1_1).bind fun y294 =>
    (bif y294 then (k0 t8_3) else (go (IntKind.wrap .i64 (t8_3 + 1)))))) else k1)
def F_slices_IndexFunc_int64_int64_w_impl_NodeFault_c1 (fu : Nat) (s_0 : (Sl Int)) (f_1_1 : Int) : Option (Int) :=
  (L (fun w0 go0 => F_slices_IndexFunc_int64_int64_w_impl_NodeFault_c1_B0 fu s_0 f_1_1 ((s_0.n : Nat) : Int) (fun z295 => (some z295)) (some (-1)) w0 go0) fu (0 : Int))
def pcf_slices_IndexFunc_int64_int64_w_impl_NodeFault_c1 (fu : Nat) (f : Nat) (xs : List (D RT den)) : Option (Out RT den) := match f with | 95 => S_impl_NodeFault_c1 fu xs | _ => none
def pcx_slices_IndexFunc_int64_int64_w_impl_NodeFault_c1 (fu : Nat) (f : Nat) (xs : List (D RT den)) (ins : List (Ob RT den)) : Option (OutX RT den) := none
def pc_slices_IndexFunc_int64_int64_w_impl_NodeFault_c1 (fu : Nat) : Pc RT den := ⟨pcf_slices_IndexFunc_int64_int64_w_impl_NodeFault_c1 fu, fun _ => false, fun _ => false, pcx_slices_IndexFunc_int64_int64_w_impl_NodeFault_c1 fu⟩
def msk_slices_IndexFunc_int64_int64_w_impl_NodeFault_c1 (b : Nat) : List Nat := match b with | 0 => [2, 3, 4, 5, 6, 9, 10, 11, 12, 13, 14, 15, 16, 17, 18] | 100000 => [0, 1, 2, 3, 5, 6, 7, 8, 9, 10, 11, 12, 13, 14, 15, 16, 17, 18] | _ => []
def ps_slices_IndexFunc_int64_int64_w_impl_NodeFault_c1_0 : List (Pat RT) := [.flat (.rs .i64), .fn 95 [.rptr [(.int .i64)]], .flat .dead, .flat .dead, .flat .dead, .flat .dead, .flat .dead, .flat (.int .i64), .flat (.int .i64), .flat .dead, .flat .dead, .flat .dead, .flat .dead, .flat .dead, .flat .dead, .flat .dead, .flat .dead, .flat .dead, .flat .dead]
def os_slices_IndexFunc_int64_int64_w_impl_NodeFault_c1_0 : List (OP RT) := []
def conv_slices_IndexFunc_int64_int64_w_impl_NodeFault_c1_0 (r : Raw den ps_slices_IndexFunc_int64_int64_w_impl_NodeFault_c1_0 os_slices_IndexFunc_int64_int64_w_impl_NodeFault_c1_0) : ((Sl Int) × Int × Int) × (Int) := ((r.1.1, r.1.2.1.1.1, r.1.2.2.2.2.2.2.2.1), r.1.2.2.2.2.2.2.2.2.1)
def back_slices_IndexFunc_int64_int64_w_impl_NodeFault_c1_0 (c : (Sl Int) × Int × Int) (w : Int) : St RT den := ⟨[(.rs c.1.z .i64 c.1.n c.1.f), (.fn 95 [(.rptr [(.int .i64 c.2.1)])]), .dead, .dead, .dead, .dead, .dead, (.int .i64 c.2.2), (.int .i64 w), .dead, .dead, .dead, .dead, .dead, .dead, .dead, .dead, .dead, .dead], []⟩
def Bk_slices_IndexFunc_int64_int64_w_impl_NodeFault_c1_0 {ρ : Type} (fu : Nat) (c : (Sl Int) × Int × Int) (k : Ex → St RT den → Option ρ) (w : Int) (go : (Int) → Option ρ) : Option ρ := F_slices_IndexFunc_int64_int64_w_impl_NodeFault_c1_B0 fu c.1 c.2.1 c.2.2 (fun a0 => k .ret ⟨[.dead, .dead, .dead, .dead, (.int .i64 a0), .dead, .dead, .dead, .dead, .dead, .dead, .dead, .dead, .dead, .dead, .dead, .dead, .dead, .dead], []⟩) (k (.exit 0) ⟨[.dead, .dead, .dead, .dead, .dead, .dead, .dead, .dead, .dead, .dead, .dead, .dead, .dead, .dead, .dead, .dead, .dead, .dead, .dead], []⟩) w go
def lp_slices_IndexFunc_int64_int64_w_impl_NodeFault_c1 (fu : Nat) : Lp RT den (Int) := fun b s k => match b with | 0 => handle ps_slices_IndexFunc_int64_int64_w_impl_NodeFault_c1_0 os_slices_IndexFunc_int64_int64_w_impl_NodeFault_c1_0 conv_slices_IndexFunc_int64_int64_w_impl_NodeFault_c1_0 (Bk_slices_IndexFunc_int64_int64_w_impl_NodeFault_c1_0 fu) fu s k | _ => none
theorem ev_slices_IndexFunc_int64_int64_w_impl_NodeFault_c1 (fu : Nat) (s_0 : (Sl Int)) (f_1_1 : Int) : evFun E (pc_slices_IndexFunc_int64_int64_w_impl_NodeFault_c1 fu) msk_slices_IndexFunc_int64_int64_w_impl_NodeFault_c1 (lp_slices_IndexFunc_int64_int64_w_impl_NodeFault_c1 fu) out_i64 114 [(.rs s_0.z .i64 s_0.n s_0.f), (.fn 95 [(.rptr [(.int .i64 f_1_1)])])] = F_slices_IndexFunc_int64_int64_w_impl_NodeFault_c1 fu s_0 f_1_1 := by kernel_rfl
noncomputable def body_slices_IndexFunc_int64_int64_w_impl_NodeFault_c1 : Code := Try.f114.body.getD .skip
noncomputable def lc_slices_IndexFunc_int64_int64_w_impl_NodeFault_c1_0 : Code := ((loops 0 body_slices_IndexFunc_int64_int64_w_impl_NodeFault_c1).getD 0 (0, .skip)).2
theorem round_slices_IndexFunc_int64_int64_w_impl_NodeFault_c1_0 (fu : Nat) (it : St RT den → Option (Int)) (k : Ex → St RT den → Option (Int)) c w : evCode E (pc_slices_IndexFunc_int64_int64_w_impl_NodeFault_c1 fu) msk_slices_IndexFunc_int64_int64_w_impl_NodeFault_c1 (lp_slices_IndexFunc_int64_int64_w_impl_NodeFault_c1 fu) 0 lc_slices_IndexFunc_int64_int64_w_impl_NodeFault_c1_0 (back_slices_IndexFunc_int64_int64_w_impl_NodeFault_c1_0 c w) (after (msk_slices_IndexFunc_int64_int64_w_impl_NodeFault_c1 0) (msk_slices_IndexFunc_int64_int64_w_impl_NodeFault_c1 100000) 0 it k) = Bk_slices_IndexFunc_int64_int64_w_impl_NodeFault_c1_0 fu c k w (fun w => it (back_slices_IndexFunc_int64_int64_w_impl_NodeFault_c1_0 c w)) := by kernel_rfl
theorem lpok_slices_IndexFunc_int64_int64_w_impl_NodeFault_c1_0 (fu : Nat) : ∀ s k r, lp_slices_IndexFunc_int64_int64_w_impl_NodeFault_c1 fu 0 s k = some r → ∃ fuel, iter (msk_slices_IndexFunc_int64_int64_w_impl_NodeFault_c1 0) (msk_slices_IndexFunc_int64_int64_w_impl_NodeFault_c1 100000) s.objs.length (evCode E (pc_slices_IndexFunc_int64_int64_w_impl_NodeFault_c1 fu) msk_slices_IndexFunc_int64_int64_w_impl_NodeFault_c1 (lp_slices_IndexFunc_int64_int64_w_impl_NodeFault_c1 fu) 0 lc_slices_IndexFunc_int64_int64_w_impl_NodeFault_c1_0) fuel s k = some r :=
  handle_ok (ps := ps_slices_IndexFunc_int64_int64_w_impl_NodeFault_c1_0) (os := os_slices_IndexFunc_int64_int64_w_impl_NodeFault_c1_0) (conv := conv_slices_IndexFunc_int64_int64_w_impl_NodeFault_c1_0) (B := Bk_slices_IndexFunc_int64_int64_w_impl_NodeFault_c1_0 fu) (fu := fu) back_slices_IndexFunc_int64_int64_w_impl_NodeFault_c1_0 (fun raw => by kernel_rfl) 0 (fun c w => by kernel_rfl) (round_slices_IndexFunc_int64_int64_w_impl_NodeFault_c1_0 fu)
theorem lpok_slices_IndexFunc_int64_int64_w_impl_NodeFault_c1 (fu : Nat) : LpOk E (pc_slices_IndexFunc_int64_int64_w_impl_NodeFault_c1 fu) msk_slices_IndexFunc_int64_int64_w_impl_NodeFault_c1 (lp_slices_IndexFunc_int64_int64_w_impl_NodeFault_c1 fu) (loops 0 body_slices_IndexFunc_int64_int64_w_impl_NodeFault_c1) := loop_all 1 (by kernel_rfl) fun i hi => match i, hi with
  | 0, _ => by
    have h : (loops 0 body_slices_IndexFunc_int64_int64_w_impl_NodeFault_c1).getD 0 (0, .skip) = (0, lc_slices_IndexFunc_int64_int64_w_impl_NodeFault_c1_0) := by kernel_rfl
    rw [h]; exact lpok_slices_IndexFunc_int64_int64_w_impl_NodeFault_c1_0 fu
  | i + 1, hi => absurd hi (by omega)
def S_slices_IndexFunc_int64_int64_w_impl_NodeFault_c1 (fu : Nat) (xs : List (D RT den)) : Option (Out RT den) := match xs with | [.rs za0_0 .i64 na0_0 fa0_0, .fn 95 [.rptr [.int .i64 a1_0]]] => some ⟨Int, F_slices_IndexFunc_int64_int64_w_impl_NodeFault_c1 fu (⟨za0_0, na0_0, fa0_0⟩ : (Sl Int)) a1_0, enc_i64, fun _ => true⟩ | _ => none
theorem hpc_slices_IndexFunc_int64_int64_w_impl_NodeFault_c1 (fu : Nat) : ∀ f xs o, pcf_slices_IndexFunc_int64_int64_w_impl_NodeFault_c1 fu f xs = some o → ∀ y, o.x = some y → Good E Try.prog f xs (o.g y) := by
  intro f xs o h
  unfold pcf_slices_IndexFunc_int64_int64_w_impl_NodeFault_c1 at h
  split at h
  · exact good_impl_NodeFault_c1 fu xs o h
  · cases h
theorem hpx_slices_IndexFunc_int64_int64_w_impl_NodeFault_c1 (fu : Nat) : ∀ f xs ins o, pcx_slices_IndexFunc_int64_int64_w_impl_NodeFault_c1 fu f xs ins = some o → ∀ y, o.x = some y → GoodX E Try.prog f xs ins (o.g y).1 (o.g y).2 := by
  intro f xs ins o h
  cases h
theorem goodv_slices_IndexFunc_int64_int64_w_impl_NodeFault_c1 (fu : Nat) (s_0 : (Sl Int)) (f_1_1 : Int) (y : Int) (hy : F_slices_IndexFunc_int64_int64_w_impl_NodeFault_c1 fu s_0 f_1_1 = some y) : Good E Try.prog 114 [(.rs s_0.z .i64 s_0.n s_0.f), (.fn 95 [(.rptr [(.int .i64 f_1_1)])])] (enc_i64 y) :=
  fun_good E_ok (pc_good (pc := pc_slices_IndexFunc_int64_int64_w_impl_NodeFault_c1 fu) (hpc_slices_IndexFunc_int64_int64_w_impl_NodeFault_c1 fu) (hpx_slices_IndexFunc_int64_int64_w_impl_NodeFault_c1 fu)) (fn := Try.f114) (c := body_slices_IndexFunc_int64_int64_w_impl_NodeFault_c1) (out := out_i64) (y := y) (by kernel_rfl) (by kernel_rfl) (by kernel_rfl) (lpok_slices_IndexFunc_int64_int64_w_impl_NodeFault_c1 fu) (fun d hd => out_i64_enc d _ hd) ((ev_slices_IndexFunc_int64_int64_w_impl_NodeFault_c1 fu s_0 f_1_1).trans hy)
theorem good_slices_IndexFunc_int64_int64_w_impl_NodeFault_c1 (fu : Nat) : ∀ xs o, S_slices_IndexFunc_int64_int64_w_impl_NodeFault_c1 fu xs = some o → ∀ y, o.x = some y → Good E Try.prog 114 xs (o.g y) := by
  intro xs o h y hy
  unfold S_slices_IndexFunc_int64_int64_w_impl_NodeFault_c1 at h
  split at h
  · rename_i za0_0 na0_0 fa0_0 a1_0
    cases h
    exact goodv_slices_IndexFunc_int64_int64_w_impl_NodeFault_c1 fu (⟨za0_0, na0_0, fa0_0⟩ : (Sl Int)) a1_0 y hy
  · cases h

/-! slices.ContainsFunc[[]int64,int64] -/
def F_slices_ContainsFunc_int64_int64_w_impl_NodeFault_c1 (fu : Nat) (s_0 : (Sl Int)) (f_1_1 : Int) : Option (Bool) :=
  ((F_slices_IndexFunc_int64_int64_w_impl_NodeFault_c1 fu s_0 f_1_1).bind fun y293 => (some (decide (y293 ≥ 0))))
def pcf_slices_ContainsFunc_int64_int64_w_impl_NodeFault_c1 (fu : Nat) (f : Nat) (xs : List (D RT den)) : Option (Out RT den) := match f with | 114 => S_slices_IndexFunc_int64_int64_w_impl_NodeFault_c1 fu xs | _ => none
def pcx_slices_ContainsFunc_int64_int64_w_impl_NodeFault_c1 (fu : Nat) (f : Nat) (xs : List (D RT den)) (ins : List (Ob RT den)) : Option (OutX RT den) := none
def pc_slices_ContainsFunc_int64_int64_w_impl_NodeFault_c1 (fu : Nat) : Pc RT den := ⟨pcf_slices_ContainsFunc_int64_int64_w_impl_NodeFault_c1 fu, fun _ => false, fun _ => false, pcx_slices_ContainsFunc_int64_int64_w_impl_NodeFault_c1 fu⟩
def msk_slices_ContainsFunc_int64_int64_w_impl_NodeFault_c1 (b : Nat) : List Nat := []
def lp_slices_ContainsFunc_int64_int64_w_impl_NodeFault_c1 (fu : Nat) : Lp RT den (Bool) := fun b s k => none
theorem ev_slices_ContainsFunc_int64_int64_w_impl_NodeFault_c1 (fu : Nat) (s_0 : (Sl Int)) (f_1_1 : Int) : evFun E (pc_slices_ContainsFunc_int64_int64_w_impl_NodeFault_c1 fu) msk_slices_ContainsFunc_int64_int64_w_impl_NodeFault_c1 (lp_slices_ContainsFunc_int64_int64_w_impl_NodeFault_c1 fu) out_bo 94 [(.rs s_0.z .i64 s_0.n s_0.f), (.fn 95 [(.rptr [(.int .i64 f_1_1)])])] = F_slices_ContainsFunc_int64_int64_w_impl_NodeFault_c1 fu s_0 f_1_1 := by kernel_rfl
noncomputable def body_slices_ContainsFunc_int64_int64_w_impl_NodeFault_c1 : Code := Try.f94.body.getD .skip
theorem lpok_slices_ContainsFunc_int64_int64_w_impl_NodeFault_c1 (fu : Nat) : LpOk E (pc_slices_ContainsFunc_int64_int64_w_impl_NodeFault_c1 fu) msk_slices_ContainsFunc_int64_int64_w_impl_NodeFault_c1 (lp_slices_ContainsFunc_int64_int64_w_impl_NodeFault_c1 fu) (loops 0 body_slices_ContainsFunc_int64_int64_w_impl_NodeFault_c1) := by
  have h : loops 0 body_slices_ContainsFunc_int64_int64_w_impl_NodeFault_c1 = [] := by kernel_rfl
  rw [h]; intro p hp; cases hp
def S_slices_ContainsFunc_int64_int64_w_impl_NodeFault_c1 (fu : Nat) (xs : List (D RT den)) : Option (Out RT den) := match xs with | [.rs za0_0 .i64 na0_0 fa0_0, .fn 95 [.rptr [.int .i64 a1_0]]] => some ⟨Bool, F_slices_ContainsFunc_int64_int64_w_impl_NodeFault_c1 fu (⟨za0_0, na0_0, fa0_0⟩ : (Sl Int)) a1_0, enc_bo, fun _ => true⟩ | _ => none
theorem hpc_slices_ContainsFunc_int64_int64_w_impl_NodeFault_c1 (fu : Nat) : ∀ f xs o, pcf_slices_ContainsFunc_int64_int64_w_impl_NodeFault_c1 fu f xs = some o → ∀ y, o.x = some y → Good E Try.prog f xs (o.g y) := by
  intro f xs o h
  unfold pcf_slices_ContainsFunc_int64_int64_w_impl_NodeFault_c1 at h
  split at h
  · exact good_slices_IndexFunc_int64_int64_w_impl_NodeFault_c1 fu xs o h
  · cases h
theorem hpx_slices_ContainsFunc_int64_int64_w_impl_NodeFault_c1 (fu : Nat) : ∀ f xs ins o, pcx_slices_ContainsFunc_int64_int64_w_impl_NodeFault_c1 fu f xs ins = some o → ∀ y, o.x = some y → GoodX E Try.prog f xs ins (o.g y).1 (o.g y).2 := by
  intro f xs ins o h
  cases h
theorem goodv_slices_ContainsFunc_int64_int64_w_impl_NodeFault_c1 (fu : Nat) (s_0 : (Sl Int)) (f_1_1 : Int) (y : Bool) (hy : F_slices_ContainsFunc_int64_int64_w_impl_NodeFault_c1 fu s_0 f_1_1 = some y) : Good E Try.prog 94 [(.rs s_0.z .i64 s_0.n s_0.f), (.fn 95 [(.rptr [(.int .i64 f_1_1)])])] (enc_bo y) :=
  fun_good E_ok (pc_good (pc := pc_slices_ContainsFunc_int64_int64_w_impl_NodeFault_c1 fu) (hpc_slices_ContainsFunc_int64_int64_w_impl_NodeFault_c1 fu) (hpx_slices_ContainsFunc_int64_int64_w_impl_NodeFault_c1 fu)) (fn := Try.f94) (c := body_slices_ContainsFunc_int64_int64_w_impl_NodeFault_c1) (out := out_bo) (y := y) (by kernel_rfl) (by kernel_rfl) (by kernel_rfl) (lpok_slices_ContainsFunc_int64_int64_w_impl_NodeFault_c1 fu) (fun d hd => out_bo_enc d _ hd) ((ev_slices_ContainsFunc_int64_int64_w_impl_NodeFault_c1 fu s_0 f_1_1).trans hy)
theorem good_slices_ContainsFunc_int64_int64_w_impl_NodeFault_c1 (fu : Nat) : ∀ xs o, S_slices_ContainsFunc_int64_int64_w_impl_NodeFault_c1 fu xs = some o → ∀ y, o.x = some y → Good E Try.prog 94 xs (o.g y) := by
  intro xs o h y hy
  unfold S_slices_ContainsFunc_int64_int64_w_impl_NodeFault_c1 at h
  split at h
  · rename_i za0_0 na0_0 fa0_0 a1_0
    cases h
    exact goodv_slices_ContainsFunc_int64_int64_w_impl_NodeFault_c1 fu (⟨za0_0, na0_0, fa0_0⟩ : (Sl Int)) a1_0 y hy
  · cases h

/-! impl.NodeFault'2 -/
def F_impl_NodeFault_c2 (fu : Nat) (k_0 : Int) (x_1_1 : Int) : Option (Bool) :=
  ((F_impl_in fu k_0 0 x_1_1).bind fun y300 => (some (!y300)))
def pcf_impl_NodeFault_c2 (fu : Nat) (f : Nat) (xs : List (D RT den)) : Option (Out RT den) := match f with | 62 => S_impl_in fu xs | _ => none
def pcx_impl_NodeFault_c2 (fu : Nat) (f : Nat) (xs : List (D RT den)) (ins : List (Ob RT den)) : Option (OutX RT den) := none
def pc_impl_NodeFault_c2 (fu : Nat) : Pc RT den := ⟨pcf_impl_NodeFault_c2 fu, fun _ => false, fun _ => false, pcx_impl_NodeFault_c2 fu⟩
def msk_impl_NodeFault_c2 (b : Nat) : List Nat := []
def lp_impl_NodeFault_c2 (fu : Nat) : Lp RT den (Bool) := fun b s k => none
theorem ev_impl_NodeFault_c2 (fu : Nat) (k_0 : Int) (x_1_1 : Int) : evFun E (pc_impl_NodeFault_c2 fu) msk_impl_NodeFault_c2 (lp_impl_NodeFault_c2 fu) out_bo 96 [(.int .i64 k_0), (.rptr [(.int .i64 x_1_1)])] = F_impl_NodeFault_c2 fu k_0 x_1_1 := by kernel_rfl
noncomputable def body_impl_NodeFault_c2 : Code := Try.f96.body.getD .skip
theorem lpok_impl_NodeFault_c2 (fu : Nat) : LpOk E (pc_impl_NodeFault_c2 fu) msk_impl_NodeFault_c2 (lp_impl_NodeFault_c2 fu) (loops 0 body_impl_NodeFault_c2) := by
  have h : loops 0 body_impl_NodeFault_c2 = [] := by kernel_rfl
  rw [h]; intro p hp; cases hp
def S_impl_NodeFault_c2 (fu : Nat) (xs : List (D RT den)) : Option (Out RT den) := match xs with | [.int .i64 a0_0, .rptr [.int .i64 a1_0]] => some ⟨Bool, F_impl_NodeFault_c2 fu a0_0 a1_0, enc_bo, fun _ => true⟩ | _ => none
theorem hpc_impl_NodeFault_c2 (fu : Nat) : ∀ f xs o, pcf_impl_NodeFault_c2 fu f xs = some o → ∀ y, o.x = some y → Good E Try.prog f xs (o.g y) := by
  intro f xs o h
  unfold pcf_impl_NodeFault_c2 at h
  split at h
  · exact good_impl_in fu xs o h
  · cases h
theorem hpx_impl_NodeFault_c2 (fu : Nat) : ∀ f xs ins o, pcx_impl_NodeFault_c2 fu f xs ins = some o → ∀ y, o.x = some y → GoodX E Try.prog f xs ins (o.g y).1 (o.g y).2 := by
  intro f xs ins o h
  cases h
theorem goodv_impl_NodeFault_c2 (fu : Nat) (k_0 : Int) (x_1_1 : Int) (y : Bool) (hy : F_impl_NodeFault_c2 fu k_0 x_1_1 = some y) : Good E Try.prog 96 [(.int .i64 k_0), (.rptr [(.int .i64 x_1_1)])] (enc_bo y) :=
  fun_good E_ok (pc_good (pc := pc_impl_NodeFault_c2 fu) (hpc_impl_NodeFault_c2 fu) (hpx_impl_NodeFault_c2 fu)) (fn := Try.f96) (c := body_impl_NodeFault_c2) (out := out_bo) (y := y) (by kernel_rfl) (by kernel_rfl) (by kernel_rfl) (lpok_impl_NodeFault_c2 fu) (fun d hd => out_bo_enc d _ hd) ((ev_impl_NodeFault_c2 fu k_0 x_1_1).trans hy)
theorem good_impl_NodeFault_c2 (fu : Nat) : ∀ xs o, S_impl_NodeFault_c2 fu xs = some o → ∀ y, o.x = some y → Good E Try.prog 96 xs (o.g y) := by
  intro xs o h y hy
  unfold S_impl_NodeFault_c2 at h
  split at h
  · rename_i a0_0 a1_0
    cases h
    exact goodv_impl_NodeFault_c2 fu a0_0 a1_0 y hy
  · cases h

/-! slices.IndexFunc[[]int64,int64] -/
def F_slices_IndexFunc_int64_int64_w_impl_NodeFault_c2_B0 {ρ : Type} (fu : Nat) (s0_0 : (Sl Int)) (f1_1 : Int) (t7_2 : Int) (k0 : Int → Option ρ) (k1 : Option ρ) (t8_3 : Int) (go : Int → Option ρ) : Option ρ :=
  (bif (decide (t8_3 < t7_2)) then ((bif (decide (0 ≤ t8_3) && decide ((Int.toNat t8_3) < s0_0.n)) then some () else none : Option Unit).bind fun _ => ((F_impl_NodeFault_c2 fu (s0_0.f (Int.toNat t8_3)) f1_1).bind fun y298 =>
    (bif y298 then (k0 t8_3) else (go (IntKind.wrap .i64 (t8_3 + 1)))))) else k1)
def F_slices_IndexFunc_int64_int64_w_impl_NodeFault_c2 (fu : Nat) (s_0 : (Sl Int)) (f_1_1 : Int) : Option (Int) :=
  (L (fun w0 go0 => F_slices_IndexFunc_int64_int64_w_impl_NodeFault_c2_B0 fu s_0 f_1_1 ((s_0.n : Nat) : Int) (fun z299 => (some z299)) (some (-1)) w0 go0) fu (0 : Int))
def pcf_slices_IndexFunc_int64_int64_w_impl_NodeFault_c2 (fu : Nat) (f : Nat) (xs : List (D RT den)) : Option (Out RT den) := match f with | 96 => S_impl_NodeFault_c2 fu xs | _ => none
def pcx_slices_IndexFunc_int64_int64_w_impl_NodeFault_c2 (fu : Nat) (f : Nat) (xs : List (D RT den)) (ins : List (Ob RT den)) : Option (OutX RT den) := none
def pc_slices_IndexFunc_int64_int64_w_impl_NodeFault_c2 (fu : Nat) : Pc RT den := ⟨pcf_slices_IndexFunc_int64_int64_w_impl_NodeFault_c2 fu, fun _ => false, fun _ => false, pcx_slices_IndexFunc_int64_int64_w_impl_NodeFault_c2 fu⟩
def msk_slices_IndexFunc_int64_int64_w_impl_NodeFault_c2 (b : Nat) : List Nat := match b with | 0 => [2, 3, 4, 5, 6, 9, 10, 11, 12, 13, 14, 15, 16, 17, 18] | 100000 => [0, 1, 2, 3, 5, 6, 7, 8, 9, 10, 11, 12, 13, 14, 15, 16, 17, 18] | _ => []
def ps_slices_IndexFunc_int64_int64_w_impl_NodeFault_c2_0 : List (Pat RT) := [.flat (.rs .i64), .fn 96 [.rptr [(.int .i64)]], .flat .dead, .flat .dead, .flat .dead, .flat .dead, .flat .dead, .flat (.int .i64), .flat (.int .i64), .flat .dead, .flat .dead, .flat .dead, .flat .dead, .flat .dead, .flat .dead, .flat .dead, .flat .dead, .flat .dead, .flat .dead]
def os_slices_IndexFunc_int64_int64_w_impl_NodeFault_c2_0 : List (OP RT) := []
def conv_slices_IndexFunc_int64_int64_w_impl_NodeFault_c2_0 (r : Raw den ps_slices_IndexFunc_int64_int64_w_impl_NodeFault_c2_0 os_slices_IndexFunc_int64_int64_w_impl_NodeFault_c2_0) : ((Sl Int) × Int × Int) × (Int) := ((r.1.1, r.1.2.1.1.1, r.1.2.2.2.2.2.2.2.1), r.1.2.2.2.2.2.2.2.2.1)
def back_slices_IndexFunc_int64_int64_w_impl_NodeFault_c2_0 (c : (Sl Int) × Int × Int) (w : Int) : St RT den := ⟨[(.rs c.1.z .i64 c.1.n c.1.f), (.fn 96 [(.rptr [(.int .i64 c.2.1)])]), .dead, .dead, .dead, .dead, .dead, (.int .i64 c.2.2), (.int .i64 w), .dead, .dead, .dead, .dead, .dead, .dead, .dead, .dead, .dead, .dead], []⟩
def Bk_slices_IndexFunc_int64_int64_w_impl_NodeFault_c2_0 {ρ : Type} (fu : Nat) (c : (Sl Int) × Int × Int) (k : Ex → St RT den → Option ρ) (w : Int) (go : (Int) → Option ρ) : Option ρ := F_slices_IndexFunc_int64_int64_w_impl_NodeFault_c2_B0 fu c.1 c.2.1 c.2.2 (fun a0 => k .ret ⟨[.dead, .dead, .dead, .dead, (.int .i64 a0), .dead, .dead, .dead, .dead, .dead, .dead, .dead, .dead, .dead, .dead, .dead, .dead, .dead, .dead], []⟩) (k (.exit 0) ⟨[.dead, .dead, .dead, .dead, .dead, .dead, .dead, .dead, .dead, .dead, .dead, .dead, .dead, .dead, .dead, .dead, .dead, .dead, .dead], []⟩) w go
def lp_slices_IndexFunc_int64_int64_w_impl_NodeFault_c2 (fu : Nat) : Lp RT den (Int) := fun b s k => match b with | 0 => handle ps_slices_IndexFunc_int64_int64_w_impl_NodeFault_c2_0 os_slices_IndexFunc_int64_int64_w_impl_NodeFault_c2_0 conv_slices_IndexFunc_int64_int64_w_impl_NodeFault_c2_0 (Bk_slices_IndexFunc_int64_int64_w_impl_NodeFault_c2_0 fu) fu s k | _ => none
theorem ev_slices_IndexFunc_int64_int64_w_impl_NodeFault_c2 (fu : Nat) (s_0 : (Sl Int)) (f_1_1 : Int) : evFun E (pc_slices_IndexFunc_int64_int64_w_impl_NodeFault_c2 fu) msk_slices_IndexFunc_int64_int64_w_impl_NodeFault_c2 (lp_slices_IndexFunc_int64_int64_w_impl_NodeFault_c2 fu) out_i64 114 [(.rs s_0.z .i64 s_0.n s_0.f), (.fn 96 [(.rptr [(.int .i64 f_1_1)])])] = F_slices_IndexFunc_int64_int64_w_impl_NodeFault_c2 fu s_0 f_1_1 := by kernel_rfl
noncomputable def body_slices_IndexFunc_int64_int64_w_impl_NodeFault_c2 : Code := Try.f114.body.getD .skip
noncomputable def lc_slices_IndexFunc_int64_int64_w_impl_NodeFault_c2_0 : Code := ((loops 0 body_slices_IndexFunc_int64_int64_w_impl_NodeFault_c2).getD 0 (0, .skip)).2
theorem round_slices_IndexFunc_int64_int64_w_impl_NodeFault_c2_0 (fu : Nat) (it : St RT den → Option (Int)) (k : Ex → St RT den → Option (Int)) c w : evCode E (pc_slices_IndexFunc_int64_int64_w_impl_NodeFault_c2 fu) msk_slices_IndexFunc_int64_int64_w_impl_NodeFault_c2 (lp_slices_IndexFunc_int64_int64_w_impl_NodeFault_c2 fu) 0 lc_slices_IndexFunc_int64_int64_w_impl_NodeFault_c2_0 (back_slices_IndexFunc_int64_int64_w_impl_NodeFault_c2_0 c w) (after (msk_slices_IndexFunc_int64_int64_w_impl_NodeFault_c2 0) (msk_slices_IndexFunc_int64_int64_w_impl_NodeFault_c2 100000) 0 it k) = Bk_slices_IndexFunc_int64_int64_w_impl_NodeFault_c2_0 fu c k w (fun w => it (back_slices_IndexFunc_int64_int64_w_impl_NodeFault_c2_0 c w)) := by kernel_rfl
theorem lpok_slices_IndexFunc_int64_int64_w_impl_NodeFault_c2_0 (fu : Nat) : ∀ s k r, lp_slices_IndexFunc_int64_int64_w_impl_NodeFault_c2 fu 0 s k = some r → ∃ fuel, iter (msk_slices_IndexFunc_int64_int64_w_impl_NodeFault_c2 0) (msk_slices_IndexFunc_int64_int64_w_impl_NodeFault_c2 100000) s.objs.length (evCode E (pc_slices_IndexFunc_int64_int64_w_impl_NodeFault_c2 fu) msk_slices_IndexFunc_int64_int64_w_impl_NodeFault_c2 (lp_slices_IndexFunc_int64_int64_w_impl_NodeFault_c2 fu) 0 lc_slices_IndexFunc_int64_int64_w_impl_NodeFault_c2_0) fuel s k = some r :=
  handle_ok (ps := ps_slices_IndexFunc_int64_int64_w_impl_NodeFault_c2_0) (os := os_slices_IndexFunc_int64_int64_w_impl_NodeFault_c2_0) (conv := conv_slices_IndexFunc_int64_int64_w_impl_NodeFault_c2_0) (B := Bk_slices_IndexFunc_int64_int64_w_impl_NodeFault_c2_0 fu) (fu := fu) back_slices_IndexFunc_int64_int64_w_impl_NodeFault_c2_0 (fun raw => by kernel_rfl) 0 (fun c w => by kernel_rfl) (round_slices_IndexFunc_int64_int64_w_impl_NodeFault_c2_0 fu)
theorem lpok_slices_IndexFunc_int64_int64_w_impl_NodeFault_c2 (fu : Nat) : LpOk E (pc_slices_IndexFunc_int64_int64_w_impl_NodeFault_c2 fu) msk_slices_IndexFunc_int64_int64_w_impl_NodeFault_c2 (lp_slices_IndexFunc_int64_int64_w_impl_NodeFault_c2 fu) (loops 0 body_slices_IndexFunc_int64_int64_w_impl_NodeFault_c2) := loop_all 1 (by kernel_rfl) fun i hi => match i, hi with
  | 0, _ => by
    have h : (loops 0 body_slices_IndexFunc_int64_int64_w_impl_NodeFault_c2).getD 0 (0, .skip) = (0, lc_slices_IndexFunc_int64_int64_w_impl_NodeFault_c2_0) := by kernel_rfl
    rw [h]; exact lpok_slices_IndexFunc_int64_int64_w_impl_NodeFault_c2_0 fu
  | i + 1, hi => absurd hi (by omega)
def S_slices_IndexFunc_int64_int64_w_impl_NodeFault_c2 (fu : Nat) (xs : List (D RT den)) : Option (Out RT den) := match xs with | [.rs za0_0 .i64 na0_0 fa0_0, .fn 96 [.rptr [.int .i64 a1_0]]] => some ⟨Int, F_slices_IndexFunc_int64_int64_w_impl_NodeFault_c2 fu (⟨za0_0, na0_0, fa0_0⟩ : (Sl Int)) a1_0, enc_i64, fun _ => true⟩ | _ => none
theorem hpc_slices_IndexFunc_int64_int64_w_impl_NodeFault_c2 (fu : Nat) : ∀ f xs o, pcf_slices_IndexFunc_int64_int64_w_impl_NodeFault_c2 fu f xs = some o → ∀ y, o.x = some y → Good E Try.prog f xs (o.g y) := by
  intro f xs o h
  unfold pcf_slices_IndexFunc_int64_int64_w_impl_NodeFault_c2 at h
  split at h
  · exact good_impl_NodeFault_c2 fu xs o h
  · cases h
theorem hpx_slices_IndexFunc_int64_int64_w_impl_NodeFault_c2 (fu : Nat) : ∀ f xs ins o, pcx_slices_IndexFunc_int64_int64_w_impl_NodeFault_c2 fu f xs ins = some o → ∀ y, o.x = some y → GoodX E Try.prog f xs ins (o.g y).1 (o.g y).2 := by
  intro f xs ins o h
  cases h
theorem goodv_slices_IndexFunc_int64_int64_w_impl_NodeFault_c2 (fu : Nat) (s_0 : (Sl Int)) (f_1_1 : Int) (y : Int) (hy : F_slices_IndexFunc_int64_int64_w_impl_NodeFault_c2 fu s_0 f_1_1 = some y) : Good E Try.prog 114 [(.rs s_0.z .i64 s_0.n s_0.f), (.fn 96 [(.rptr [(.int .i64 f_1_1)])])] (enc_i64 y) :=
  fun_good E_ok (pc_good (pc := pc_slices_IndexFunc_int64_int64_w_impl_NodeFault_c2 fu) (hpc_slices_IndexFunc_int64_int64_w_impl_NodeFault_c2 fu) (hpx_slices_IndexFunc_int64_int64_w_impl_NodeFault_c2 fu)) (fn := Try.f114) (c := body_slices_IndexFunc_int64_int64_w_impl_NodeFault_c2) (out := out_i64) (y := y) (by kernel_rfl) (by kernel_rfl) (by kernel_rfl) (lpok_slices_IndexFunc_int64_int64_w_impl_NodeFault_c2 fu) (fun d hd => out_i64_enc d _ hd) ((ev_slices_IndexFunc_int64_int64_w_impl_NodeFault_c2 fu s_0 f_1_1).trans hy)
theorem good_slices_IndexFunc_int64_int64_w_impl_NodeFault_c2 (fu : Nat) : ∀ xs o, S_slices_IndexFunc_int64_int64_w_impl_NodeFault_c2 fu xs = some o → ∀ y, o.x = some y → Good E Try.prog 114 xs (o.g y) := by
  intro xs o h y hy
  unfold S_slices_IndexFunc_int64_int64_w_impl_NodeFault_c2 at h
  split at h
  · rename_i za0_0 na0_0 fa0_0 a1_0
    cases h
    exact goodv_slices_IndexFunc_int64_int64_w_impl_NodeFault_c2 fu (⟨za0_0, na0_0, fa0_0⟩ : (Sl Int)) a1_0 y hy
  · cases h

/-! slices.ContainsFunc[[]int64,int64] -/
def F_slices_ContainsFunc_int64_int64_w_impl_NodeFault_c2 (fu : Nat) (s_0 : (Sl Int)) (f_1_1 : Int) : Option (Bool) :=
  ((F_slices_IndexFunc_int64_int64_w_impl_NodeFault_c2 fu s_0 f_1_1).bind fun y297 => (some (decide (y297 ≥ 0))))
def pcf_slices_ContainsFunc_int64_int64_w_impl_NodeFault_c2 (fu : Nat) (f : Nat) (xs : List (D RT den)) : Option (Out RT den) := match f with | 114 => S_slices_IndexFunc_int64_int64_w_impl_NodeFault_c2 fu xs | _ => none
def pcx_slices_ContainsFunc_int64_int64_w_impl_NodeFault_c2 (fu : Nat) (f : Nat) (xs : List (D RT den)) (ins : List (Ob RT den)) : Option (OutX RT den) := none
def pc_slices_ContainsFunc_int64_int64_w_impl_NodeFault_c2 (fu : Nat) : Pc RT den := ⟨pcf_slices_ContainsFunc_int64_int64_w_impl_NodeFault_c2 fu, fun _ => false, fun _ => false, pcx_slices_ContainsFunc_int64_int64_w_impl_NodeFault_c2 fu⟩
def msk_slices_ContainsFunc_int64_int64_w_impl_NodeFault_c2 (b : Nat) : List Nat := []
def lp_slices_ContainsFunc_int64_int64_w_impl_NodeFault_c2 (fu : Nat) : Lp RT den (Bool) := fun b s k => none
theorem ev_slices_ContainsFunc_int64_int64_w_impl_NodeFault_c2 (fu : Nat) (s_0 : (Sl Int)) (f_1_1 : Int) : evFun E (pc_slices_ContainsFunc_int64_int64_w_impl_NodeFault_c2 fu) msk_slices_ContainsFunc_int64_int64_w_impl_NodeFault_c2 (lp_slices_ContainsFunc_int64_int64_w_impl_NodeFault_c2 fu) out_bo 94 [(.rs s_0.z .i64 s_0.n s_0.f), (.fn 96 [(.rptr [(.int .i64 f_1_1)])])] = F_slices_ContainsFunc_int64_int64_w_impl_NodeFault_c2 fu s_0 f_1_1 := by kernel_rfl
noncomputable def body_slices_ContainsFunc_int64_int64_w_impl_NodeFault_c2 : Code := Try.f94.body.getD .skip
theorem lpok_slices_ContainsFunc_int64_int64_w_impl_NodeFault_c2 (fu : Nat) : LpOk E (pc_slices_ContainsFunc_int64_int64_w_impl_NodeFault_c2 fu) msk_slices_ContainsFunc_int64_int64_w_impl_NodeFault_c2 (lp_slices_ContainsFunc_int64_int64_w_impl_NodeFault_c2 fu) (loops 0 body_slices_ContainsFunc_int64_int64_w_impl_NodeFault_c2) := by
  have h : loops 0 body_slices_ContainsFunc_int64_int64_w_impl_NodeFault_c2 = [] := by kernel_rfl
  rw [h]; intro p hp; cases hp
def S_slices_ContainsFunc_int64_int64_w_impl_NodeFault_c2 (fu : Nat) (xs : List (D RT den)) : Option (Out RT den) := match xs with | [.rs za0_0 .i64 na0_0 fa0_0, .fn 96 [.rptr [.int .i64 a1_0]]] => some ⟨Bool, F_slices_ContainsFunc_int64_int64_w_impl_NodeFault_c2 fu (⟨za0_0, na0_0, fa0_0⟩ : (Sl Int)) a1_0, enc_bo, fun _ => true⟩ | _ => none
theorem hpc_slices_ContainsFunc_int64_int64_w_impl_NodeFault_c2 (fu : Nat) : ∀ f xs o, pcf_slices_ContainsFunc_int64_int64_w_impl_NodeFault_c2 fu f xs = some o → ∀ y, o.x = some y → Good E Try.prog f xs (o.g y) := by
  intro f xs o h
  unfold pcf_slices_ContainsFunc_int64_int64_w_impl_NodeFault_c2 at h
  split at h
  · exact good_slices_IndexFunc_int64_int64_w_impl_NodeFault_c2 fu xs o h
  · cases h
theorem hpx_slices_ContainsFunc_int64_int64_w_impl_NodeFault_c2 (fu : Nat) : ∀ f xs ins o, pcx_slices_ContainsFunc_int64_int64_w_impl_NodeFault_c2 fu f xs ins = some o → ∀ y, o.x = some y → GoodX E Try.prog f xs ins (o.g y).1 (o.g y).2 := by
  intro f xs ins o h
  cases h
theorem goodv_slices_ContainsFunc_int64_int64_w_impl_NodeFault_c2 (fu : Nat) (s_0 : (Sl Int)) (f_1_1 : Int) (y : Bool) (hy : F_slices_ContainsFunc_int64_int64_w_impl_NodeFault_c2 fu s_0 f_1_1 = some y) : Good E Try.prog 94 [(.rs s_0.z .i64 s_0.n s_0.f), (.fn 96 [(.rptr [(.int .i64 f_1_1)])])] (enc_bo y) :=
  fun_good E_ok (pc_good (pc := pc_slices_ContainsFunc_int64_int64_w_impl_NodeFault_c2 fu) (hpc_slices_ContainsFunc_int64_int64_w_impl_NodeFault_c2 fu) (hpx_slices_ContainsFunc_int64_int64_w_impl_NodeFault_c2 fu)) (fn := Try.f94) (c := body_slices_ContainsFunc_int64_int64_w_impl_NodeFault_c2) (out := out_bo) (y := y) (by kernel_rfl) (by kernel_rfl) (by kernel_rfl) (lpok_slices_ContainsFunc_int64_int64_w_impl_NodeFault_c2 fu) (fun d hd => out_bo_enc d _ hd) ((ev_slices_ContainsFunc_int64_int64_w_impl_NodeFault_c2 fu s_0 f_1_1).trans hy)
theorem good_slices_ContainsFunc_int64_int64_w_impl_NodeFault_c2 (fu : Nat) : ∀ xs o, S_slices_ContainsFunc_int64_int64_w_impl_NodeFault_c2 fu xs = some o → ∀ y, o.x = some y → Good E Try.prog 94 xs (o.g y) := by
  intro xs o h y hy
  unfold S_slices_ContainsFunc_int64_int64_w_impl_NodeFault_c2 at h
  split at h
  · rename_i za0_0 na0_0 fa0_0 a1_0
    cases h
    exact goodv_slices_ContainsFunc_int64_int64_w_impl_NodeFault_c2 fu (⟨za0_0, na0_0, fa0_0⟩ : (Sl Int)) a1_0 y hy
  · cases h
end Go.Proofs.Ytmdjkdgjmbfegaa.Pc
