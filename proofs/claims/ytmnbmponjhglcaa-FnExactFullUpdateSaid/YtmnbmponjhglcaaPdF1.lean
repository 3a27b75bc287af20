/- The functions' evaluated forms, each a proved summary. Conditions: none. -/
import Derived.Test.YtmnbmponjhglcaaPdF0
namespace Go.Proofs.Ytmnbmponjhglcaa.Pd
open Go Go.RowKit Go.Proofs Vm
set_option linter.unusedVariables false
set_option linter.unusedSimpArgs false
set_option maxRecDepth 100000
/-! spec.l5Copy -/
def F_spec_l5Copy_U_B0 {ρ : Type} (fu : Nat) (c1_0 : Int) (c1_1 : (Sl S_impl_Backend)) (c1_2 : (Sl S_impl_Vip)) (o0_4 : Int) (o2_5 : Int) (o2_6 : Nat) (on3_8 : Nat) (of3_9 : (Nat → S_impl_Backend)) (k0 : Nat → Nat → Nat → (Nat → S_impl_Vip) → Option ρ) (i4_3 : Int) (o2_7 : Nat) (on4_10 : Nat) (op4_11 : Nat) (of4_12 : (Nat → S_impl_Vip)) (go : Int → Nat → Nat → Nat → (Nat → S_impl_Vip) → Option ρ) : Option ρ :=
  (bif (decide (i4_3 < ((c1_2.n : Nat) : Int))) then ((bif (decide (0 ≤ i4_3) && decide ((Int.toNat i4_3) < c1_2.n)) then some () else none : Option Unit).bind fun _ => (bif (decide ((c1_2.f (Int.toNat i4_3)).Names.n ≤ 9223372036854775807) &&
    decide ((c1_2.f (Int.toNat i4_3)).Names.n * 8 ≤ 140737488355328)) then (bif (decide (o2_7 ≤ op4_11) && (decide ((o2_7 + 1) ≤ 9223372036854775807) && decide ((o2_7 + 1) * 48 ≤ 140737488355328))) then
    (go (IntKind.wrap .i64 (i4_3 + 1)) (o2_7 + 1) (o2_7 + 1) (o2_7 + 1) (fun i => if i < o2_7 then (of4_12 i) else (⟨(c1_2.f (Int.toNat i4_3)).Address, (c1_2.f (Int.toNat i4_3)).Port,
    (c1_2.f (Int.toNat i4_3)).Proto, (⟨none, (c1_2.f (Int.toNat i4_3)).Names.n, (c1_2.f (Int.toNat i4_3)).Names.f⟩ : (Sl Int))⟩ : S_impl_Vip))) else none) else none)) else (k0 o2_7 on4_10 op4_11 of4_12))
def F_spec_l5Copy_U (fu : Nat) (c_0 : S_impl_Config) : Option (Int × Nat × Nat × Nat × (Nat → S_impl_Backend) × Nat × (Nat → S_impl_Vip)) :=
  (bif (decide (c_0.Backends.n ≤ 9223372036854775807) && decide (c_0.Backends.n * 40 ≤ 140737488355328)) then (L (fun w0 go0 => F_spec_l5Copy_U_B0 fu c_0.Version c_0.Backends c_0.Vips 0 c_0.Version c_0.Backends.n c_0.Backends.n c_0.Backends.f (fun z43 z44 z45 z46 =>
    (bif (decide (z43 ≤ z45) && true) then (bif (decide (z43 = z43) && true) then (some (c_0.Version, c_0.Backends.n, z43, c_0.Backends.n, c_0.Backends.f, z43, z46)) else none) else
    none)) w0.1 w0.2.1 w0.2.2.1 w0.2.2.2.1 w0.2.2.2.2 (fun q0 q1 q2 q3 q4 => go0 (q0, q1, q2, q3, q4))) fu ((0, 0, 0, 0, (fun _ => dflt .impl_Vip)) : Int × Nat × Nat × Nat × (Nat → S_impl_Vip))) else
    none)
def pc_a17 (fu : Nat) : Pc RT den := ⟨pcf0, fun _ => false, fun _ => false, pcd0, pcx0⟩
def msk_a17 (b : Nat) : List Nat := match b with | 0 => [0, 5, 6, 7, 8, 9, 10, 11, 12, 13, 14, 15, 16, 17, 18, 19, 20, 21, 22, 23, 24, 25, 26, 27, 28, 29, 30, 31, 32, 33, 34, 35, 36] | 100000 => [0, 1, 4, 5, 6, 7, 8, 9, 10, 11, 12, 13, 14, 15, 16, 17, 18, 19, 20, 21, 22, 23, 24, 25, 26, 27, 28, 29, 30, 31, 32, 33, 34, 35, 36] | 300000 => [1002002, 5000004] | 500001 => [1] | _ => []
def ps_a17_0 : List (Pat RT) := [.flat .q, .rptr [(.int .i64), (.rs .impl_Backend), (.rs .impl_Vip)], .flat (.ref 0 0), .flat (.ref 2 0), .flat (.int .i64), .flat .q, .flat .q, .flat .q, .flat .q, .flat .q, .flat .q, .flat .q, .flat .q, .flat .q, .flat .q, .flat .q, .flat .q, .flat .q, .flat .q, .flat .q, .flat .q, .flat .q, .flat .q, .flat .q, .flat .q, .flat .q, .flat .q, .flat .q, .flat .q, .flat .q, .flat .q, .flat .q, .flat .q, .flat .q, .flat .q, .flat .q, .flat .q]
def os_a17_0 : List (OP RT) := [.box false [(.int .i64), (.emp true .impl_Backend), (.emp true .impl_Vip)], .gone, .box false [(.int .i64), (.os 3), (.os 4)], .row false .impl_Backend, .deep false .impl_Vip]
def conv_a17_0 (r : Raw den ps_a17_0 os_a17_0) : (Int × (Sl S_impl_Backend) × (Sl S_impl_Vip) × Int × Int × Nat × Nat × (Nat → S_impl_Backend)) × (Int × Nat × Nat × Nat × (Nat → S_impl_Vip)) := ((r.1.2.1.1, r.1.2.1.2.1, r.1.2.1.2.2.1, r.2.1.1, r.2.2.2.1.1, r.2.2.2.1.2.1, r.2.2.2.2.1.1, r.2.2.2.2.1.2), (r.1.2.2.2.2.1, r.2.2.2.1.2.2.1, r.2.2.2.2.2.1.1, r.2.2.2.2.2.1.2.1, r.2.2.2.2.2.1.2.2))
def back_a17_0 (c : Int × (Sl S_impl_Backend) × (Sl S_impl_Vip) × Int × Int × Nat × Nat × (Nat → S_impl_Backend)) (w : Int × Nat × Nat × Nat × (Nat → S_impl_Vip)) : St RT den := ⟨[.q, (.rptr [(.int .i64 c.1), (.rs c.2.1.z .impl_Backend c.2.1.n c.2.1.f), (.rs c.2.2.1.z .impl_Vip c.2.2.1.n c.2.2.1.f)]), (.ref 0 0), (.ref 2 0), (.int .i64 w.1), .q, .q, .q, .q, .q, .q, .q, .q, .q, .q, .q, .q, .q, .q, .q, .q, .q, .q, .q, .q, .q, .q, .q, .q, .q, .q, .q, .q, .q, .q, .q, .q], [(.box false [(.int .i64 c.2.2.2.1), (.emp true .impl_Backend), (.emp true .impl_Vip)]), .gone, (.box false [(.int .i64 c.2.2.2.2.1), (.os 3 c.2.2.2.2.2.1), (.os 4 w.2.1)]), (.row false .impl_Backend c.2.2.2.2.2.2.1 c.2.2.2.2.2.2.2), (.deep false .impl_Vip w.2.2.1 w.2.2.2.1 w.2.2.2.2)]⟩
def Bk_a17_0 {ρ : Type} (fu : Nat) (c : Int × (Sl S_impl_Backend) × (Sl S_impl_Vip) × Int × Int × Nat × Nat × (Nat → S_impl_Backend)) (k : Ex → St RT den → Option ρ) (w : Int × Nat × Nat × Nat × (Nat → S_impl_Vip)) (go : (Int × Nat × Nat × Nat × (Nat → S_impl_Vip)) → Option ρ) : Option ρ := F_spec_l5Copy_U_B0 fu c.1 c.2.1 c.2.2.1 c.2.2.2.1 c.2.2.2.2.1 c.2.2.2.2.2.1 c.2.2.2.2.2.2.1 c.2.2.2.2.2.2.2 (fun a0 a1 a2 a3 => k (.exit 0) ⟨[.q, .q, (.ref 0 0), (.ref 2 0), .q, .q, .q, .q, .q, .q, .q, .q, .q, .q, .q, .q, .q, .q, .q, .q, .q, .q, .q, .q, .q, .q, .q, .q, .q, .q, .q, .q, .q, .q, .q, .q, .q], [(.box false [(.int .i64 c.2.2.2.1), (.emp true .impl_Backend), (.emp true .impl_Vip)]), .gone, (.box false [(.int .i64 c.2.2.2.2.1), (.os 3 c.2.2.2.2.2.1), (.os 4 a0)]), (.row false .impl_Backend c.2.2.2.2.2.2.1 c.2.2.2.2.2.2.2), (.deep false .impl_Vip a1 a2 a3)]⟩) w.1 w.2.1 w.2.2.1 w.2.2.2.1 w.2.2.2.2 (fun q0 q1 q2 q3 q4 => go (q0, q1, q2, q3, q4))
def lp_a17 (fu : Nat) : Lp RT den (Int × Nat × Nat × Nat × (Nat → S_impl_Backend) × Nat × (Nat → S_impl_Vip)) := fun b s k => match b with | 0 => handle ps_a17_0 os_a17_0 conv_a17_0 (Bk_a17_0 fu) fu s k | _ => none
def pso_a17 : List (Pat RT) := [.agg [(.int .i64), (.os 0), (.os 1)]]
def oso_a17 : List (OP RT) := [.row false .impl_Backend, .deep false .impl_Vip]
def conv_a17 (r : Raw den pso_a17 oso_a17) : Int × Nat × Nat × Nat × (Nat → S_impl_Backend) × Nat × (Nat → S_impl_Vip) := (r.1.1.1, r.1.1.2.1, r.1.1.2.2.1, r.2.1.1, r.2.1.2, r.2.2.1.1, r.2.2.1.2.2)
def enc_a17 (y : Int × Nat × Nat × Nat × (Nat → S_impl_Backend) × Nat × (Nat → S_impl_Vip)) : D RT den × List (Ob RT den) := ((.agg [(.int .i64 y.1), (.os 0 y.2.1), (.os 1 y.2.2.1)]), [(.row false .impl_Backend y.2.2.2.1 y.2.2.2.2.1), (.deep false .impl_Vip y.2.2.2.2.2.1 y.2.2.2.2.2.1 y.2.2.2.2.2.2)])
def chk_a17 (r : Raw den pso_a17 oso_a17) : Bool := (decide (r.2.2.1.2.1 = r.2.2.1.1) && true)
def raw_a17 (r : Raw den pso_a17 oso_a17) : St RT den := ⟨[(.agg [(.int .i64 r.1.1.1), (.os 0 r.1.1.2.1), (.os 1 r.1.1.2.2.1)])], [(.row false .impl_Backend r.2.1.1 r.2.1.2), (.deep false .impl_Vip r.2.2.1.1 r.2.2.1.2.1 r.2.2.1.2.2)]⟩
theorem chkd_a17 (r : Raw den pso_a17 oso_a17) (h : chk_a17 r = true) : raw_a17 r = ⟨[(enc_a17 (conv_a17 r)).1], (enc_a17 (conv_a17 r)).2⟩ := by
  simp only [chk_a17, Bool.and_eq_true, decide_eq_true_eq, and_true] at h
  simp only [raw_a17, enc_a17, conv_a17, h]
def out_a17 (d : D RT den) (os : List (Ob RT den)) : Option (Int × Nat × Nat × Nat × (Nat → S_impl_Backend) × Nat × (Nat → S_impl_Vip)) := (unSt pso_a17 oso_a17 ⟨[d], os⟩).bind fun v => bif chk_a17 v.1 then some (conv_a17 v.1) else none
theorem out_a17_enc (d : D RT den) (os : List (Ob RT den)) (y : Int × Nat × Nat × Nat × (Nat → S_impl_Backend) × Nat × (Nat → S_impl_Vip)) (h : out_a17 d os = some y) : d = (enc_a17 y).1 ∧ os = (enc_a17 y).2 :=
  outU (conv := conv_a17) (enc := enc_a17) (chk := chk_a17) (fun raw h => Eq.trans (by kernel_rfl) (chkd_a17 raw h)) h
theorem ev_a17 (fu : Nat) (c_0 : S_impl_Config) : evFunU E (pc_a17 fu) msk_a17 (lp_a17 fu) out_a17 82 [(.agg [(.int .i64 c_0.Version), (.rs c_0.Backends.z .impl_Backend c_0.Backends.n c_0.Backends.f), (.rs c_0.Vips.z .impl_Vip c_0.Vips.n c_0.Vips.f)])] [] = F_spec_l5Copy_U fu c_0 := by kernel_rfl
noncomputable def body_a17 : Code := Try.f82.body.getD .skip
noncomputable def lc_a17_0 : Code := ((loops 0 body_a17).getD 0 (0, .skip)).2
theorem round_a17_0 (fu : Nat) (it : St RT den → Option (Int × Nat × Nat × Nat × (Nat → S_impl_Backend) × Nat × (Nat → S_impl_Vip))) (k : Ex → St RT den → Option (Int × Nat × Nat × Nat × (Nat → S_impl_Backend) × Nat × (Nat → S_impl_Vip))) c w : evCode E (pc_a17 fu) msk_a17 (lp_a17 fu) 0 lc_a17_0 (back_a17_0 c w) (after (msk_a17 0) (msk_a17 100000) 5 it k) = Bk_a17_0 fu c k w (fun w => it (back_a17_0 c w)) := by kernel_rfl
theorem lpok_a17_0 (fu : Nat) : ∀ s k r, lp_a17 fu 0 s k = some r → ∃ fuel, iter (msk_a17 0) (msk_a17 100000) s.objs.length (evCode E (pc_a17 fu) msk_a17 (lp_a17 fu) 0 lc_a17_0) fuel s k = some r :=
  handle_ok (ps := ps_a17_0) (os := os_a17_0) (conv := conv_a17_0) (B := Bk_a17_0 fu) (fu := fu) back_a17_0 (fun raw => by kernel_rfl) 5 (fun c w => by kernel_rfl) (round_a17_0 fu)
theorem lpok_a17 (fu : Nat) : LpOk E (pc_a17 fu) msk_a17 (lp_a17 fu) (loops 0 body_a17) := loop_all 1 (by kernel_rfl) fun i hi => match i, hi with
  | 0, _ => by
    have h : (loops 0 body_a17).getD 0 (0, .skip) = (0, lc_a17_0) := by kernel_rfl
    rw [h]; exact lpok_a17_0 fu
  | i + 1, hi => absurd hi (by omega)
def S_a17 (fu : Nat) (xs : List (D RT den)) (ins : List (Ob RT den)) : Option (OutX RT den) := match xs, ins with | [.agg [.int .i64 a0_1, .rs za0_2 .impl_Backend na0_2 fa0_2, .rs za0_3 .impl_Vip na0_3 fa0_3]], [] => some ⟨Int × Nat × Nat × Nat × (Nat → S_impl_Backend) × Nat × (Nat → S_impl_Vip), F_spec_l5Copy_U fu (⟨a0_1, (⟨za0_2, na0_2, fa0_2⟩ : (Sl S_impl_Backend)), (⟨za0_3, na0_3, fa0_3⟩ : (Sl S_impl_Vip))⟩ : S_impl_Config), enc_a17⟩ | _, _ => none
theorem goodv_a17 (fu : Nat) (c_0 : S_impl_Config) (y : Int × Nat × Nat × Nat × (Nat → S_impl_Backend) × Nat × (Nat → S_impl_Vip)) (hy : F_spec_l5Copy_U fu c_0 = some y) : GoodD E Try.prog 82 [(.agg [(.int .i64 c_0.Version), (.rs c_0.Backends.z .impl_Backend c_0.Backends.n c_0.Backends.f), (.rs c_0.Vips.z .impl_Vip c_0.Vips.n c_0.Vips.f)])] [] (enc_a17 y).1 (enc_a17 y).2 :=
  funU_good E_ok (pc_good (pc := pc_a17 fu) hpc0 hpx0) (fn := Try.f82) (c := body_a17) (out := out_a17) (y := y) (by kernel_rfl) (by kernel_rfl) (by kernel_rfl) (lpok_a17 fu) (by kernel_rfl) (Nat.le_of_ble_eq_true (by kernel_rfl)) (Fulls.get 0 (And.intro (Nat.le_refl _) trivial)) (fun d os hd => out_a17_enc d os _ hd) ((ev_a17 fu c_0).trans hy)
theorem good_a17 (fu : Nat) : ∀ xs ins o, S_a17 fu xs ins = some o → ∀ y, o.x = some y → GoodD E Try.prog 82 xs ins (o.g y).1 (o.g y).2 := by
  intro xs ins o h y hy
  unfold S_a17 at h
  split at h
  · rename_i a0_1 za0_2 na0_2 fa0_2 za0_3 na0_3 fa0_3
    cases h
    exact goodv_a17 fu (⟨a0_1, (⟨za0_2, na0_2, fa0_2⟩ : (Sl S_impl_Backend)), (⟨za0_3, na0_3, fa0_3⟩ : (Sl S_impl_Vip))⟩ : S_impl_Config) y hy
  · cases h

/-! spec.FullUpdate -/
def F_spec_FullUpdate_U (fu : Nat) (c_0 : S_impl_Config) : Option (Int × Int × Int × Bool × Int × Nat × Nat × Nat × Nat × (Nat → S_impl_Backend) × Nat × (Nat → S_impl_Vip) × Nat × (Nat → S_impl_Cmd)) :=
  ((F_spec_l5Fault fu c_0).bind fun y42 => (bif (y42 != 0) then (bif (decide ((0 : Nat) = 0) && true) then (some (y42, 0, 0, false, 0, 0, 0, 0, 0, (fun _ => dflt .impl_Backend), 0,
    (fun _ => dflt .impl_Vip), 0, (fun _ => dflt .impl_Cmd))) else none) else ((F_spec_l5Copy_U fu c_0).bind fun y47 => (bif (decide (y47.2.2.1 ≤ y47.2.2.2.2.2.1) && true) then (bif (decide (y47.2.2.1 = y47.2.2.1) &&
    true) then (some (0, 0, c_0.Version, true, y47.1, y47.2.1, y47.2.2.1, 0, y47.2.1, y47.2.2.2.2.1, y47.2.2.1, y47.2.2.2.2.2.2, 0, (fun _ => dflt .impl_Cmd))) else none) else
    none))))
def pcf_a18 (fu : Nat) (f : Nat) (xs : List (D RT den)) : Option (Out RT den) := match f with | 63 => S_a16 fu xs | _ => none
def pcx_a18 (fu : Nat) (f : Nat) (xs : List (D RT den)) (ins : List (Ob RT den)) : Option (OutX RT den) := match f with | 82 => S_a17 fu xs ins | _ => none
def pcd_a18 : Nat → Bool := fun f => match f with | 82 => true | _ => false
def pc_a18 (fu : Nat) : Pc RT den := ⟨pcf_a18 fu, fun f => match f with | 82 => true | _ => false, fun _ => false, pcd_a18, pcx_a18 fu⟩
def msk_a18 (b : Nat) : List Nat := []
def lp_a18 (fu : Nat) : Lp RT den (Int × Int × Int × Bool × Int × Nat × Nat × Nat × Nat × (Nat → S_impl_Backend) × Nat × (Nat → S_impl_Vip) × Nat × (Nat → S_impl_Cmd)) := fun b s k => none
def pso_a18 : List (Pat RT) := [.agg [(.int .i64), (.int .i64), (.int .i64), .bool, (.int .i64), (.os 0), (.os 1), (.os 2)]]
def oso_a18 : List (OP RT) := [.row false .impl_Backend, .deep false .impl_Vip, .row false .impl_Cmd]
def conv_a18 (r : Raw den pso_a18 oso_a18) : Int × Int × Int × Bool × Int × Nat × Nat × Nat × Nat × (Nat → S_impl_Backend) × Nat × (Nat → S_impl_Vip) × Nat × (Nat → S_impl_Cmd) := (r.1.1.1, r.1.1.2.1, r.1.1.2.2.1, r.1.1.2.2.2.1, r.1.1.2.2.2.2.1, r.1.1.2.2.2.2.2.1, r.1.1.2.2.2.2.2.2.1, r.1.1.2.2.2.2.2.2.2.1, r.2.1.1, r.2.1.2, r.2.2.1.1, r.2.2.1.2.2, r.2.2.2.1.1, r.2.2.2.1.2)
def enc_a18 (y : Int × Int × Int × Bool × Int × Nat × Nat × Nat × Nat × (Nat → S_impl_Backend) × Nat × (Nat → S_impl_Vip) × Nat × (Nat → S_impl_Cmd)) : D RT den × List (Ob RT den) := ((.agg [(.int .i64 y.1), (.int .i64 y.2.1), (.int .i64 y.2.2.1), (.bool y.2.2.2.1), (.int .i64 y.2.2.2.2.1), (.os 0 y.2.2.2.2.2.1), (.os 1 y.2.2.2.2.2.2.1), (.os 2 y.2.2.2.2.2.2.2.1)]), [(.row false .impl_Backend y.2.2.2.2.2.2.2.2.1 y.2.2.2.2.2.2.2.2.2.1), (.deep false .impl_Vip y.2.2.2.2.2.2.2.2.2.2.1 y.2.2.2.2.2.2.2.2.2.2.1 y.2.2.2.2.2.2.2.2.2.2.2.1), (.row false .impl_Cmd y.2.2.2.2.2.2.2.2.2.2.2.2.1 y.2.2.2.2.2.2.2.2.2.2.2.2.2)])
def chk_a18 (r : Raw den pso_a18 oso_a18) : Bool := (decide (r.2.2.1.2.1 = r.2.2.1.1) && true)
def raw_a18 (r : Raw den pso_a18 oso_a18) : St RT den := ⟨[(.agg [(.int .i64 r.1.1.1), (.int .i64 r.1.1.2.1), (.int .i64 r.1.1.2.2.1), (.bool r.1.1.2.2.2.1), (.int .i64 r.1.1.2.2.2.2.1), (.os 0 r.1.1.2.2.2.2.2.1), (.os 1 r.1.1.2.2.2.2.2.2.1), (.os 2 r.1.1.2.2.2.2.2.2.2.1)])], [(.row false .impl_Backend r.2.1.1 r.2.1.2), (.deep false .impl_Vip r.2.2.1.1 r.2.2.1.2.1 r.2.2.1.2.2), (.row false .impl_Cmd r.2.2.2.1.1 r.2.2.2.1.2)]⟩
theorem chkd_a18 (r : Raw den pso_a18 oso_a18) (h : chk_a18 r = true) : raw_a18 r = ⟨[(enc_a18 (conv_a18 r)).1], (enc_a18 (conv_a18 r)).2⟩ := by
  simp only [chk_a18, Bool.and_eq_true, decide_eq_true_eq, and_true] at h
  simp only [raw_a18, enc_a18, conv_a18, h]
def out_a18 (d : D RT den) (os : List (Ob RT den)) : Option (Int × Int × Int × Bool × Int × Nat × Nat × Nat × Nat × (Nat → S_impl_Backend) × Nat × (Nat → S_impl_Vip) × Nat × (Nat → S_impl_Cmd)) := (unSt pso_a18 oso_a18 ⟨[d], os⟩).bind fun v => bif chk_a18 v.1 then some (conv_a18 v.1) else none
theorem out_a18_enc (d : D RT den) (os : List (Ob RT den)) (y : Int × Int × Int × Bool × Int × Nat × Nat × Nat × Nat × (Nat → S_impl_Backend) × Nat × (Nat → S_impl_Vip) × Nat × (Nat → S_impl_Cmd)) (h : out_a18 d os = some y) : d = (enc_a18 y).1 ∧ os = (enc_a18 y).2 :=
  outU (conv := conv_a18) (enc := enc_a18) (chk := chk_a18) (fun raw h => Eq.trans (by kernel_rfl) (chkd_a18 raw h)) h
theorem ev_a18 (fu : Nat) (c_0 : S_impl_Config) : evFunU E (pc_a18 fu) msk_a18 (lp_a18 fu) out_a18 29 [(.agg [(.int .i64 c_0.Version), (.rs c_0.Backends.z .impl_Backend c_0.Backends.n c_0.Backends.f), (.rs c_0.Vips.z .impl_Vip c_0.Vips.n c_0.Vips.f)])] [] = F_spec_FullUpdate_U fu c_0 := by kernel_rfl
noncomputable def body_a18 : Code := Try.f29.body.getD .skip
theorem lpok_a18 (fu : Nat) : LpOk E (pc_a18 fu) msk_a18 (lp_a18 fu) (loops 0 body_a18) := by
  have h : loops 0 body_a18 = [] := by kernel_rfl
  rw [h]; intro p hp; cases hp
def S_a18 (fu : Nat) (xs : List (D RT den)) (ins : List (Ob RT den)) : Option (OutX RT den) := match xs, ins with | [.agg [.int .i64 a0_1, .rs za0_2 .impl_Backend na0_2 fa0_2, .rs za0_3 .impl_Vip na0_3 fa0_3]], [] => some ⟨Int × Int × Int × Bool × Int × Nat × Nat × Nat × Nat × (Nat → S_impl_Backend) × Nat × (Nat → S_impl_Vip) × Nat × (Nat → S_impl_Cmd), F_spec_FullUpdate_U fu (⟨a0_1, (⟨za0_2, na0_2, fa0_2⟩ : (Sl S_impl_Backend)), (⟨za0_3, na0_3, fa0_3⟩ : (Sl S_impl_Vip))⟩ : S_impl_Config), enc_a18⟩ | _, _ => none
theorem hpc_a18 (fu : Nat) : ∀ f xs o, pcf_a18 fu f xs = some o → ∀ y, o.x = some y → Good E Try.prog f xs (o.g y) := by
  intro f xs o h
  unfold pcf_a18 at h
  split at h
  · exact good_a16 fu xs o h
  · cases h
theorem hpx_a18 (fu : Nat) : ∀ f xs ins o, pcx_a18 fu f xs ins = some o → ∀ y, o.x = some y → GoodXD E Try.prog (pcd_a18 f) f xs ins (o.g y).1 (o.g y).2 := by
  intro f xs ins o h
  unfold pcx_a18 at h
  split at h
  · exact good_a17 fu xs ins o h
  · cases h
theorem goodv_a18 (fu : Nat) (c_0 : S_impl_Config) (y : Int × Int × Int × Bool × Int × Nat × Nat × Nat × Nat × (Nat → S_impl_Backend) × Nat × (Nat → S_impl_Vip) × Nat × (Nat → S_impl_Cmd)) (hy : F_spec_FullUpdate_U fu c_0 = some y) : GoodD E Try.prog 29 [(.agg [(.int .i64 c_0.Version), (.rs c_0.Backends.z .impl_Backend c_0.Backends.n c_0.Backends.f), (.rs c_0.Vips.z .impl_Vip c_0.Vips.n c_0.Vips.f)])] [] (enc_a18 y).1 (enc_a18 y).2 :=
  funU_good E_ok (pc_good (pc := pc_a18 fu) (hpc_a18 fu) (hpx_a18 fu)) (fn := Try.f29) (c := body_a18) (out := out_a18) (y := y) (by kernel_rfl) (by kernel_rfl) (by kernel_rfl) (lpok_a18 fu) (by kernel_rfl) (Nat.le_of_ble_eq_true (by kernel_rfl)) (Fulls.get 0 (And.intro (Nat.le_refl _) trivial)) (fun d os hd => out_a18_enc d os _ hd) ((ev_a18 fu c_0).trans hy)
theorem good_a18 (fu : Nat) : ∀ xs ins o, S_a18 fu xs ins = some o → ∀ y, o.x = some y → GoodD E Try.prog 29 xs ins (o.g y).1 (o.g y).2 := by
  intro xs ins o h y hy
  unfold S_a18 at h
  split at h
  · rename_i a0_1 za0_2 na0_2 fa0_2 za0_3 na0_3 fa0_3
    cases h
    exact goodv_a18 fu (⟨a0_1, (⟨za0_2, na0_2, fa0_2⟩ : (Sl S_impl_Backend)), (⟨za0_3, na0_3, fa0_3⟩ : (Sl S_impl_Vip))⟩ : S_impl_Config) y hy
  · cases h

/-! slices.Clone[[]impl.Backend,impl.Backend] -/
def F_slices_Clone_impl_Backend_impl_Backend_H_raw (fu : Nat) (s_0 : (Sl S_impl_Backend)) : Option ((Sl S_impl_Backend)) :=
  ((s_0.z).bind fun b52 => (bif b52 then (some (⟨(some true), 0, (fun _ => dflt .impl_Backend)⟩ : (Sl S_impl_Backend))) else (bif (decide (s_0.n ≤ 9223372036854775807) && decide (s_0.n * 40 ≤ 140737488355328)) then
    (some (⟨none, s_0.n, s_0.f⟩ : (Sl S_impl_Backend))) else none)))
def pc_a19r (fu : Nat) : Pc RT den := ⟨pcf0, fun _ => false, fun _ => false, pcd0, pcx0⟩
def msk_a19r (b : Nat) : List Nat := []
def lp_a19r (fu : Nat) : Lp RT den ((Sl S_impl_Backend)) := fun b s k => none
theorem ev_a19r (fu : Nat) (s_0 : (Sl S_impl_Backend)) : evFunX E false (pc_a19r fu) msk_a19r (lp_a19r fu) out_sl_impl_Backend_H 181 [(.rs s_0.z .impl_Backend s_0.n s_0.f)] [] = F_slices_Clone_impl_Backend_impl_Backend_H_raw fu s_0 := by kernel_rfl
noncomputable def body_a19r : Code := Try.f181.body.getD .skip
theorem lpok_a19r (fu : Nat) : LpOk E (pc_a19r fu) msk_a19r (lp_a19r fu) (loops 0 body_a19r) := by
  have h : loops 0 body_a19r = [] := by kernel_rfl
  rw [h]; intro p hp; cases hp
def S_a19r (fu : Nat) (xs : List (D RT den)) (ins : List (Ob RT den)) : Option (OutX RT den) := match xs, ins with | [.rs za0_0 .impl_Backend na0_0 fa0_0], [] => some ⟨(Sl S_impl_Backend), F_slices_Clone_impl_Backend_impl_Backend_H_raw fu (⟨za0_0, na0_0, fa0_0⟩ : (Sl S_impl_Backend)), enc_sl_impl_Backend_H⟩ | _, _ => none
theorem goodv_a19r (fu : Nat) (s_0 : (Sl S_impl_Backend)) (y : (Sl S_impl_Backend)) (hy : F_slices_Clone_impl_Backend_impl_Backend_H_raw fu s_0 = some y) : GoodX E Try.prog 181 [(.rs s_0.z .impl_Backend s_0.n s_0.f)] [] (enc_sl_impl_Backend_H y).1 (enc_sl_impl_Backend_H y).2 :=
  funX_good (ke := false) E_ok (pc_good (pc := pc_a19r fu) hpc0 hpx0) (fn := Try.f181) (c := body_a19r) (out := out_sl_impl_Backend_H) (y := y) (by kernel_rfl) (by kernel_rfl) (by kernel_rfl) (lpok_a19r fu) (by kernel_rfl) (Nat.zero_le _) (fun d os hd => out_sl_impl_Backend_H_enc d os _ hd) ((ev_a19r fu s_0).trans hy)
def F_slices_Clone_impl_Backend_impl_Backend_H (fu : Nat) (s_0 : (Sl S_impl_Backend)) : Option ((Sl S_impl_Backend)) := bif decide (s_0.n ≤ 9223372036854775807) && decide (s_0.n * 40 ≤ 140737488355328) then some ⟨none, s_0.n, s_0.f⟩ else none
def S_a19 (fu : Nat) (xs : List (D RT den)) (ins : List (Ob RT den)) : Option (OutX RT den) := match xs, ins with | [.rs za0_0 .impl_Backend na0_0 fa0_0], [] => some ⟨(Sl S_impl_Backend), F_slices_Clone_impl_Backend_impl_Backend_H fu (⟨za0_0, na0_0, fa0_0⟩ : (Sl S_impl_Backend)), enc_sl_impl_Backend_H⟩ | _, _ => none
theorem good_a19 (fu : Nat) : ∀ xs ins o, S_a19 fu xs ins = some o → ∀ y, o.x = some y → GoodX E Try.prog 181 xs ins (o.g y).1 (o.g y).2 := by
  intro xs ins o h y hy
  unfold S_a19 at h
  split at h
  · rename_i za0_0 na0_0 fa0_0
    cases h
    have hy : F_slices_Clone_impl_Backend_impl_Backend_H fu ⟨za0_0, na0_0, fa0_0⟩ = some y := hy
    unfold F_slices_Clone_impl_Backend_impl_Backend_H at hy
    dsimp only at hy
    cases hc : (decide (na0_0 ≤ 9223372036854775807) && decide (na0_0 * 40 ≤ 140737488355328)) with
    | false => rw [hc] at hy; cases hy
    | true =>
      rw [hc] at hy
      have hy := Option.some.inj hy; subst hy
      refine GoodX.clone (d0 := fun _ => dflt .impl_Backend) (goodv_a19r fu ⟨some true, na0_0, fa0_0⟩ ⟨some true, 0, fun _ => dflt .impl_Backend⟩ rfl) (goodv_a19r fu ⟨some false, na0_0, fa0_0⟩ ⟨none, na0_0, fa0_0⟩ ?_) _
      unfold F_slices_Clone_impl_Backend_impl_Backend_H_raw
      simp only [Option.bind_some, cond_false, hc, cond_true]
  · cases h

/-! slices.Clone[[]impl.Vip,impl.Vip] -/
def F_slices_Clone_impl_Vip_impl_Vip_M_raw (fu : Nat) (s_0 : (Sl S_impl_Vip)) : Option (Nat × Nat × (Nat → S_impl_Vip)) :=
  ((s_0.z).bind fun b54 => (bif b54 then (some (0, 0, (fun _ => dflt .impl_Vip))) else (bif (decide (s_0.n ≤ 9223372036854775807) && decide (s_0.n * 48 ≤ 140737488355328)) then
    (some (s_0.n, s_0.n, s_0.f)) else none)))
def pc_a20r (fu : Nat) : Pc RT den := ⟨pcf0, fun _ => false, fun _ => false, pcd0, pcx0⟩
def msk_a20r (b : Nat) : List Nat := []
def lp_a20r (fu : Nat) : Lp RT den (Nat × Nat × (Nat → S_impl_Vip)) := fun b s k => none
def pso_a20r : List (Pat RT) := [.flat (.os 0)]
def oso_a20r : List (OP RT) := [.row false .impl_Vip]
def conv_a20r (r : Raw den pso_a20r oso_a20r) : Nat × Nat × (Nat → S_impl_Vip) := (r.1.1, r.2.1.1, r.2.1.2)
def enc_a20r (y : Nat × Nat × (Nat → S_impl_Vip)) : D RT den × List (Ob RT den) := ((.os 0 y.1), [(.row false .impl_Vip y.2.1 y.2.2)])
def out_a20r (d : D RT den) (os : List (Ob RT den)) : Option (Nat × Nat × (Nat → S_impl_Vip)) := (unSt pso_a20r oso_a20r ⟨[d], os⟩).bind fun v => some (conv_a20r v.1)
theorem out_a20r_enc (d : D RT den) (os : List (Ob RT den)) (y : Nat × Nat × (Nat → S_impl_Vip)) (h : out_a20r d os = some y) : d = (enc_a20r y).1 ∧ os = (enc_a20r y).2 :=
  outM (conv := conv_a20r) (enc := enc_a20r) (fun raw => by kernel_rfl) h
theorem ev_a20r (fu : Nat) (s_0 : (Sl S_impl_Vip)) : evFunM E false (pc_a20r fu) msk_a20r (lp_a20r fu) out_a20r 182 [(.rs s_0.z .impl_Vip s_0.n s_0.f)] [] = F_slices_Clone_impl_Vip_impl_Vip_M_raw fu s_0 := by kernel_rfl
noncomputable def body_a20r : Code := Try.f182.body.getD .skip
theorem lpok_a20r (fu : Nat) : LpOk E (pc_a20r fu) msk_a20r (lp_a20r fu) (loops 0 body_a20r) := by
  have h : loops 0 body_a20r = [] := by kernel_rfl
  rw [h]; intro p hp; cases hp
def S_a20r (fu : Nat) (xs : List (D RT den)) (ins : List (Ob RT den)) : Option (OutX RT den) := match xs, ins with | [.rs za0_0 .impl_Vip na0_0 fa0_0], [] => some ⟨Nat × Nat × (Nat → S_impl_Vip), F_slices_Clone_impl_Vip_impl_Vip_M_raw fu (⟨za0_0, na0_0, fa0_0⟩ : (Sl S_impl_Vip)), enc_a20r⟩ | _, _ => none
theorem goodv_a20r (fu : Nat) (s_0 : (Sl S_impl_Vip)) (y : Nat × Nat × (Nat → S_impl_Vip)) (hy : F_slices_Clone_impl_Vip_impl_Vip_M_raw fu s_0 = some y) : GoodX E Try.prog 182 [(.rs s_0.z .impl_Vip s_0.n s_0.f)] [] (enc_a20r y).1 (enc_a20r y).2 :=
  funM_good (ke := false) E_ok (pc_good (pc := pc_a20r fu) hpc0 hpx0) (fn := Try.f182) (c := body_a20r) (out := out_a20r) (y := y) (by kernel_rfl) (by kernel_rfl) (by kernel_rfl) (lpok_a20r fu) (by kernel_rfl) (Nat.le_of_ble_eq_true (by kernel_rfl)) (fun d os hd => out_a20r_enc d os _ hd) ((ev_a20r fu s_0).trans hy)
def F_slices_Clone_impl_Vip_impl_Vip_M (fu : Nat) (s_0 : (Sl S_impl_Vip)) : Option (Nat × Nat × (Nat → S_impl_Vip)) := bif decide (s_0.n ≤ 9223372036854775807) && decide (s_0.n * 48 ≤ 140737488355328) then some (s_0.n, s_0.n, s_0.f) else none
def S_a20 (fu : Nat) (xs : List (D RT den)) (ins : List (Ob RT den)) : Option (OutX RT den) := match xs, ins with | [.rs za0_0 .impl_Vip na0_0 fa0_0], [] => some ⟨Nat × Nat × (Nat → S_impl_Vip), F_slices_Clone_impl_Vip_impl_Vip_M fu (⟨za0_0, na0_0, fa0_0⟩ : (Sl S_impl_Vip)), enc_a20r⟩ | _, _ => none
theorem good_a20 (fu : Nat) : ∀ xs ins o, S_a20 fu xs ins = some o → ∀ y, o.x = some y → GoodX E Try.prog 182 xs ins (o.g y).1 (o.g y).2 := by
  intro xs ins o h y hy
  unfold S_a20 at h
  split at h
  · rename_i za0_0 na0_0 fa0_0
    cases h
    have hy : F_slices_Clone_impl_Vip_impl_Vip_M fu ⟨za0_0, na0_0, fa0_0⟩ = some y := hy
    unfold F_slices_Clone_impl_Vip_impl_Vip_M at hy
    dsimp only at hy
    cases hc : (decide (na0_0 ≤ 9223372036854775807) && decide (na0_0 * 48 ≤ 140737488355328)) with
    | false => rw [hc] at hy; cases hy
    | true =>
      rw [hc] at hy
      have hy := Option.some.inj hy; subst hy
      refine GoodX.clone (d0 := fun _ => dflt .impl_Vip) (goodv_a20r fu ⟨some true, na0_0, fa0_0⟩ ⟨0, 0, fun _ => dflt .impl_Vip⟩ rfl) (goodv_a20r fu ⟨some false, na0_0, fa0_0⟩ ⟨na0_0, na0_0, fa0_0⟩ ?_) _
      unfold F_slices_Clone_impl_Vip_impl_Vip_M_raw
      simp only [Option.bind_some, cond_false, hc, cond_true]
  · cases h

/-! slices.Clone[[]int64,int64] -/
def F_slices_Clone_int64_int64_H_raw (fu : Nat) (s_0 : (Sl Int)) : Option ((Sl Int)) :=
  ((s_0.z).bind fun b57 => (bif b57 then (some (⟨(some true), 0, (fun _ => dflt .i64)⟩ : (Sl Int))) else (bif (decide (s_0.n ≤ 9223372036854775807) && decide (s_0.n * 8 ≤ 140737488355328)) then
    (some (⟨none, s_0.n, s_0.f⟩ : (Sl Int))) else none)))
def pc_a21r (fu : Nat) : Pc RT den := ⟨pcf0, fun _ => false, fun _ => false, pcd0, pcx0⟩
def msk_a21r (b : Nat) : List Nat := []
def lp_a21r (fu : Nat) : Lp RT den ((Sl Int)) := fun b s k => none
theorem ev_a21r (fu : Nat) (s_0 : (Sl Int)) : evFunX E false (pc_a21r fu) msk_a21r (lp_a21r fu) out_sl_i64_H 183 [(.rs s_0.z .i64 s_0.n s_0.f)] [] = F_slices_Clone_int64_int64_H_raw fu s_0 := by kernel_rfl
noncomputable def body_a21r : Code := Try.f183.body.getD .skip
theorem lpok_a21r (fu : Nat) : LpOk E (pc_a21r fu) msk_a21r (lp_a21r fu) (loops 0 body_a21r) := by
  have h : loops 0 body_a21r = [] := by kernel_rfl
  rw [h]; intro p hp; cases hp
def S_a21r (fu : Nat) (xs : List (D RT den)) (ins : List (Ob RT den)) : Option (OutX RT den) := match xs, ins with | [.rs za0_0 .i64 na0_0 fa0_0], [] => some ⟨(Sl Int), F_slices_Clone_int64_int64_H_raw fu (⟨za0_0, na0_0, fa0_0⟩ : (Sl Int)), enc_sl_i64_H⟩ | _, _ => none
theorem goodv_a21r (fu : Nat) (s_0 : (Sl Int)) (y : (Sl Int)) (hy : F_slices_Clone_int64_int64_H_raw fu s_0 = some y) : GoodX E Try.prog 183 [(.rs s_0.z .i64 s_0.n s_0.f)] [] (enc_sl_i64_H y).1 (enc_sl_i64_H y).2 :=
  funX_good (ke := false) E_ok (pc_good (pc := pc_a21r fu) hpc0 hpx0) (fn := Try.f183) (c := body_a21r) (out := out_sl_i64_H) (y := y) (by kernel_rfl) (by kernel_rfl) (by kernel_rfl) (lpok_a21r fu) (by kernel_rfl) (Nat.zero_le _) (fun d os hd => out_sl_i64_H_enc d os _ hd) ((ev_a21r fu s_0).trans hy)
def F_slices_Clone_int64_int64_H (fu : Nat) (s_0 : (Sl Int)) : Option ((Sl Int)) := bif decide (s_0.n ≤ 9223372036854775807) && decide (s_0.n * 8 ≤ 140737488355328) then some ⟨none, s_0.n, s_0.f⟩ else none
def S_a21 (fu : Nat) (xs : List (D RT den)) (ins : List (Ob RT den)) : Option (OutX RT den) := match xs, ins with | [.rs za0_0 .i64 na0_0 fa0_0], [] => some ⟨(Sl Int), F_slices_Clone_int64_int64_H fu (⟨za0_0, na0_0, fa0_0⟩ : (Sl Int)), enc_sl_i64_H⟩ | _, _ => none
theorem good_a21 (fu : Nat) : ∀ xs ins o, S_a21 fu xs ins = some o → ∀ y, o.x = some y → GoodX E Try.prog 183 xs ins (o.g y).1 (o.g y).2 := by
  intro xs ins o h y hy
  unfold S_a21 at h
  split at h
  · rename_i za0_0 na0_0 fa0_0
    cases h
    have hy : F_slices_Clone_int64_int64_H fu ⟨za0_0, na0_0, fa0_0⟩ = some y := hy
    unfold F_slices_Clone_int64_int64_H at hy
    dsimp only at hy
    cases hc : (decide (na0_0 ≤ 9223372036854775807) && decide (na0_0 * 8 ≤ 140737488355328)) with
    | false => rw [hc] at hy; cases hy
    | true =>
      rw [hc] at hy
      have hy := Option.some.inj hy; subst hy
      refine GoodX.clone (d0 := fun _ => dflt .i64) (goodv_a21r fu ⟨some true, na0_0, fa0_0⟩ ⟨some true, 0, fun _ => dflt .i64⟩ rfl) (goodv_a21r fu ⟨some false, na0_0, fa0_0⟩ ⟨none, na0_0, fa0_0⟩ ?_) _
      unfold F_slices_Clone_int64_int64_H_raw
      simp only [Option.bind_some, cond_false, hc, cond_true]
  · cases h

/-! (impl.Config).copied -/
def F_impl_Config_copied_U_B0 {ρ : Type} (fu : Nat) (t14_0 : Nat) (t15_1 : Int) (o0_3 : Int) (o1_4 : Int) (o1_5 : Nat) (o1_6 : Nat) (on2_7 : Nat) (of2_8 : (Nat → S_impl_Backend)) (on3_9 : Nat) (k0 : Nat → (Nat → S_impl_Vip) → Option ρ) (t16_2 : Int) (op3_10 : Nat) (of3_11 : (Nat → S_impl_Vip)) (go : Int → Nat → (Nat → S_impl_Vip) → Option ρ) : Option ρ :=
  (bif (decide (t16_2 < t15_1)) then ((bif (decide (0 ≤ t16_2) && decide ((Int.toNat t16_2) < t14_0)) then some () else none : Option Unit).bind fun _ => ((bif (decide (op3_10 ≤ (Int.toNat t16_2))) then
    some () else none : Option Unit).bind fun _ => ((F_slices_Clone_int64_int64_H fu (of3_11 (Int.toNat t16_2)).Names).bind fun y61 => ((bif (decide (0 ≤ t16_2) && decide ((Int.toNat t16_2) < o1_6)) then
    some () else none : Option Unit).bind fun _ => (bif (decide ((Int.toNat t16_2) = op3_10)) then (go (IntKind.wrap .i64 (t16_2 + 1)) (op3_10 + 1) (upd_impl_Vip_3_1 of3_11 (Int.toNat t16_2) (⟨none,
    y61.n, y61.f⟩ : (Sl Int)))) else none))))) else (k0 op3_10 of3_11))
def F_impl_Config_copied_U (fu : Nat) (c_0 : S_impl_Config) : Option (Int × Nat × Nat × Nat × (Nat → S_impl_Backend) × Nat × (Nat → S_impl_Vip)) :=
  ((F_slices_Clone_impl_Backend_impl_Backend_H fu c_0.Backends).bind fun y59 => ((F_slices_Clone_impl_Vip_impl_Vip_M fu c_0.Vips).bind fun y60 => (L (fun w0 go0 =>
    F_impl_Config_copied_U_B0 fu y60.1 ((y60.1 : Nat) : Int) 0 c_0.Version y59.n y60.1 y59.n y59.f y60.2.1 (fun z62 z63 => (bif (decide (y60.1 ≤ z62) && true) then (bif (decide (y60.1 = y60.1) &&
    true) then (some (c_0.Version, y59.n, y60.1, y59.n, y59.f, y60.1, z63)) else none) else none)) w0.1 w0.2.1 w0.2.2 (fun q0 q1 q2 => go0 (q0, q1, q2))) fu ((0, 0, y60.2.2) : Int × Nat × (Nat → S_impl_Vip)))))
def pcx_a22 (fu : Nat) (f : Nat) (xs : List (D RT den)) (ins : List (Ob RT den)) : Option (OutX RT den) := match f with | 181 => S_a19 fu xs ins | 182 => S_a20 fu xs ins | 183 => S_a21 fu xs ins | _ => none
def pcd_a22 : Nat → Bool := fun _ => false
def pc_a22 (fu : Nat) : Pc RT den := ⟨pcf0, fun f => match f with | 181 => true | 182 => true | 183 => true | _ => false, fun f => match f with | 182 => true | _ => false, pcd_a22, pcx_a22 fu⟩
def msk_a22 (b : Nat) : List Nat := match b with | 0 => [0, 3, 4, 5, 6, 7, 8, 9, 10, 11, 12, 13, 17, 18, 19, 20, 21, 22, 23, 24, 25, 26, 27, 28, 29, 30] | 100000 => [0, 3, 4, 5, 6, 7, 8, 9, 10, 11, 12, 13, 14, 15, 16, 17, 18, 19, 20, 21, 22, 23, 24, 25, 26, 27, 28, 29, 30] | 300000 => [5000003] | _ => []
def ps_a22_0 : List (Pat RT) := [.flat .q, .flat (.ref 1 0), .flat (.ref 0 0), .flat .q, .flat .q, .flat .q, .flat .q, .flat .q, .flat .q, .flat .q, .flat .q, .flat .q, .flat .q, .flat .q, .flat (.os 3), .flat (.int .i64), .flat (.int .i64), .flat .q, .flat .q, .flat .q, .flat .q, .flat .q, .flat .q, .flat .q, .flat .q, .flat .q, .flat .q, .flat .q, .flat .q, .flat .q, .flat .q]
def os_a22_0 : List (OP RT) := [.box false [(.int .i64), (.emp true .impl_Backend), (.emp true .impl_Vip)], .box false [(.int .i64), (.os 2), (.os 3)], .row false .impl_Backend, .deep false .impl_Vip]
def conv_a22_0 (r : Raw den ps_a22_0 os_a22_0) : (Nat × Int × Int × Int × Nat × Nat × Nat × (Nat → S_impl_Backend) × Nat) × (Int × Nat × (Nat → S_impl_Vip)) := ((r.1.2.2.2.2.2.2.2.2.2.2.2.2.2.2.1, r.1.2.2.2.2.2.2.2.2.2.2.2.2.2.2.2.1, r.2.1.1, r.2.2.1.1, r.2.2.1.2.1, r.2.2.1.2.2.1, r.2.2.2.1.1, r.2.2.2.1.2, r.2.2.2.2.1.1), (r.1.2.2.2.2.2.2.2.2.2.2.2.2.2.2.2.2.1, r.2.2.2.2.1.2.1, r.2.2.2.2.1.2.2))
def back_a22_0 (c : Nat × Int × Int × Int × Nat × Nat × Nat × (Nat → S_impl_Backend) × Nat) (w : Int × Nat × (Nat → S_impl_Vip)) : St RT den := ⟨[.q, (.ref 1 0), (.ref 0 0), .q, .q, .q, .q, .q, .q, .q, .q, .q, .q, .q, (.os 3 c.1), (.int .i64 c.2.1), (.int .i64 w.1), .q, .q, .q, .q, .q, .q, .q, .q, .q, .q, .q, .q, .q, .q], [(.box false [(.int .i64 c.2.2.1), (.emp true .impl_Backend), (.emp true .impl_Vip)]), (.box false [(.int .i64 c.2.2.2.1), (.os 2 c.2.2.2.2.1), (.os 3 c.2.2.2.2.2.1)]), (.row false .impl_Backend c.2.2.2.2.2.2.1 c.2.2.2.2.2.2.2.1), (.deep false .impl_Vip c.2.2.2.2.2.2.2.2 w.2.1 w.2.2)]⟩
def Bk_a22_0 {ρ : Type} (fu : Nat) (c : Nat × Int × Int × Int × Nat × Nat × Nat × (Nat → S_impl_Backend) × Nat) (k : Ex → St RT den → Option ρ) (w : Int × Nat × (Nat → S_impl_Vip)) (go : (Int × Nat × (Nat → S_impl_Vip)) → Option ρ) : Option ρ := F_impl_Config_copied_U_B0 fu c.1 c.2.1 c.2.2.1 c.2.2.2.1 c.2.2.2.2.1 c.2.2.2.2.2.1 c.2.2.2.2.2.2.1 c.2.2.2.2.2.2.2.1 c.2.2.2.2.2.2.2.2 (fun a0 a1 => k (.exit 0) ⟨[.q, (.ref 1 0), (.ref 0 0), .q, .q, .q, .q, .q, .q, .q, .q, .q, .q, .q, .q, .q, .q, .q, .q, .q, .q, .q, .q, .q, .q, .q, .q, .q, .q, .q, .q], [(.box false [(.int .i64 c.2.2.1), (.emp true .impl_Backend), (.emp true .impl_Vip)]), (.box false [(.int .i64 c.2.2.2.1), (.os 2 c.2.2.2.2.1), (.os 3 c.2.2.2.2.2.1)]), (.row false .impl_Backend c.2.2.2.2.2.2.1 c.2.2.2.2.2.2.2.1), (.deep false .impl_Vip c.2.2.2.2.2.2.2.2 a0 a1)]⟩) w.1 w.2.1 w.2.2 (fun q0 q1 q2 => go (q0, q1, q2))
def lp_a22 (fu : Nat) : Lp RT den (Int × Nat × Nat × Nat × (Nat → S_impl_Backend) × Nat × (Nat → S_impl_Vip)) := fun b s k => match b with | 0 => handle ps_a22_0 os_a22_0 conv_a22_0 (Bk_a22_0 fu) fu s k | _ => none
def pso_a22 : List (Pat RT) := [.agg [(.int .i64), (.os 0), (.os 1)]]
def oso_a22 : List (OP RT) := [.row false .impl_Backend, .deep false .impl_Vip]
def conv_a22 (r : Raw den pso_a22 oso_a22) : Int × Nat × Nat × Nat × (Nat → S_impl_Backend) × Nat × (Nat → S_impl_Vip) := (r.1.1.1, r.1.1.2.1, r.1.1.2.2.1, r.2.1.1, r.2.1.2, r.2.2.1.1, r.2.2.1.2.2)
def enc_a22 (y : Int × Nat × Nat × Nat × (Nat → S_impl_Backend) × Nat × (Nat → S_impl_Vip)) : D RT den × List (Ob RT den) := ((.agg [(.int .i64 y.1), (.os 0 y.2.1), (.os 1 y.2.2.1)]), [(.row false .impl_Backend y.2.2.2.1 y.2.2.2.2.1), (.deep false .impl_Vip y.2.2.2.2.2.1 y.2.2.2.2.2.1 y.2.2.2.2.2.2)])
def chk_a22 (r : Raw den pso_a22 oso_a22) : Bool := (decide (r.2.2.1.2.1 = r.2.2.1.1) && true)
def raw_a22 (r : Raw den pso_a22 oso_a22) : St RT den := ⟨[(.agg [(.int .i64 r.1.1.1), (.os 0 r.1.1.2.1), (.os 1 r.1.1.2.2.1)])], [(.row false .impl_Backend r.2.1.1 r.2.1.2), (.deep false .impl_Vip r.2.2.1.1 r.2.2.1.2.1 r.2.2.1.2.2)]⟩
theorem chkd_a22 (r : Raw den pso_a22 oso_a22) (h : chk_a22 r = true) : raw_a22 r = ⟨[(enc_a22 (conv_a22 r)).1], (enc_a22 (conv_a22 r)).2⟩ := by
  simp only [chk_a22, Bool.and_eq_true, decide_eq_true_eq, and_true] at h
  simp only [raw_a22, enc_a22, conv_a22, h]
def out_a22 (d : D RT den) (os : List (Ob RT den)) : Option (Int × Nat × Nat × Nat × (Nat → S_impl_Backend) × Nat × (Nat → S_impl_Vip)) := (unSt pso_a22 oso_a22 ⟨[d], os⟩).bind fun v => bif chk_a22 v.1 then some (conv_a22 v.1) else none
theorem out_a22_enc (d : D RT den) (os : List (Ob RT den)) (y : Int × Nat × Nat × Nat × (Nat → S_impl_Backend) × Nat × (Nat → S_impl_Vip)) (h : out_a22 d os = some y) : d = (enc_a22 y).1 ∧ os = (enc_a22 y).2 :=
  outU (conv := conv_a22) (enc := enc_a22) (chk := chk_a22) (fun raw h => Eq.trans (by kernel_rfl) (chkd_a22 raw h)) h
theorem ev_a22 (fu : Nat) (c_0 : S_impl_Config) : evFunU E (pc_a22 fu) msk_a22 (lp_a22 fu) out_a22 140 [(.agg [(.int .i64 c_0.Version), (.rs c_0.Backends.z .impl_Backend c_0.Backends.n c_0.Backends.f), (.rs c_0.Vips.z .impl_Vip c_0.Vips.n c_0.Vips.f)])] [] = F_impl_Config_copied_U fu c_0 := by kernel_rfl
noncomputable def body_a22 : Code := Try.f140.body.getD .skip
noncomputable def lc_a22_0 : Code := ((loops 0 body_a22).getD 0 (0, .skip)).2
theorem round_a22_0 (fu : Nat) (it : St RT den → Option (Int × Nat × Nat × Nat × (Nat → S_impl_Backend) × Nat × (Nat → S_impl_Vip))) (k : Ex → St RT den → Option (Int × Nat × Nat × Nat × (Nat → S_impl_Backend) × Nat × (Nat → S_impl_Vip))) c w : evCode E (pc_a22 fu) msk_a22 (lp_a22 fu) 0 lc_a22_0 (back_a22_0 c w) (after (msk_a22 0) (msk_a22 100000) 4 it k) = Bk_a22_0 fu c k w (fun w => it (back_a22_0 c w)) := by kernel_rfl
theorem lpok_a22_0 (fu : Nat) : ∀ s k r, lp_a22 fu 0 s k = some r → ∃ fuel, iter (msk_a22 0) (msk_a22 100000) s.objs.length (evCode E (pc_a22 fu) msk_a22 (lp_a22 fu) 0 lc_a22_0) fuel s k = some r :=
  handle_ok (ps := ps_a22_0) (os := os_a22_0) (conv := conv_a22_0) (B := Bk_a22_0 fu) (fu := fu) back_a22_0 (fun raw => by kernel_rfl) 4 (fun c w => by kernel_rfl) (round_a22_0 fu)
theorem lpok_a22 (fu : Nat) : LpOk E (pc_a22 fu) msk_a22 (lp_a22 fu) (loops 0 body_a22) := loop_all 1 (by kernel_rfl) fun i hi => match i, hi with
  | 0, _ => by
    have h : (loops 0 body_a22).getD 0 (0, .skip) = (0, lc_a22_0) := by kernel_rfl
    rw [h]; exact lpok_a22_0 fu
  | i + 1, hi => absurd hi (by omega)
def S_a22 (fu : Nat) (xs : List (D RT den)) (ins : List (Ob RT den)) : Option (OutX RT den) := match xs, ins with | [.agg [.int .i64 a0_1, .rs za0_2 .impl_Backend na0_2 fa0_2, .rs za0_3 .impl_Vip na0_3 fa0_3]], [] => some ⟨Int × Nat × Nat × Nat × (Nat → S_impl_Backend) × Nat × (Nat → S_impl_Vip), F_impl_Config_copied_U fu (⟨a0_1, (⟨za0_2, na0_2, fa0_2⟩ : (Sl S_impl_Backend)), (⟨za0_3, na0_3, fa0_3⟩ : (Sl S_impl_Vip))⟩ : S_impl_Config), enc_a22⟩ | _, _ => none
theorem hpx_a22 (fu : Nat) : ∀ f xs ins o, pcx_a22 fu f xs ins = some o → ∀ y, o.x = some y → GoodXD E Try.prog (pcd_a22 f) f xs ins (o.g y).1 (o.g y).2 := by
  intro f xs ins o h
  unfold pcx_a22 at h
  split at h
  · exact good_a19 fu xs ins o h
  · exact good_a20 fu xs ins o h
  · exact good_a21 fu xs ins o h
  · cases h
theorem goodv_a22 (fu : Nat) (c_0 : S_impl_Config) (y : Int × Nat × Nat × Nat × (Nat → S_impl_Backend) × Nat × (Nat → S_impl_Vip)) (hy : F_impl_Config_copied_U fu c_0 = some y) : GoodD E Try.prog 140 [(.agg [(.int .i64 c_0.Version), (.rs c_0.Backends.z .impl_Backend c_0.Backends.n c_0.Backends.f), (.rs c_0.Vips.z .impl_Vip c_0.Vips.n c_0.Vips.f)])] [] (enc_a22 y).1 (enc_a22 y).2 :=
  funU_good E_ok (pc_good (pc := pc_a22 fu) hpc0 (hpx_a22 fu)) (fn := Try.f140) (c := body_a22) (out := out_a22) (y := y) (by kernel_rfl) (by kernel_rfl) (by kernel_rfl) (lpok_a22 fu) (by kernel_rfl) (Nat.le_of_ble_eq_true (by kernel_rfl)) (Fulls.get 0 (And.intro (Nat.le_refl _) trivial)) (fun d os hd => out_a22_enc d os _ hd) ((ev_a22 fu c_0).trans hy)
theorem good_a22 (fu : Nat) : ∀ xs ins o, S_a22 fu xs ins = some o → ∀ y, o.x = some y → GoodD E Try.prog 140 xs ins (o.g y).1 (o.g y).2 := by
  intro xs ins o h y hy
  unfold S_a22 at h
  split at h
  · rename_i a0_1 za0_2 na0_2 fa0_2 za0_3 na0_3 fa0_3
    cases h
    exact goodv_a22 fu (⟨a0_1, (⟨za0_2, na0_2, fa0_2⟩ : (Sl S_impl_Backend)), (⟨za0_3, na0_3, fa0_3⟩ : (Sl S_impl_Vip))⟩ : S_impl_Config) y hy
  · cases h

/-! impl.full -/
def F_impl_full_U (fu : Nat) (c_0 : S_impl_Config) : Option (Int × Int × Bool × Int × Nat × Nat × Nat × Nat × (Nat → S_impl_Backend) × Nat × (Nat → S_impl_Vip) × Nat × (Nat → S_impl_Cmd)) :=
  ((F_impl_Config_copied_U fu c_0).bind fun y64 => (bif (decide (y64.2.2.1 ≤ y64.2.2.2.2.2.1) && true) then (bif (decide (y64.2.2.1 = y64.2.2.1) && true) then (some (0, c_0.Version,
    true, y64.1, y64.2.1, y64.2.2.1, 0, y64.2.1, y64.2.2.2.2.1, y64.2.2.1, y64.2.2.2.2.2.2, 0, (fun _ => dflt .impl_Cmd))) else none) else none))
def pcx_a23 (fu : Nat) (f : Nat) (xs : List (D RT den)) (ins : List (Ob RT den)) : Option (OutX RT den) := match f with | 140 => S_a22 fu xs ins | _ => none
def pcd_a23 : Nat → Bool := fun f => match f with | 140 => true | _ => false
def pc_a23 (fu : Nat) : Pc RT den := ⟨pcf0, fun f => match f with | 140 => true | _ => false, fun _ => false, pcd_a23, pcx_a23 fu⟩
def msk_a23 (b : Nat) : List Nat := []
def lp_a23 (fu : Nat) : Lp RT den (Int × Int × Bool × Int × Nat × Nat × Nat × Nat × (Nat → S_impl_Backend) × Nat × (Nat → S_impl_Vip) × Nat × (Nat → S_impl_Cmd)) := fun b s k => none
def pso_a23 : List (Pat RT) := [.agg [(.int .i64), (.int .i64), .bool, (.int .i64), (.os 0), (.os 1), (.os 2)]]
def oso_a23 : List (OP RT) := [.row false .impl_Backend, .deep false .impl_Vip, .row false .impl_Cmd]
def conv_a23 (r : Raw den pso_a23 oso_a23) : Int × Int × Bool × Int × Nat × Nat × Nat × Nat × (Nat → S_impl_Backend) × Nat × (Nat → S_impl_Vip) × Nat × (Nat → S_impl_Cmd) := (r.1.1.1, r.1.1.2.1, r.1.1.2.2.1, r.1.1.2.2.2.1, r.1.1.2.2.2.2.1, r.1.1.2.2.2.2.2.1, r.1.1.2.2.2.2.2.2.1, r.2.1.1, r.2.1.2, r.2.2.1.1, r.2.2.1.2.2, r.2.2.2.1.1, r.2.2.2.1.2)
def enc_a23 (y : Int × Int × Bool × Int × Nat × Nat × Nat × Nat × (Nat → S_impl_Backend) × Nat × (Nat → S_impl_Vip) × Nat × (Nat → S_impl_Cmd)) : D RT den × List (Ob RT den) := ((.agg [(.int .i64 y.1), (.int .i64 y.2.1), (.bool y.2.2.1), (.int .i64 y.2.2.2.1), (.os 0 y.2.2.2.2.1), (.os 1 y.2.2.2.2.2.1), (.os 2 y.2.2.2.2.2.2.1)]), [(.row false .impl_Backend y.2.2.2.2.2.2.2.1 y.2.2.2.2.2.2.2.2.1), (.deep false .impl_Vip y.2.2.2.2.2.2.2.2.2.1 y.2.2.2.2.2.2.2.2.2.1 y.2.2.2.2.2.2.2.2.2.2.1), (.row false .impl_Cmd y.2.2.2.2.2.2.2.2.2.2.2.1 y.2.2.2.2.2.2.2.2.2.2.2.2)])
def chk_a23 (r : Raw den pso_a23 oso_a23) : Bool := (decide (r.2.2.1.2.1 = r.2.2.1.1) && true)
def raw_a23 (r : Raw den pso_a23 oso_a23) : St RT den := ⟨[(.agg [(.int .i64 r.1.1.1), (.int .i64 r.1.1.2.1), (.bool r.1.1.2.2.1), (.int .i64 r.1.1.2.2.2.1), (.os 0 r.1.1.2.2.2.2.1), (.os 1 r.1.1.2.2.2.2.2.1), (.os 2 r.1.1.2.2.2.2.2.2.1)])], [(.row false .impl_Backend r.2.1.1 r.2.1.2), (.deep false .impl_Vip r.2.2.1.1 r.2.2.1.2.1 r.2.2.1.2.2), (.row false .impl_Cmd r.2.2.2.1.1 r.2.2.2.1.2)]⟩
theorem chkd_a23 (r : Raw den pso_a23 oso_a23) (h : chk_a23 r = true) : raw_a23 r = ⟨[(enc_a23 (conv_a23 r)).1], (enc_a23 (conv_a23 r)).2⟩ := by
  simp only [chk_a23, Bool.and_eq_true, decide_eq_true_eq, and_true] at h
  simp only [raw_a23, enc_a23, conv_a23, h]
def out_a23 (d : D RT den) (os : List (Ob RT den)) : Option (Int × Int × Bool × Int × Nat × Nat × Nat × Nat × (Nat → S_impl_Backend) × Nat × (Nat → S_impl_Vip) × Nat × (Nat → S_impl_Cmd)) := (unSt pso_a23 oso_a23 ⟨[d], os⟩).bind fun v => bif chk_a23 v.1 then some (conv_a23 v.1) else none
theorem out_a23_enc (d : D RT den) (os : List (Ob RT den)) (y : Int × Int × Bool × Int × Nat × Nat × Nat × Nat × (Nat → S_impl_Backend) × Nat × (Nat → S_impl_Vip) × Nat × (Nat → S_impl_Cmd)) (h : out_a23 d os = some y) : d = (enc_a23 y).1 ∧ os = (enc_a23 y).2 :=
  outU (conv := conv_a23) (enc := enc_a23) (chk := chk_a23) (fun raw h => Eq.trans (by kernel_rfl) (chkd_a23 raw h)) h
theorem ev_a23 (fu : Nat) (c_0 : S_impl_Config) : evFunU E (pc_a23 fu) msk_a23 (lp_a23 fu) out_a23 83 [(.agg [(.int .i64 c_0.Version), (.rs c_0.Backends.z .impl_Backend c_0.Backends.n c_0.Backends.f), (.rs c_0.Vips.z .impl_Vip c_0.Vips.n c_0.Vips.f)])] [] = F_impl_full_U fu c_0 := by kernel_rfl
noncomputable def body_a23 : Code := Try.f83.body.getD .skip
theorem lpok_a23 (fu : Nat) : LpOk E (pc_a23 fu) msk_a23 (lp_a23 fu) (loops 0 body_a23) := by
  have h : loops 0 body_a23 = [] := by kernel_rfl
  rw [h]; intro p hp; cases hp
def S_a23 (fu : Nat) (xs : List (D RT den)) (ins : List (Ob RT den)) : Option (OutX RT den) := match xs, ins with | [.agg [.int .i64 a0_1, .rs za0_2 .impl_Backend na0_2 fa0_2, .rs za0_3 .impl_Vip na0_3 fa0_3]], [] => some ⟨Int × Int × Bool × Int × Nat × Nat × Nat × Nat × (Nat → S_impl_Backend) × Nat × (Nat → S_impl_Vip) × Nat × (Nat → S_impl_Cmd), F_impl_full_U fu (⟨a0_1, (⟨za0_2, na0_2, fa0_2⟩ : (Sl S_impl_Backend)), (⟨za0_3, na0_3, fa0_3⟩ : (Sl S_impl_Vip))⟩ : S_impl_Config), enc_a23⟩ | _, _ => none
theorem hpx_a23 (fu : Nat) : ∀ f xs ins o, pcx_a23 fu f xs ins = some o → ∀ y, o.x = some y → GoodXD E Try.prog (pcd_a23 f) f xs ins (o.g y).1 (o.g y).2 := by
  intro f xs ins o h
  unfold pcx_a23 at h
  split at h
  · exact good_a22 fu xs ins o h
  · cases h
theorem goodv_a23 (fu : Nat) (c_0 : S_impl_Config) (y : Int × Int × Bool × Int × Nat × Nat × Nat × Nat × (Nat → S_impl_Backend) × Nat × (Nat → S_impl_Vip) × Nat × (Nat → S_impl_Cmd)) (hy : F_impl_full_U fu c_0 = some y) : GoodD E Try.prog 83 [(.agg [(.int .i64 c_0.Version), (.rs c_0.Backends.z .impl_Backend c_0.Backends.n c_0.Backends.f), (.rs c_0.Vips.z .impl_Vip c_0.Vips.n c_0.Vips.f)])] [] (enc_a23 y).1 (enc_a23 y).2 :=
  funU_good E_ok (pc_good (pc := pc_a23 fu) hpc0 (hpx_a23 fu)) (fn := Try.f83) (c := body_a23) (out := out_a23) (y := y) (by kernel_rfl) (by kernel_rfl) (by kernel_rfl) (lpok_a23 fu) (by kernel_rfl) (Nat.le_of_ble_eq_true (by kernel_rfl)) (Fulls.get 0 (And.intro (Nat.le_refl _) trivial)) (fun d os hd => out_a23_enc d os _ hd) ((ev_a23 fu c_0).trans hy)
theorem good_a23 (fu : Nat) : ∀ xs ins o, S_a23 fu xs ins = some o → ∀ y, o.x = some y → GoodD E Try.prog 83 xs ins (o.g y).1 (o.g y).2 := by
  intro xs ins o h y hy
  unfold S_a23 at h
  split at h
  · rename_i a0_1 za0_2 na0_2 fa0_2 za0_3 na0_3 fa0_3
    cases h
    exact goodv_a23 fu (⟨a0_1, (⟨za0_2, na0_2, fa0_2⟩ : (Sl S_impl_Backend)), (⟨za0_3, na0_3, fa0_3⟩ : (Sl S_impl_Vip))⟩ : S_impl_Config) y hy
  · cases h

/-! impl.in -/
def F_impl_in (fu : Nat) (n_0 : Int) (low_1 : Int) (high_2 : Int) : Option (Bool) :=
  (((bif (decide (n_0 ≥ low_1)) then (some (decide (n_0 ≤ high_2))) else (some false)) : Option Bool).bind fun m99 => (some m99))
def pc_a24 (fu : Nat) : Pc RT den := ⟨pcf0, fun _ => false, fun _ => false, pcd0, pcx0⟩
def msk_a24 (b : Nat) : List Nat := match b with | 200001 => [6] | _ => []
def lp_a24 (fu : Nat) : Lp RT den (Bool) := fun b s k => none
theorem ev_a24 (fu : Nat) (n_0 : Int) (low_1 : Int) (high_2 : Int) : evFun E (pc_a24 fu) msk_a24 (lp_a24 fu) out_bo 72 [(.int .i64 n_0), (.int .i64 low_1), (.int .i64 high_2)] = F_impl_in fu n_0 low_1 high_2 := by kernel_rfl
noncomputable def body_a24 : Code := Try.f72.body.getD .skip
theorem lpok_a24 (fu : Nat) : LpOk E (pc_a24 fu) msk_a24 (lp_a24 fu) (loops 0 body_a24) := by
  have h : loops 0 body_a24 = [] := by kernel_rfl
  rw [h]; intro p hp; cases hp
def S_a24 (fu : Nat) (xs : List (D RT den)) : Option (Out RT den) := match xs with | [.int .i64 a0_0, .int .i64 a1_0, .int .i64 a2_0] => some ⟨Bool, F_impl_in fu a0_0 a1_0 a2_0, enc_bo, fun _ => true⟩ | _ => none
theorem goodv_a24 (fu : Nat) (n_0 : Int) (low_1 : Int) (high_2 : Int) (y : Bool) (hy : F_impl_in fu n_0 low_1 high_2 = some y) : Good E Try.prog 72 [(.int .i64 n_0), (.int .i64 low_1), (.int .i64 high_2)] (enc_bo y) :=
  fun_good E_ok (pc_good (pc := pc_a24 fu) hpc0 hpx0) (fn := Try.f72) (c := body_a24) (out := out_bo) (y := y) (by kernel_rfl) (by kernel_rfl) (by kernel_rfl) (lpok_a24 fu) (fun d hd => out_bo_enc d _ hd) ((ev_a24 fu n_0 low_1 high_2).trans hy)
theorem good_a24 (fu : Nat) : ∀ xs o, S_a24 fu xs = some o → ∀ y, o.x = some y → Good E Try.prog 72 xs (o.g y) := by
  intro xs o h y hy
  unfold S_a24 at h
  split at h
  · rename_i a0_0 a1_0 a2_0
    cases h
    exact goodv_a24 fu a0_0 a1_0 a2_0 y hy
  · cases h

/-! impl.isName -/
def F_impl_isName (fu : Nat) (name_0 : Int) : Option (Bool) :=
  ((F_impl_in fu name_0 1 999).bind fun y105 => (some y105))
def pcf_a25 (fu : Nat) (f : Nat) (xs : List (D RT den)) : Option (Out RT den) := match f with | 72 => S_a24 fu xs | _ => none
def pc_a25 (fu : Nat) : Pc RT den := ⟨pcf_a25 fu, fun _ => false, fun _ => false, pcd0, pcx0⟩
def msk_a25 (b : Nat) : List Nat := []
def lp_a25 (fu : Nat) : Lp RT den (Bool) := fun b s k => none
theorem ev_a25 (fu : Nat) (name_0 : Int) : evFun E (pc_a25 fu) msk_a25 (lp_a25 fu) out_bo 136 [(.int .i64 name_0)] = F_impl_isName fu name_0 := by kernel_rfl
noncomputable def body_a25 : Code := Try.f136.body.getD .skip
theorem lpok_a25 (fu : Nat) : LpOk E (pc_a25 fu) msk_a25 (lp_a25 fu) (loops 0 body_a25) := by
  have h : loops 0 body_a25 = [] := by kernel_rfl
  rw [h]; intro p hp; cases hp
def S_a25 (fu : Nat) (xs : List (D RT den)) : Option (Out RT den) := match xs with | [.int .i64 a0_0] => some ⟨Bool, F_impl_isName fu a0_0, enc_bo, fun _ => true⟩ | _ => none
theorem hpc_a25 (fu : Nat) : ∀ f xs o, pcf_a25 fu f xs = some o → ∀ y, o.x = some y → Good E Try.prog f xs (o.g y) := by
  intro f xs o h
  unfold pcf_a25 at h
  split at h
  · exact good_a24 fu xs o h
  · cases h
theorem goodv_a25 (fu : Nat) (name_0 : Int) (y : Bool) (hy : F_impl_isName fu name_0 = some y) : Good E Try.prog 136 [(.int .i64 name_0)] (enc_bo y) :=
  fun_good E_ok (pc_good (pc := pc_a25 fu) (hpc_a25 fu) hpx0) (fn := Try.f136) (c := body_a25) (out := out_bo) (y := y) (by kernel_rfl) (by kernel_rfl) (by kernel_rfl) (lpok_a25 fu) (fun d hd => out_bo_enc d _ hd) ((ev_a25 fu name_0).trans hy)
theorem good_a25 (fu : Nat) : ∀ xs o, S_a25 fu xs = some o → ∀ y, o.x = some y → Good E Try.prog 136 xs (o.g y) := by
  intro xs o h y hy
  unfold S_a25 at h
  split at h
  · rename_i a0_0
    cases h
    exact goodv_a25 fu a0_0 y hy
  · cases h

/-! impl.isAddress -/
def F_impl_isAddress (fu : Nat) (a_0 : Int) : Option (Bool) :=
  ((F_impl_in fu a_0 0 4294967295).bind fun y106 => (some y106))
def pcf_a26 (fu : Nat) (f : Nat) (xs : List (D RT den)) : Option (Out RT den) := match f with | 72 => S_a24 fu xs | _ => none
def pc_a26 (fu : Nat) : Pc RT den := ⟨pcf_a26 fu, fun _ => false, fun _ => false, pcd0, pcx0⟩
def msk_a26 (b : Nat) : List Nat := []
def lp_a26 (fu : Nat) : Lp RT den (Bool) := fun b s k => none
theorem ev_a26 (fu : Nat) (a_0 : Int) : evFun E (pc_a26 fu) msk_a26 (lp_a26 fu) out_bo 93 [(.int .i64 a_0)] = F_impl_isAddress fu a_0 := by kernel_rfl
noncomputable def body_a26 : Code := Try.f93.body.getD .skip
theorem lpok_a26 (fu : Nat) : LpOk E (pc_a26 fu) msk_a26 (lp_a26 fu) (loops 0 body_a26) := by
  have h : loops 0 body_a26 = [] := by kernel_rfl
  rw [h]; intro p hp; cases hp
def S_a26 (fu : Nat) (xs : List (D RT den)) : Option (Out RT den) := match xs with | [.int .i64 a0_0] => some ⟨Bool, F_impl_isAddress fu a0_0, enc_bo, fun _ => true⟩ | _ => none
theorem hpc_a26 (fu : Nat) : ∀ f xs o, pcf_a26 fu f xs = some o → ∀ y, o.x = some y → Good E Try.prog f xs (o.g y) := by
  intro f xs o h
  unfold pcf_a26 at h
  split at h
  · exact good_a24 fu xs o h
  · cases h
theorem goodv_a26 (fu : Nat) (a_0 : Int) (y : Bool) (hy : F_impl_isAddress fu a_0 = some y) : Good E Try.prog 93 [(.int .i64 a_0)] (enc_bo y) :=
  fun_good E_ok (pc_good (pc := pc_a26 fu) (hpc_a26 fu) hpx0) (fn := Try.f93) (c := body_a26) (out := out_bo) (y := y) (by kernel_rfl) (by kernel_rfl) (by kernel_rfl) (lpok_a26 fu) (fun d hd => out_bo_enc d _ hd) ((ev_a26 fu a_0).trans hy)
theorem good_a26 (fu : Nat) : ∀ xs o, S_a26 fu xs = some o → ∀ y, o.x = some y → Good E Try.prog 93 xs (o.g y) := by
  intro xs o h y hy
  unfold S_a26 at h
  split at h
  · rename_i a0_0
    cases h
    exact goodv_a26 fu a0_0 y hy
  · cases h

/-! impl.isBackend -/
def F_impl_isBackend (fu : Nat) (b_0 : S_impl_Backend) : Option (Bool) :=
  ((((F_impl_isName fu b_0.Name).bind fun y100 => (bif y100 then ((F_impl_isAddress fu b_0.Address).bind fun y101 => (bif y101 then ((F_impl_in fu b_0.Weight 0 9).bind fun y102 =>
    (bif y102 then ((F_impl_in fu b_0.Stage 1 3).bind fun y103 => (some y103)) else (some false))) else (some false))) else (some false))) : Option Bool).bind fun m104 => (some m104))
def pcf_a27 (fu : Nat) (f : Nat) (xs : List (D RT den)) : Option (Out RT den) := match f with | 72 => S_a24 fu xs | 93 => S_a26 fu xs | 136 => S_a25 fu xs | _ => none
def pc_a27 (fu : Nat) : Pc RT den := ⟨pcf_a27 fu, fun _ => false, fun _ => false, pcd0, pcx0⟩
def msk_a27 (b : Nat) : List Nat := match b with | 200001 => [2] | _ => []
def lp_a27 (fu : Nat) : Lp RT den (Bool) := fun b s k => none
theorem ev_a27 (fu : Nat) (b_0 : S_impl_Backend) : evFun E (pc_a27 fu) msk_a27 (lp_a27 fu) out_bo 131 [(.agg [(.int .i64 b_0.Name), (.int .i64 b_0.Address), (.int .i64 b_0.Weight), (.int .i64 b_0.Stage), (.bool b_0.Up)])] = F_impl_isBackend fu b_0 := by kernel_rfl
noncomputable def body_a27 : Code := Try.f131.body.getD .skip
theorem lpok_a27 (fu : Nat) : LpOk E (pc_a27 fu) msk_a27 (lp_a27 fu) (loops 0 body_a27) := by
  have h : loops 0 body_a27 = [] := by kernel_rfl
  rw [h]; intro p hp; cases hp
def S_a27 (fu : Nat) (xs : List (D RT den)) : Option (Out RT den) := match xs with | [.agg [.int .i64 a0_1, .int .i64 a0_2, .int .i64 a0_3, .int .i64 a0_4, .bool a0_5]] => some ⟨Bool, F_impl_isBackend fu (⟨a0_1, a0_2, a0_3, a0_4, a0_5⟩ : S_impl_Backend), enc_bo, fun _ => true⟩ | _ => none
theorem hpc_a27 (fu : Nat) : ∀ f xs o, pcf_a27 fu f xs = some o → ∀ y, o.x = some y → Good E Try.prog f xs (o.g y) := by
  intro f xs o h
  unfold pcf_a27 at h
  split at h
  · exact good_a24 fu xs o h
  · exact good_a26 fu xs o h
  · exact good_a25 fu xs o h
  · cases h
theorem goodv_a27 (fu : Nat) (b_0 : S_impl_Backend) (y : Bool) (hy : F_impl_isBackend fu b_0 = some y) : Good E Try.prog 131 [(.agg [(.int .i64 b_0.Name), (.int .i64 b_0.Address), (.int .i64 b_0.Weight), (.int .i64 b_0.Stage), (.bool b_0.Up)])] (enc_bo y) :=
  fun_good E_ok (pc_good (pc := pc_a27 fu) (hpc_a27 fu) hpx0) (fn := Try.f131) (c := body_a27) (out := out_bo) (y := y) (by kernel_rfl) (by kernel_rfl) (by kernel_rfl) (lpok_a27 fu) (fun d hd => out_bo_enc d _ hd) ((ev_a27 fu b_0).trans hy)
theorem good_a27 (fu : Nat) : ∀ xs o, S_a27 fu xs = some o → ∀ y, o.x = some y → Good E Try.prog 131 xs (o.g y) := by
  intro xs o h y hy
  unfold S_a27 at h
  split at h
  · rename_i a0_1 a0_2 a0_3 a0_4 a0_5
    cases h
    exact goodv_a27 fu (⟨a0_1, a0_2, a0_3, a0_4, a0_5⟩ : S_impl_Backend) y hy
  · cases h

/-! impl.isPort -/
def F_impl_isPort (fu : Nat) (n_0 : Int) : Option (Bool) :=
  ((F_impl_in fu n_0 0 65535).bind fun y107 => (some y107))
def pcf_a28 (fu : Nat) (f : Nat) (xs : List (D RT den)) : Option (Out RT den) := match f with | 72 => S_a24 fu xs | _ => none
def pc_a28 (fu : Nat) : Pc RT den := ⟨pcf_a28 fu, fun _ => false, fun _ => false, pcd0, pcx0⟩
def msk_a28 (b : Nat) : List Nat := []
def lp_a28 (fu : Nat) : Lp RT den (Bool) := fun b s k => none
theorem ev_a28 (fu : Nat) (n_0 : Int) : evFun E (pc_a28 fu) msk_a28 (lp_a28 fu) out_bo 132 [(.int .i64 n_0)] = F_impl_isPort fu n_0 := by kernel_rfl
noncomputable def body_a28 : Code := Try.f132.body.getD .skip
theorem lpok_a28 (fu : Nat) : LpOk E (pc_a28 fu) msk_a28 (lp_a28 fu) (loops 0 body_a28) := by
  have h : loops 0 body_a28 = [] := by kernel_rfl
  rw [h]; intro p hp; cases hp
def S_a28 (fu : Nat) (xs : List (D RT den)) : Option (Out RT den) := match xs with | [.int .i64 a0_0] => some ⟨Bool, F_impl_isPort fu a0_0, enc_bo, fun _ => true⟩ | _ => none
theorem hpc_a28 (fu : Nat) : ∀ f xs o, pcf_a28 fu f xs = some o → ∀ y, o.x = some y → Good E Try.prog f xs (o.g y) := by
  intro f xs o h
  unfold pcf_a28 at h
  split at h
  · exact good_a24 fu xs o h
  · cases h
theorem goodv_a28 (fu : Nat) (n_0 : Int) (y : Bool) (hy : F_impl_isPort fu n_0 = some y) : Good E Try.prog 132 [(.int .i64 n_0)] (enc_bo y) :=
  fun_good E_ok (pc_good (pc := pc_a28 fu) (hpc_a28 fu) hpx0) (fn := Try.f132) (c := body_a28) (out := out_bo) (y := y) (by kernel_rfl) (by kernel_rfl) (by kernel_rfl) (lpok_a28 fu) (fun d hd => out_bo_enc d _ hd) ((ev_a28 fu n_0).trans hy)
theorem good_a28 (fu : Nat) : ∀ xs o, S_a28 fu xs = some o → ∀ y, o.x = some y → Good E Try.prog 132 xs (o.g y) := by
  intro xs o h y hy
  unfold S_a28 at h
  split at h
  · rename_i a0_0
    cases h
    exact goodv_a28 fu a0_0 y hy
  · cases h

/-! impl.isProto -/
def F_impl_isProto (fu : Nat) (n_0 : Int) : Option (Bool) :=
  (((bif (n_0 == 6) then (some true) else (some (n_0 == 17))) : Option Bool).bind fun m108 => (some m108))
def pc_a29 (fu : Nat) : Pc RT den := ⟨pcf0, fun _ => false, fun _ => false, pcd0, pcx0⟩
def msk_a29 (b : Nat) : List Nat := match b with | 200001 => [2] | _ => []
def lp_a29 (fu : Nat) : Lp RT den (Bool) := fun b s k => none
theorem ev_a29 (fu : Nat) (n_0 : Int) : evFun E (pc_a29 fu) msk_a29 (lp_a29 fu) out_bo 133 [(.int .i64 n_0)] = F_impl_isProto fu n_0 := by kernel_rfl
noncomputable def body_a29 : Code := Try.f133.body.getD .skip
theorem lpok_a29 (fu : Nat) : LpOk E (pc_a29 fu) msk_a29 (lp_a29 fu) (loops 0 body_a29) := by
  have h : loops 0 body_a29 = [] := by kernel_rfl
  rw [h]; intro p hp; cases hp
def S_a29 (fu : Nat) (xs : List (D RT den)) : Option (Out RT den) := match xs with | [.int .i64 a0_0] => some ⟨Bool, F_impl_isProto fu a0_0, enc_bo, fun _ => true⟩ | _ => none
theorem goodv_a29 (fu : Nat) (n_0 : Int) (y : Bool) (hy : F_impl_isProto fu n_0 = some y) : Good E Try.prog 133 [(.int .i64 n_0)] (enc_bo y) :=
  fun_good E_ok (pc_good (pc := pc_a29 fu) hpc0 hpx0) (fn := Try.f133) (c := body_a29) (out := out_bo) (y := y) (by kernel_rfl) (by kernel_rfl) (by kernel_rfl) (lpok_a29 fu) (fun d hd => out_bo_enc d _ hd) ((ev_a29 fu n_0).trans hy)
theorem good_a29 (fu : Nat) : ∀ xs o, S_a29 fu xs = some o → ∀ y, o.x = some y → Good E Try.prog 133 xs (o.g y) := by
  intro xs o h y hy
  unfold S_a29 at h
  split at h
  · rename_i a0_0
    cases h
    exact goodv_a29 fu a0_0 y hy
  · cases h

/-! cmp.isNaN[int64] -/
def F_cmp_isNaN_int64 (fu : Nat) (x_0 : Int) : Option (Bool) :=
  (some (x_0 != x_0))
def pc_a30 (fu : Nat) : Pc RT den := ⟨pcf0, fun _ => false, fun _ => false, pcd0, pcx0⟩
def msk_a30 (b : Nat) : List Nat := []
def lp_a30 (fu : Nat) : Lp RT den (Bool) := fun b s k => none
theorem ev_a30 (fu : Nat) (x_0 : Int) : evFun E (pc_a30 fu) msk_a30 (lp_a30 fu) out_bo 199 [(.int .i64 x_0)] = F_cmp_isNaN_int64 fu x_0 := by kernel_rfl
noncomputable def body_a30 : Code := Try.f199.body.getD .skip
theorem lpok_a30 (fu : Nat) : LpOk E (pc_a30 fu) msk_a30 (lp_a30 fu) (loops 0 body_a30) := by
  have h : loops 0 body_a30 = [] := by kernel_rfl
  rw [h]; intro p hp; cases hp
def S_a30 (fu : Nat) (xs : List (D RT den)) : Option (Out RT den) := match xs with | [.int .i64 a0_0] => some ⟨Bool, F_cmp_isNaN_int64 fu a0_0, enc_bo, fun _ => true⟩ | _ => none
theorem goodv_a30 (fu : Nat) (x_0 : Int) (y : Bool) (hy : F_cmp_isNaN_int64 fu x_0 = some y) : Good E Try.prog 199 [(.int .i64 x_0)] (enc_bo y) :=
  fun_good E_ok (pc_good (pc := pc_a30 fu) hpc0 hpx0) (fn := Try.f199) (c := body_a30) (out := out_bo) (y := y) (by kernel_rfl) (by kernel_rfl) (by kernel_rfl) (lpok_a30 fu) (fun d hd => out_bo_enc d _ hd) ((ev_a30 fu x_0).trans hy)
theorem good_a30 (fu : Nat) : ∀ xs o, S_a30 fu xs = some o → ∀ y, o.x = some y → Good E Try.prog 199 xs (o.g y) := by
  intro xs o h y hy
  unfold S_a30 at h
  split at h
  · rename_i a0_0
    cases h
    exact goodv_a30 fu a0_0 y hy
  · cases h

/-! cmp.Compare[int64] -/
def F_cmp_Compare_int64 (fu : Nat) (x_0 : Int) (y_1 : Int) : Option (Int) :=
  ((F_cmp_isNaN_int64 fu x_0).bind fun y113 => ((F_cmp_isNaN_int64 fu y_1).bind fun y114 => (bif y113 then (bif y114 then (some 0) else (some (-1))) else (bif y114 then (some 1) else
    (bif (decide (x_0 < y_1)) then (some (-1)) else (bif (decide (x_0 > y_1)) then (some 1) else (some 0)))))))
def pcf_a31 (fu : Nat) (f : Nat) (xs : List (D RT den)) : Option (Out RT den) := match f with | 199 => S_a30 fu xs | _ => none
def pc_a31 (fu : Nat) : Pc RT den := ⟨pcf_a31 fu, fun _ => false, fun _ => false, pcd0, pcx0⟩
def msk_a31 (b : Nat) : List Nat := []
def lp_a31 (fu : Nat) : Lp RT den (Int) := fun b s k => none
theorem ev_a31 (fu : Nat) (x_0 : Int) (y_1 : Int) : evFun E (pc_a31 fu) msk_a31 (lp_a31 fu) out_i64 180 [(.int .i64 x_0), (.int .i64 y_1)] = F_cmp_Compare_int64 fu x_0 y_1 := by kernel_rfl
noncomputable def body_a31 : Code := Try.f180.body.getD .skip
theorem lpok_a31 (fu : Nat) : LpOk E (pc_a31 fu) msk_a31 (lp_a31 fu) (loops 0 body_a31) := by
  have h : loops 0 body_a31 = [] := by kernel_rfl
  rw [h]; intro p hp; cases hp
def S_a31 (fu : Nat) (xs : List (D RT den)) : Option (Out RT den) := match xs with | [.int .i64 a0_0, .int .i64 a1_0] => some ⟨Int, F_cmp_Compare_int64 fu a0_0 a1_0, enc_i64, fun _ => true⟩ | _ => none
theorem hpc_a31 (fu : Nat) : ∀ f xs o, pcf_a31 fu f xs = some o → ∀ y, o.x = some y → Good E Try.prog f xs (o.g y) := by
  intro f xs o h
  unfold pcf_a31 at h
  split at h
  · exact good_a30 fu xs o h
  · cases h
theorem goodv_a31 (fu : Nat) (x_0 : Int) (y_1 : Int) (y : Int) (hy : F_cmp_Compare_int64 fu x_0 y_1 = some y) : Good E Try.prog 180 [(.int .i64 x_0), (.int .i64 y_1)] (enc_i64 y) :=
  fun_good E_ok (pc_good (pc := pc_a31 fu) (hpc_a31 fu) hpx0) (fn := Try.f180) (c := body_a31) (out := out_i64) (y := y) (by kernel_rfl) (by kernel_rfl) (by kernel_rfl) (lpok_a31 fu) (fun d hd => out_i64_enc d _ hd) ((ev_a31 fu x_0 y_1).trans hy)
theorem good_a31 (fu : Nat) : ∀ xs o, S_a31 fu xs = some o → ∀ y, o.x = some y → Good E Try.prog 180 xs (o.g y) := by
  intro xs o h y hy
  unfold S_a31 at h
  split at h
  · rename_i a0_0 a1_0
    cases h
    exact goodv_a31 fu a0_0 a1_0 y hy
  · cases h

/-! cmp.Or[int] -/
def F_cmp_Or_int_B0 {ρ : Type} (fu : Nat) (zero3_0 : Int) (t6_1 : (Sl Int)) (t7_2 : Int) (k0 : Int → Option ρ) (k1 : Option ρ) (t8_3 : Int) (go : Int → Option ρ) : Option ρ :=
  (bif (decide (t8_3 < t7_2)) then ((bif (decide (0 ≤ t8_3) && decide ((Int.toNat t8_3) < t6_1.n)) then some () else none : Option Unit).bind fun _ => (bif ((t6_1.f (Int.toNat t8_3)) != zero3_0) then
    (k0 (t6_1.f (Int.toNat t8_3))) else (go (IntKind.wrap .i64 (t8_3 + 1))))) else k1)
def F_cmp_Or_int (fu : Nat) (vals_0 : (Sl Int)) : Option (Int) :=
  (L (fun w0 go0 => F_cmp_Or_int_B0 fu 0 vals_0 ((vals_0.n : Nat) : Int) (fun z115 => (some z115)) (some 0) w0 go0) fu (0 : Int))
def pc_a32 (fu : Nat) : Pc RT den := ⟨pcf0, fun _ => false, fun _ => false, pcd0, pcx0⟩
def msk_a32 (b : Nat) : List Nat := match b with | 0 => [0, 1, 2, 4, 5, 9, 10, 11, 12, 13, 14, 15, 16, 17] | 100000 => [0, 1, 4, 5, 6, 7, 8, 9, 10, 11, 12, 13, 14, 15, 16, 17] | _ => []
def ps_a32_0 : List (Pat RT) := [.flat .q, .flat .q, .flat .q, .flat (.int .i64), .flat .q, .flat .q, .flat (.rs .i64), .flat (.int .i64), .flat (.int .i64), .flat .q, .flat .q, .flat .q, .flat .q, .flat .q, .flat .q, .flat .q, .flat .q, .flat .q]
def os_a32_0 : List (OP RT) := []
def conv_a32_0 (r : Raw den ps_a32_0 os_a32_0) : (Int × (Sl Int) × Int) × (Int) := ((r.1.2.2.2.1, r.1.2.2.2.2.2.2.1, r.1.2.2.2.2.2.2.2.1), r.1.2.2.2.2.2.2.2.2.1)
def back_a32_0 (c : Int × (Sl Int) × Int) (w : Int) : St RT den := ⟨[.q, .q, .q, (.int .i64 c.1), .q, .q, (.rs c.2.1.z .i64 c.2.1.n c.2.1.f), (.int .i64 c.2.2), (.int .i64 w), .q, .q, .q, .q, .q, .q, .q, .q, .q], []⟩
def Bk_a32_0 {ρ : Type} (fu : Nat) (c : Int × (Sl Int) × Int) (k : Ex → St RT den → Option ρ) (w : Int) (go : (Int) → Option ρ) : Option ρ := F_cmp_Or_int_B0 fu c.1 c.2.1 c.2.2 (fun a0 => k .ret ⟨[.q, .q, (.int .i64 a0), (.int .i64 c.1), .q, .q, .q, .q, .q, .q, .q, .q, .q, .q, .q, .q, .q, .q], []⟩) (k (.exit 0) ⟨[.q, .q, .q, (.int .i64 c.1), .q, .q, .q, .q, .q, .q, .q, .q, .q, .q, .q, .q, .q, .q], []⟩) w go
def lp_a32 (fu : Nat) : Lp RT den (Int) := fun b s k => match b with | 0 => handle ps_a32_0 os_a32_0 conv_a32_0 (Bk_a32_0 fu) fu s k | _ => none
theorem ev_a32 (fu : Nat) (vals_0 : (Sl Int)) : evFun E (pc_a32 fu) msk_a32 (lp_a32 fu) out_i64 179 [(.rs vals_0.z .i64 vals_0.n vals_0.f)] = F_cmp_Or_int fu vals_0 := by kernel_rfl
noncomputable def body_a32 : Code := Try.f179.body.getD .skip
noncomputable def lc_a32_0 : Code := ((loops 0 body_a32).getD 0 (0, .skip)).2
theorem round_a32_0 (fu : Nat) (it : St RT den → Option (Int)) (k : Ex → St RT den → Option (Int)) c w : evCode E (pc_a32 fu) msk_a32 (lp_a32 fu) 0 lc_a32_0 (back_a32_0 c w) (after (msk_a32 0) (msk_a32 100000) 0 it k) = Bk_a32_0 fu c k w (fun w => it (back_a32_0 c w)) := by kernel_rfl
theorem lpok_a32_0 (fu : Nat) : ∀ s k r, lp_a32 fu 0 s k = some r → ∃ fuel, iter (msk_a32 0) (msk_a32 100000) s.objs.length (evCode E (pc_a32 fu) msk_a32 (lp_a32 fu) 0 lc_a32_0) fuel s k = some r :=
  handle_ok (ps := ps_a32_0) (os := os_a32_0) (conv := conv_a32_0) (B := Bk_a32_0 fu) (fu := fu) back_a32_0 (fun raw => by kernel_rfl) 0 (fun c w => by kernel_rfl) (round_a32_0 fu)
theorem lpok_a32 (fu : Nat) : LpOk E (pc_a32 fu) msk_a32 (lp_a32 fu) (loops 0 body_a32) := loop_all 1 (by kernel_rfl) fun i hi => match i, hi with
  | 0, _ => by
    have h : (loops 0 body_a32).getD 0 (0, .skip) = (0, lc_a32_0) := by kernel_rfl
    rw [h]; exact lpok_a32_0 fu
  | i + 1, hi => absurd hi (by omega)
def S_a32 (fu : Nat) (xs : List (D RT den)) : Option (Out RT den) := match xs with | [.rs za0_0 .i64 na0_0 fa0_0] => some ⟨Int, F_cmp_Or_int fu (⟨za0_0, na0_0, fa0_0⟩ : (Sl Int)), enc_i64, fun _ => true⟩ | _ => none
theorem goodv_a32 (fu : Nat) (vals_0 : (Sl Int)) (y : Int) (hy : F_cmp_Or_int fu vals_0 = some y) : Good E Try.prog 179 [(.rs vals_0.z .i64 vals_0.n vals_0.f)] (enc_i64 y) :=
  fun_good E_ok (pc_good (pc := pc_a32 fu) hpc0 hpx0) (fn := Try.f179) (c := body_a32) (out := out_i64) (y := y) (by kernel_rfl) (by kernel_rfl) (by kernel_rfl) (lpok_a32 fu) (fun d hd => out_i64_enc d _ hd) ((ev_a32 fu vals_0).trans hy)
theorem good_a32 (fu : Nat) : ∀ xs o, S_a32 fu xs = some o → ∀ y, o.x = some y → Good E Try.prog 179 xs (o.g y) := by
  intro xs o h y hy
  unfold S_a32 at h
  split at h
  · rename_i za0_0 na0_0 fa0_0
    cases h
    exact goodv_a32 fu (⟨za0_0, na0_0, fa0_0⟩ : (Sl Int)) y hy
  · cases h

/-! impl.compareVip -/
def F_impl_compareVip (fu : Nat) (a_0 : S_impl_Vip) (b_1 : S_impl_Vip) : Option (Int) :=
  ((F_cmp_Compare_int64 fu a_0.Address b_1.Address).bind fun y109 => ((F_cmp_Compare_int64 fu a_0.Port b_1.Port).bind fun y110 => ((F_cmp_Compare_int64 fu a_0.Proto b_1.Proto).bind fun y111 =>
    ((F_cmp_Or_int fu (⟨(some false), 3, (fun i => [y109, y110, y111].getD i (dflt .i64))⟩ : (Sl Int))).bind fun y112 => (some y112)))))
def pcf_a33 (fu : Nat) (f : Nat) (xs : List (D RT den)) : Option (Out RT den) := match f with | 179 => S_a32 fu xs | 180 => S_a31 fu xs | _ => none
def pc_a33 (fu : Nat) : Pc RT den := ⟨pcf_a33 fu, fun _ => false, fun _ => false, pcd0, pcx0⟩
def msk_a33 (b : Nat) : List Nat := []
def lp_a33 (fu : Nat) : Lp RT den (Int) := fun b s k => none
theorem ev_a33 (fu : Nat) (a_0 : S_impl_Vip) (b_1 : S_impl_Vip) : evFun E (pc_a33 fu) msk_a33 (lp_a33 fu) out_i64 134 [(.agg [(.int .i64 a_0.Address), (.int .i64 a_0.Port), (.int .i64 a_0.Proto), (.rs a_0.Names.z .i64 a_0.Names.n a_0.Names.f)]), (.agg [(.int .i64 b_1.Address), (.int .i64 b_1.Port), (.int .i64 b_1.Proto), (.rs b_1.Names.z .i64 b_1.Names.n b_1.Names.f)])] = F_impl_compareVip fu a_0 b_1 := by kernel_rfl
noncomputable def body_a33 : Code := Try.f134.body.getD .skip
theorem lpok_a33 (fu : Nat) : LpOk E (pc_a33 fu) msk_a33 (lp_a33 fu) (loops 0 body_a33) := by
  have h : loops 0 body_a33 = [] := by kernel_rfl
  rw [h]; intro p hp; cases hp
def S_a33 (fu : Nat) (xs : List (D RT den)) : Option (Out RT den) := match xs with | [.agg [.int .i64 a0_1, .int .i64 a0_2, .int .i64 a0_3, .rs za0_4 .i64 na0_4 fa0_4], .agg [.int .i64 a1_1, .int .i64 a1_2, .int .i64 a1_3, .rs za1_4 .i64 na1_4 fa1_4]] => some ⟨Int, F_impl_compareVip fu (⟨a0_1, a0_2, a0_3, (⟨za0_4, na0_4, fa0_4⟩ : (Sl Int))⟩ : S_impl_Vip) (⟨a1_1, a1_2, a1_3, (⟨za1_4, na1_4, fa1_4⟩ : (Sl Int))⟩ : S_impl_Vip), enc_i64, fun _ => true⟩ | _ => none
theorem hpc_a33 (fu : Nat) : ∀ f xs o, pcf_a33 fu f xs = some o → ∀ y, o.x = some y → Good E Try.prog f xs (o.g y) := by
  intro f xs o h
  unfold pcf_a33 at h
  split at h
  · exact good_a32 fu xs o h
  · exact good_a31 fu xs o h
  · cases h
theorem goodv_a33 (fu : Nat) (a_0 : S_impl_Vip) (b_1 : S_impl_Vip) (y : Int) (hy : F_impl_compareVip fu a_0 b_1 = some y) : Good E Try.prog 134 [(.agg [(.int .i64 a_0.Address), (.int .i64 a_0.Port), (.int .i64 a_0.Proto), (.rs a_0.Names.z .i64 a_0.Names.n a_0.Names.f)]), (.agg [(.int .i64 b_1.Address), (.int .i64 b_1.Port), (.int .i64 b_1.Proto), (.rs b_1.Names.z .i64 b_1.Names.n b_1.Names.f)])] (enc_i64 y) :=
  fun_good E_ok (pc_good (pc := pc_a33 fu) (hpc_a33 fu) hpx0) (fn := Try.f134) (c := body_a33) (out := out_i64) (y := y) (by kernel_rfl) (by kernel_rfl) (by kernel_rfl) (lpok_a33 fu) (fun d hd => out_i64_enc d _ hd) ((ev_a33 fu a_0 b_1).trans hy)
theorem good_a33 (fu : Nat) : ∀ xs o, S_a33 fu xs = some o → ∀ y, o.x = some y → Good E Try.prog 134 xs (o.g y) := by
  intro xs o h y hy
  unfold S_a33 at h
  split at h
  · rename_i a0_1 a0_2 a0_3 za0_4 na0_4 fa0_4 a1_1 a1_2 a1_3 za1_4 na1_4 fa1_4
    cases h
    exact goodv_a33 fu (⟨a0_1, a0_2, a0_3, (⟨za0_4, na0_4, fa0_4⟩ : (Sl Int))⟩ : S_impl_Vip) (⟨a1_1, a1_2, a1_3, (⟨za1_4, na1_4, fa1_4⟩ : (Sl Int))⟩ : S_impl_Vip) y hy
  · cases h

/-! (*impl.Config).backend'1 -/
def F_impl_Config_backend_c1 (fu : Nat) (b_0 : S_impl_Backend) (x_1_1 : Int) : Option (Bool) :=
  (some (b_0.Name == x_1_1))
def pc_a34 (fu : Nat) : Pc RT den := ⟨pcf0, fun _ => false, fun _ => false, pcd0, pcx0⟩
def msk_a34 (b : Nat) : List Nat := []
def lp_a34 (fu : Nat) : Lp RT den (Bool) := fun b s k => none
theorem ev_a34 (fu : Nat) (b_0 : S_impl_Backend) (x_1_1 : Int) : evFun E (pc_a34 fu) msk_a34 (lp_a34 fu) out_bo 155 [(.agg [(.int .i64 b_0.Name), (.int .i64 b_0.Address), (.int .i64 b_0.Weight), (.int .i64 b_0.Stage), (.bool b_0.Up)]), (.rptr [(.int .i64 x_1_1)])] = F_impl_Config_backend_c1 fu b_0 x_1_1 := by kernel_rfl
noncomputable def body_a34 : Code := Try.f155.body.getD .skip
theorem lpok_a34 (fu : Nat) : LpOk E (pc_a34 fu) msk_a34 (lp_a34 fu) (loops 0 body_a34) := by
  have h : loops 0 body_a34 = [] := by kernel_rfl
  rw [h]; intro p hp; cases hp
def S_a34 (fu : Nat) (xs : List (D RT den)) : Option (Out RT den) := match xs with | [.agg [.int .i64 a0_1, .int .i64 a0_2, .int .i64 a0_3, .int .i64 a0_4, .bool a0_5], .rptr [.int .i64 a1_0]] => some ⟨Bool, F_impl_Config_backend_c1 fu (⟨a0_1, a0_2, a0_3, a0_4, a0_5⟩ : S_impl_Backend) a1_0, enc_bo, fun _ => true⟩ | _ => none
theorem goodv_a34 (fu : Nat) (b_0 : S_impl_Backend) (x_1_1 : Int) (y : Bool) (hy : F_impl_Config_backend_c1 fu b_0 x_1_1 = some y) : Good E Try.prog 155 [(.agg [(.int .i64 b_0.Name), (.int .i64 b_0.Address), (.int .i64 b_0.Weight), (.int .i64 b_0.Stage), (.bool b_0.Up)]), (.rptr [(.int .i64 x_1_1)])] (enc_bo y) :=
  fun_good E_ok (pc_good (pc := pc_a34 fu) hpc0 hpx0) (fn := Try.f155) (c := body_a34) (out := out_bo) (y := y) (by kernel_rfl) (by kernel_rfl) (by kernel_rfl) (lpok_a34 fu) (fun d hd => out_bo_enc d _ hd) ((ev_a34 fu b_0 x_1_1).trans hy)
theorem good_a34 (fu : Nat) : ∀ xs o, S_a34 fu xs = some o → ∀ y, o.x = some y → Good E Try.prog 155 xs (o.g y) := by
  intro xs o h y hy
  unfold S_a34 at h
  split at h
  · rename_i a0_1 a0_2 a0_3 a0_4 a0_5 a1_0
    cases h
    exact goodv_a34 fu (⟨a0_1, a0_2, a0_3, a0_4, a0_5⟩ : S_impl_Backend) a1_0 y hy
  · cases h

/-! slices.IndexFunc[[]impl.Backend,impl.Backend] -/
def F_slices_IndexFunc_impl_Backend_impl_Backend_w_impl_Config_backend_c1_B0 {ρ : Type} (fu : Nat) (s0_0 : (Sl S_impl_Backend)) (f1_1 : Int) (t7_2 : Int) (k0 : Int → Option ρ) (k1 : Option ρ) (t8_3 : Int) (go : Int → Option ρ) : Option ρ :=
  (bif (decide (t8_3 < t7_2)) then ((bif (decide (0 ≤ t8_3) && decide ((Int.toNat t8_3) < s0_0.n)) then some () else none : Option Unit).bind fun _ => ((F_impl_Config_backend_c1 fu (s0_0.f (Int.toNat t8_3)) f1_1).bind fun y121 =>
    (bif y121 then (k0 t8_3) else (go (IntKind.wrap .i64 (t8_3 + 1)))))) else k1)
def F_slices_IndexFunc_impl_Backend_impl_Backend_w_impl_Config_backend_c1 (fu : Nat) (s_0 : (Sl S_impl_Backend)) (f_1_1 : Int) : Option (Int) :=
  (L (fun w0 go0 => F_slices_IndexFunc_impl_Backend_impl_Backend_w_impl_Config_backend_c1_B0 fu s_0 f_1_1 ((s_0.n : Nat) : Int) (fun z122 => (some z122)) (some (-1)) w0 go0) fu (0 : Int))
def pcf_a35 (fu : Nat) (f : Nat) (xs : List (D RT den)) : Option (Out RT den) := match f with | 155 => S_a34 fu xs | _ => none
def pc_a35 (fu : Nat) : Pc RT den := ⟨pcf_a35 fu, fun _ => false, fun _ => false, pcd0, pcx0⟩
def msk_a35 (b : Nat) : List Nat := match b with | 0 => [2, 3, 4, 5, 6, 9, 10, 11, 12, 13, 14, 15, 16, 17, 18] | 100000 => [0, 1, 2, 3, 5, 6, 7, 8, 9, 10, 11, 12, 13, 14, 15, 16, 17, 18] | _ => []
def ps_a35_0 : List (Pat RT) := [.flat (.rs .impl_Backend), .fn 155 [.rptr [(.int .i64)]], .flat .q, .flat .q, .flat .q, .flat .q, .flat .q, .flat (.int .i64), .flat (.int .i64), .flat .q, .flat .q, .flat .q, .flat .q, .flat .q, .flat .q, .flat .q, .flat .q, .flat .q, .flat .q]
def os_a35_0 : List (OP RT) := []
def conv_a35_0 (r : Raw den ps_a35_0 os_a35_0) : ((Sl S_impl_Backend) × Int × Int) × (Int) := ((r.1.1, r.1.2.1.1.1, r.1.2.2.2.2.2.2.2.1), r.1.2.2.2.2.2.2.2.2.1)
def back_a35_0 (c : (Sl S_impl_Backend) × Int × Int) (w : Int) : St RT den := ⟨[(.rs c.1.z .impl_Backend c.1.n c.1.f), (.fn 155 [(.rptr [(.int .i64 c.2.1)])]), .q, .q, .q, .q, .q, (.int .i64 c.2.2), (.int .i64 w), .q, .q, .q, .q, .q, .q, .q, .q, .q, .q], []⟩
def Bk_a35_0 {ρ : Type} (fu : Nat) (c : (Sl S_impl_Backend) × Int × Int) (k : Ex → St RT den → Option ρ) (w : Int) (go : (Int) → Option ρ) : Option ρ := F_slices_IndexFunc_impl_Backend_impl_Backend_w_impl_Config_backend_c1_B0 fu c.1 c.2.1 c.2.2 (fun a0 => k .ret ⟨[.q, .q, .q, .q, (.int .i64 a0), .q, .q, .q, .q, .q, .q, .q, .q, .q, .q, .q, .q, .q, .q], []⟩) (k (.exit 0) ⟨[.q, .q, .q, .q, .q, .q, .q, .q, .q, .q, .q, .q, .q, .q, .q, .q, .q, .q, .q], []⟩) w go
def lp_a35 (fu : Nat) : Lp RT den (Int) := fun b s k => match b with | 0 => handle ps_a35_0 os_a35_0 conv_a35_0 (Bk_a35_0 fu) fu s k | _ => none
theorem ev_a35 (fu : Nat) (s_0 : (Sl S_impl_Backend)) (f_1_1 : Int) : evFun E (pc_a35 fu) msk_a35 (lp_a35 fu) out_i64 154 [(.rs s_0.z .impl_Backend s_0.n s_0.f), (.fn 155 [(.rptr [(.int .i64 f_1_1)])])] = F_slices_IndexFunc_impl_Backend_impl_Backend_w_impl_Config_backend_c1 fu s_0 f_1_1 := by kernel_rfl
noncomputable def body_a35 : Code := Try.f154.body.getD .skip
noncomputable def lc_a35_0 : Code := ((loops 0 body_a35).getD 0 (0, .skip)).2
theorem round_a35_0 (fu : Nat) (it : St RT den → Option (Int)) (k : Ex → St RT den → Option (Int)) c w : evCode E (pc_a35 fu) msk_a35 (lp_a35 fu) 0 lc_a35_0 (back_a35_0 c w) (after (msk_a35 0) (msk_a35 100000) 0 it k) = Bk_a35_0 fu c k w (fun w => it (back_a35_0 c w)) := by kernel_rfl
theorem lpok_a35_0 (fu : Nat) : ∀ s k r, lp_a35 fu 0 s k = some r → ∃ fuel, iter (msk_a35 0) (msk_a35 100000) s.objs.length (evCode E (pc_a35 fu) msk_a35 (lp_a35 fu) 0 lc_a35_0) fuel s k = some r :=
  handle_ok (ps := ps_a35_0) (os := os_a35_0) (conv := conv_a35_0) (B := Bk_a35_0 fu) (fu := fu) back_a35_0 (fun raw => by kernel_rfl) 0 (fun c w => by kernel_rfl) (round_a35_0 fu)
theorem lpok_a35 (fu : Nat) : LpOk E (pc_a35 fu) msk_a35 (lp_a35 fu) (loops 0 body_a35) := loop_all 1 (by kernel_rfl) fun i hi => match i, hi with
  | 0, _ => by
    have h : (loops 0 body_a35).getD 0 (0, .skip) = (0, lc_a35_0) := by kernel_rfl
    rw [h]; exact lpok_a35_0 fu
  | i + 1, hi => absurd hi (by omega)
def S_a35 (fu : Nat) (xs : List (D RT den)) : Option (Out RT den) := match xs with | [.rs za0_0 .impl_Backend na0_0 fa0_0, .fn 155 [.rptr [.int .i64 a1_0]]] => some ⟨Int, F_slices_IndexFunc_impl_Backend_impl_Backend_w_impl_Config_backend_c1 fu (⟨za0_0, na0_0, fa0_0⟩ : (Sl S_impl_Backend)) a1_0, enc_i64, fun _ => true⟩ | _ => none
theorem hpc_a35 (fu : Nat) : ∀ f xs o, pcf_a35 fu f xs = some o → ∀ y, o.x = some y → Good E Try.prog f xs (o.g y) := by
  intro f xs o h
  unfold pcf_a35 at h
  split at h
  · exact good_a34 fu xs o h
  · cases h
theorem goodv_a35 (fu : Nat) (s_0 : (Sl S_impl_Backend)) (f_1_1 : Int) (y : Int) (hy : F_slices_IndexFunc_impl_Backend_impl_Backend_w_impl_Config_backend_c1 fu s_0 f_1_1 = some y) : Good E Try.prog 154 [(.rs s_0.z .impl_Backend s_0.n s_0.f), (.fn 155 [(.rptr [(.int .i64 f_1_1)])])] (enc_i64 y) :=
  fun_good E_ok (pc_good (pc := pc_a35 fu) (hpc_a35 fu) hpx0) (fn := Try.f154) (c := body_a35) (out := out_i64) (y := y) (by kernel_rfl) (by kernel_rfl) (by kernel_rfl) (lpok_a35 fu) (fun d hd => out_i64_enc d _ hd) ((ev_a35 fu s_0 f_1_1).trans hy)
theorem good_a35 (fu : Nat) : ∀ xs o, S_a35 fu xs = some o → ∀ y, o.x = some y → Good E Try.prog 154 xs (o.g y) := by
  intro xs o h y hy
  unfold S_a35 at h
  split at h
  · rename_i za0_0 na0_0 fa0_0 a1_0
    cases h
    exact goodv_a35 fu (⟨za0_0, na0_0, fa0_0⟩ : (Sl S_impl_Backend)) a1_0 y hy
  · cases h

/-! (*impl.Config).backend -/
def F_impl_Config_backend (fu : Nat) (c_0 : S_impl_Config) (name_1 : Int) : Option (Int) :=
  ((F_slices_IndexFunc_impl_Backend_impl_Backend_w_impl_Config_backend_c1 fu c_0.Backends name_1).bind fun y120 => (some y120))
def pcf_a36 (fu : Nat) (f : Nat) (xs : List (D RT den)) : Option (Out RT den) := match f with | 154 => S_a35 fu xs | _ => none
def pc_a36 (fu : Nat) : Pc RT den := ⟨pcf_a36 fu, fun _ => false, fun _ => false, pcd0, pcx0⟩
def msk_a36 (b : Nat) : List Nat := []
def lp_a36 (fu : Nat) : Lp RT den (Int) := fun b s k => none
theorem ev_a36 (fu : Nat) (c_0 : S_impl_Config) (name_1 : Int) : evFun E (pc_a36 fu) msk_a36 (lp_a36 fu) out_i64 101 [(.rptr [(.int .i64 c_0.Version), (.rs c_0.Backends.z .impl_Backend c_0.Backends.n c_0.Backends.f), (.rs c_0.Vips.z .impl_Vip c_0.Vips.n c_0.Vips.f)]), (.int .i64 name_1)] = F_impl_Config_backend fu c_0 name_1 := by kernel_rfl
noncomputable def body_a36 : Code := Try.f101.body.getD .skip
theorem lpok_a36 (fu : Nat) : LpOk E (pc_a36 fu) msk_a36 (lp_a36 fu) (loops 0 body_a36) := by
  have h : loops 0 body_a36 = [] := by kernel_rfl
  rw [h]; intro p hp; cases hp
def S_a36 (fu : Nat) (xs : List (D RT den)) : Option (Out RT den) := match xs with | [.rptr (.int .i64 a0_1 :: .rs za0_2 .impl_Backend na0_2 fa0_2 :: .rs za0_3 .impl_Vip na0_3 fa0_3 :: ra0), .int .i64 a1_0] => some ⟨Int, F_impl_Config_backend fu (⟨a0_1, (⟨za0_2, na0_2, fa0_2⟩ : (Sl S_impl_Backend)), (⟨za0_3, na0_3, fa0_3⟩ : (Sl S_impl_Vip))⟩ : S_impl_Config) a1_0, enc_i64, fun _ => true⟩ | _ => none
theorem hpc_a36 (fu : Nat) : ∀ f xs o, pcf_a36 fu f xs = some o → ∀ y, o.x = some y → Good E Try.prog f xs (o.g y) := by
  intro f xs o h
  unfold pcf_a36 at h
  split at h
  · exact good_a35 fu xs o h
  · cases h
theorem goodv_a36 (fu : Nat) (c_0 : S_impl_Config) (name_1 : Int) (y : Int) (hy : F_impl_Config_backend fu c_0 name_1 = some y) : Good E Try.prog 101 [(.rptr [(.int .i64 c_0.Version), (.rs c_0.Backends.z .impl_Backend c_0.Backends.n c_0.Backends.f), (.rs c_0.Vips.z .impl_Vip c_0.Vips.n c_0.Vips.f)]), (.int .i64 name_1)] (enc_i64 y) :=
  fun_good E_ok (pc_good (pc := pc_a36 fu) (hpc_a36 fu) hpx0) (fn := Try.f101) (c := body_a36) (out := out_i64) (y := y) (by kernel_rfl) (by kernel_rfl) (by kernel_rfl) (lpok_a36 fu) (fun d hd => out_i64_enc d _ hd) ((ev_a36 fu c_0 name_1).trans hy)
theorem good_a36 (fu : Nat) : ∀ xs o, S_a36 fu xs = some o → ∀ y, o.x = some y → Good E Try.prog 101 xs (o.g y) := by
  intro xs o h y hy
  unfold S_a36 at h
  split at h
  · rename_i a0_1 za0_2 na0_2 fa0_2 za0_3 na0_3 fa0_3 ra0 a1_0
    cases h
    exact (goodv_a36 fu (⟨a0_1, (⟨za0_2, na0_2, fa0_2⟩ : (Sl S_impl_Backend)), (⟨za0_3, na0_3, fa0_3⟩ : (Sl S_impl_Vip))⟩ : S_impl_Config) a1_0 y hy).sub ⟨Sub.of_eq ra0 rfl, .refl _, trivial⟩
  · cases h

/-! impl.ConfigFault'1 -/
def F_impl_ConfigFault_c1 (fu : Nat) (name_0 : Int) (x_1_1 : Int) (x_1_2 : (Sl S_impl_Backend)) (x_1_3 : (Sl S_impl_Vip)) : Option (Bool) :=
  ((F_impl_Config_backend fu (⟨x_1_1, x_1_2, x_1_3⟩ : S_impl_Config) name_0).bind fun y119 => (some (decide (y119 < 0))))
def pcf_a37 (fu : Nat) (f : Nat) (xs : List (D RT den)) : Option (Out RT den) := match f with | 101 => S_a36 fu xs | _ => none
def pc_a37 (fu : Nat) : Pc RT den := ⟨pcf_a37 fu, fun _ => false, fun _ => false, pcd0, pcx0⟩
def msk_a37 (b : Nat) : List Nat := []
def lp_a37 (fu : Nat) : Lp RT den (Bool) := fun b s k => none
theorem ev_a37 (fu : Nat) (name_0 : Int) (x_1_1 : Int) (x_1_2 : (Sl S_impl_Backend)) (x_1_3 : (Sl S_impl_Vip)) : evFun E (pc_a37 fu) msk_a37 (lp_a37 fu) out_bo 135 [(.int .i64 name_0), (.rptr [(.int .i64 x_1_1), (.rs x_1_2.z .impl_Backend x_1_2.n x_1_2.f), (.rs x_1_3.z .impl_Vip x_1_3.n x_1_3.f)])] = F_impl_ConfigFault_c1 fu name_0 x_1_1 x_1_2 x_1_3 := by kernel_rfl
noncomputable def body_a37 : Code := Try.f135.body.getD .skip
theorem lpok_a37 (fu : Nat) : LpOk E (pc_a37 fu) msk_a37 (lp_a37 fu) (loops 0 body_a37) := by
  have h : loops 0 body_a37 = [] := by kernel_rfl
  rw [h]; intro p hp; cases hp
def S_a37 (fu : Nat) (xs : List (D RT den)) : Option (Out RT den) := match xs with | [.int .i64 a0_0, .rptr [.int .i64 a1_0, .rs za1_1 .impl_Backend na1_1 fa1_1, .rs za1_2 .impl_Vip na1_2 fa1_2]] => some ⟨Bool, F_impl_ConfigFault_c1 fu a0_0 a1_0 (⟨za1_1, na1_1, fa1_1⟩ : (Sl S_impl_Backend)) (⟨za1_2, na1_2, fa1_2⟩ : (Sl S_impl_Vip)), enc_bo, fun _ => true⟩ | _ => none
theorem hpc_a37 (fu : Nat) : ∀ f xs o, pcf_a37 fu f xs = some o → ∀ y, o.x = some y → Good E Try.prog f xs (o.g y) := by
  intro f xs o h
  unfold pcf_a37 at h
  split at h
  · exact good_a36 fu xs o h
  · cases h
theorem goodv_a37 (fu : Nat) (name_0 : Int) (x_1_1 : Int) (x_1_2 : (Sl S_impl_Backend)) (x_1_3 : (Sl S_impl_Vip)) (y : Bool) (hy : F_impl_ConfigFault_c1 fu name_0 x_1_1 x_1_2 x_1_3 = some y) : Good E Try.prog 135 [(.int .i64 name_0), (.rptr [(.int .i64 x_1_1), (.rs x_1_2.z .impl_Backend x_1_2.n x_1_2.f), (.rs x_1_3.z .impl_Vip x_1_3.n x_1_3.f)])] (enc_bo y) :=
  fun_good E_ok (pc_good (pc := pc_a37 fu) (hpc_a37 fu) hpx0) (fn := Try.f135) (c := body_a37) (out := out_bo) (y := y) (by kernel_rfl) (by kernel_rfl) (by kernel_rfl) (lpok_a37 fu) (fun d hd => out_bo_enc d _ hd) ((ev_a37 fu name_0 x_1_1 x_1_2 x_1_3).trans hy)
theorem good_a37 (fu : Nat) : ∀ xs o, S_a37 fu xs = some o → ∀ y, o.x = some y → Good E Try.prog 135 xs (o.g y) := by
  intro xs o h y hy
  unfold S_a37 at h
  split at h
  · rename_i a0_0 a1_0 za1_1 na1_1 fa1_1 za1_2 na1_2 fa1_2
    cases h
    exact goodv_a37 fu a0_0 a1_0 (⟨za1_1, na1_1, fa1_1⟩ : (Sl S_impl_Backend)) (⟨za1_2, na1_2, fa1_2⟩ : (Sl S_impl_Vip)) y hy
  · cases h

/-! slices.IndexFunc[[]int64,int64] -/
def F_slices_IndexFunc_int64_int64_w_impl_ConfigFault_c1_B0 {ρ : Type} (fu : Nat) (s0_0 : (Sl Int)) (f1_1 : Int) (f1_2 : (Sl S_impl_Backend)) (f1_3 : (Sl S_impl_Vip)) (t7_4 : Int) (k0 : Int → Option ρ) (k1 : Option ρ) (t8_5 : Int) (go : Int → Option ρ) : Option ρ :=
  (bif (decide (t8_5 < t7_4)) then ((bif (decide (0 ≤ t8_5) && decide ((Int.toNat t8_5) < s0_0.n)) then some () else none : Option Unit).bind fun _ => ((F_impl_ConfigFault_c1 fu (s0_0.f (Int.toNat t8_5)) f1_1 f1_2 f1_3).bind fun y117 =>
    (bif y117 then (k0 t8_5) else (go (IntKind.wrap .i64 (t8_5 + 1)))))) else k1)
def F_slices_IndexFunc_int64_int64_w_impl_ConfigFault_c1 (fu : Nat) (s_0 : (Sl Int)) (f_1_1 : Int) (f_1_2 : (Sl S_impl_Backend)) (f_1_3 : (Sl S_impl_Vip)) : Option (Int) :=
  (L (fun w0 go0 => F_slices_IndexFunc_int64_int64_w_impl_ConfigFault_c1_B0 fu s_0 f_1_1 f_1_2 f_1_3 ((s_0.n : Nat) : Int) (fun z118 => (some z118)) (some (-1)) w0 go0) fu (0 : Int))
def pcf_a38 (fu : Nat) (f : Nat) (xs : List (D RT den)) : Option (Out RT den) := match f with | 135 => S_a37 fu xs | _ => none
def pc_a38 (fu : Nat) : Pc RT den := ⟨pcf_a38 fu, fun _ => false, fun _ => false, pcd0, pcx0⟩
def msk_a38 (b : Nat) : List Nat := match b with | 0 => [2, 3, 4, 5, 6, 9, 10, 11, 12, 13, 14, 15, 16, 17, 18] | 100000 => [0, 1, 2, 3, 5, 6, 7, 8, 9, 10, 11, 12, 13, 14, 15, 16, 17, 18] | _ => []
def ps_a38_0 : List (Pat RT) := [.flat (.rs .i64), .fn 135 [.rptr [(.int .i64), (.rs .impl_Backend), (.rs .impl_Vip)]], .flat .q, .flat .q, .flat .q, .flat .q, .flat .q, .flat (.int .i64), .flat (.int .i64), .flat .q, .flat .q, .flat .q, .flat .q, .flat .q, .flat .q, .flat .q, .flat .q, .flat .q, .flat .q]
def os_a38_0 : List (OP RT) := []
def conv_a38_0 (r : Raw den ps_a38_0 os_a38_0) : ((Sl Int) × Int × (Sl S_impl_Backend) × (Sl S_impl_Vip) × Int) × (Int) := ((r.1.1, r.1.2.1.1.1, r.1.2.1.1.2.1, r.1.2.1.1.2.2.1, r.1.2.2.2.2.2.2.2.1), r.1.2.2.2.2.2.2.2.2.1)
def back_a38_0 (c : (Sl Int) × Int × (Sl S_impl_Backend) × (Sl S_impl_Vip) × Int) (w : Int) : St RT den := ⟨[(.rs c.1.z .i64 c.1.n c.1.f), (.fn 135 [(.rptr [(.int .i64 c.2.1), (.rs c.2.2.1.z .impl_Backend c.2.2.1.n c.2.2.1.f), (.rs c.2.2.2.1.z .impl_Vip c.2.2.2.1.n c.2.2.2.1.f)])]), .q, .q, .q, .q, .q, (.int .i64 c.2.2.2.2), (.int .i64 w), .q, .q, .q, .q, .q, .q, .q, .q, .q, .q], []⟩
def Bk_a38_0 {ρ : Type} (fu : Nat) (c : (Sl Int) × Int × (Sl S_impl_Backend) × (Sl S_impl_Vip) × Int) (k : Ex → St RT den → Option ρ) (w : Int) (go : (Int) → Option ρ) : Option ρ := F_slices_IndexFunc_int64_int64_w_impl_ConfigFault_c1_B0 fu c.1 c.2.1 c.2.2.1 c.2.2.2.1 c.2.2.2.2 (fun a0 => k .ret ⟨[.q, .q, .q, .q, (.int .i64 a0), .q, .q, .q, .q, .q, .q, .q, .q, .q, .q, .q, .q, .q, .q], []⟩) (k (.exit 0) ⟨[.q, .q, .q, .q, .q, .q, .q, .q, .q, .q, .q, .q, .q, .q, .q, .q, .q, .q, .q], []⟩) w go
def lp_a38 (fu : Nat) : Lp RT den (Int) := fun b s k => match b with | 0 => handle ps_a38_0 os_a38_0 conv_a38_0 (Bk_a38_0 fu) fu s k | _ => none
theorem ev_a38 (fu : Nat) (s_0 : (Sl Int)) (f_1_1 : Int) (f_1_2 : (Sl S_impl_Backend)) (f_1_3 : (Sl S_impl_Vip)) : evFun E (pc_a38 fu) msk_a38 (lp_a38 fu) out_i64 151 [(.rs s_0.z .i64 s_0.n s_0.f), (.fn 135 [(.rptr [(.int .i64 f_1_1), (.rs f_1_2.z .impl_Backend f_1_2.n f_1_2.f), (.rs f_1_3.z .impl_Vip f_1_3.n f_1_3.f)])])] = F_slices_IndexFunc_int64_int64_w_impl_ConfigFault_c1 fu s_0 f_1_1 f_1_2 f_1_3 := by kernel_rfl
noncomputable def body_a38 : Code := Try.f151.body.getD .skip
noncomputable def lc_a38_0 : Code := ((loops 0 body_a38).getD 0 (0, .skip)).2
theorem round_a38_0 (fu : Nat) (it : St RT den → Option (Int)) (k : Ex → St RT den → Option (Int)) c w : evCode E (pc_a38 fu) msk_a38 (lp_a38 fu) 0 lc_a38_0 (back_a38_0 c w) (after (msk_a38 0) (msk_a38 100000) 0 it k) = Bk_a38_0 fu c k w (fun w => it (back_a38_0 c w)) := by kernel_rfl
theorem lpok_a38_0 (fu : Nat) : ∀ s k r, lp_a38 fu 0 s k = some r → ∃ fuel, iter (msk_a38 0) (msk_a38 100000) s.objs.length (evCode E (pc_a38 fu) msk_a38 (lp_a38 fu) 0 lc_a38_0) fuel s k = some r :=
  handle_ok (ps := ps_a38_0) (os := os_a38_0) (conv := conv_a38_0) (B := Bk_a38_0 fu) (fu := fu) back_a38_0 (fun raw => by kernel_rfl) 0 (fun c w => by kernel_rfl) (round_a38_0 fu)
theorem lpok_a38 (fu : Nat) : LpOk E (pc_a38 fu) msk_a38 (lp_a38 fu) (loops 0 body_a38) := loop_all 1 (by kernel_rfl) fun i hi => match i, hi with
  | 0, _ => by
    have h : (loops 0 body_a38).getD 0 (0, .skip) = (0, lc_a38_0) := by kernel_rfl
    rw [h]; exact lpok_a38_0 fu
  | i + 1, hi => absurd hi (by omega)
def S_a38 (fu : Nat) (xs : List (D RT den)) : Option (Out RT den) := match xs with | [.rs za0_0 .i64 na0_0 fa0_0, .fn 135 [.rptr [.int .i64 a1_0, .rs za1_1 .impl_Backend na1_1 fa1_1, .rs za1_2 .impl_Vip na1_2 fa1_2]]] => some ⟨Int, F_slices_IndexFunc_int64_int64_w_impl_ConfigFault_c1 fu (⟨za0_0, na0_0, fa0_0⟩ : (Sl Int)) a1_0 (⟨za1_1, na1_1, fa1_1⟩ : (Sl S_impl_Backend)) (⟨za1_2, na1_2, fa1_2⟩ : (Sl S_impl_Vip)), enc_i64, fun _ => true⟩ | _ => none
theorem hpc_a38 (fu : Nat) : ∀ f xs o, pcf_a38 fu f xs = some o → ∀ y, o.x = some y → Good E Try.prog f xs (o.g y) := by
  intro f xs o h
  unfold pcf_a38 at h
  split at h
  · exact good_a37 fu xs o h
  · cases h
theorem goodv_a38 (fu : Nat) (s_0 : (Sl Int)) (f_1_1 : Int) (f_1_2 : (Sl S_impl_Backend)) (f_1_3 : (Sl S_impl_Vip)) (y : Int) (hy : F_slices_IndexFunc_int64_int64_w_impl_ConfigFault_c1 fu s_0 f_1_1 f_1_2 f_1_3 = some y) : Good E Try.prog 151 [(.rs s_0.z .i64 s_0.n s_0.f), (.fn 135 [(.rptr [(.int .i64 f_1_1), (.rs f_1_2.z .impl_Backend f_1_2.n f_1_2.f), (.rs f_1_3.z .impl_Vip f_1_3.n f_1_3.f)])])] (enc_i64 y) :=
  fun_good E_ok (pc_good (pc := pc_a38 fu) (hpc_a38 fu) hpx0) (fn := Try.f151) (c := body_a38) (out := out_i64) (y := y) (by kernel_rfl) (by kernel_rfl) (by kernel_rfl) (lpok_a38 fu) (fun d hd => out_i64_enc d _ hd) ((ev_a38 fu s_0 f_1_1 f_1_2 f_1_3).trans hy)
theorem good_a38 (fu : Nat) : ∀ xs o, S_a38 fu xs = some o → ∀ y, o.x = some y → Good E Try.prog 151 xs (o.g y) := by
  intro xs o h y hy
  unfold S_a38 at h
  split at h
  · rename_i za0_0 na0_0 fa0_0 a1_0 za1_1 na1_1 fa1_1 za1_2 na1_2 fa1_2
    cases h
    exact goodv_a38 fu (⟨za0_0, na0_0, fa0_0⟩ : (Sl Int)) a1_0 (⟨za1_1, na1_1, fa1_1⟩ : (Sl S_impl_Backend)) (⟨za1_2, na1_2, fa1_2⟩ : (Sl S_impl_Vip)) y hy
  · cases h
end Go.Proofs.Ytmnbmponjhglcaa.Pd
