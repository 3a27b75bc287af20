/- The functions' evaluated forms, each a proved summary. Conditions: none. -/
import Derived.Test.YtmgndndkkeinfaaGreatPcF7
namespace Go.Proofs.YtmgndndkkeinfaaGreat.Pc
open Go Go.RowKit Go.Proofs Vm
set_option linter.unusedVariables false
set_option linter.unusedSimpArgs false
set_option maxRecDepth 100000
/-! spec.HeldFor -/
def F_spec_HeldFor (fu : Nat) (m_0 : S_impl_Mux) (f_1 : S_impl_Flow) : Option (S_impl_IntResult) :=
  ((F_spec_l14Fault fu m_0).bind fun y379 => (bif (y379 != 0) then (some (⟨y379, 0⟩ : S_impl_IntResult)) else ((F_spec_l3Flow fu f_1).bind fun y380 => (bif (!y380) then (some (⟨3,
    0⟩ : S_impl_IntResult)) else ((F_spec_l14Find fu m_0.Cache f_1).bind fun y381 => (bif (decide (y381 < 0)) then (some (⟨4, 0⟩ : S_impl_IntResult)) else ((bif (decide (0 ≤ y381) &&
    decide ((Int.toNat y381) < m_0.Cache.n)) then some () else none : Option Unit).bind fun _ => (some (⟨0, (m_0.Cache.f (Int.toNat y381)).Name⟩ : S_impl_IntResult)))))))))
def pcf_spec_HeldFor (fu : Nat) (f : Nat) (xs : List (D RT den)) : Option (Out RT den) := match f with | 17 => S_spec_l14Fault fu xs | 34 => S_spec_l3Flow fu xs | 35 => S_spec_l14Find fu xs | _ => none
def pcx_spec_HeldFor (fu : Nat) (f : Nat) (xs : List (D RT den)) (ins : List (Ob RT den)) : Option (OutX RT den) := none
def pc_spec_HeldFor (fu : Nat) : Pc RT den := ⟨pcf_spec_HeldFor fu, fun _ => false, fun _ => false, pcx_spec_HeldFor fu⟩
def msk_spec_HeldFor (b : Nat) : List Nat := []
def lp_spec_HeldFor (fu : Nat) : Lp RT den (S_impl_IntResult) := fun b s k => none
theorem ev_spec_HeldFor (fu : Nat) (m_0 : S_impl_Mux) (f_1 : S_impl_Flow) : evFun E (pc_spec_HeldFor fu) msk_spec_HeldFor (lp_spec_HeldFor fu) out_impl_IntResult 10 [(.agg [(.int .i64 m_0.Address), (.int .i64 m_0.Now), (.bool m_0.Watch.Ready), (.int .i64 m_0.Watch.Config.Version), (.rs m_0.Watch.Config.Backends.z .impl_Backend m_0.Watch.Config.Backends.n m_0.Watch.Config.Backends.f), (.rs m_0.Watch.Config.Vips.z .impl_Vip m_0.Watch.Config.Vips.n m_0.Watch.Config.Vips.f), (.rs m_0.Tables.z .sl_i64 m_0.Tables.n m_0.Tables.f), (.rs m_0.Cache.z .impl_Held m_0.Cache.n m_0.Cache.f)]), (.agg [(.int .i64 f_1.From), (.int .i64 f_1.To), (.int .i64 f_1.Proto), (.int .i64 f_1.FromP), (.int .i64 f_1.ToP)])] = F_spec_HeldFor fu m_0 f_1 := by kernel_rfl
noncomputable def body_spec_HeldFor : Code := Tryz.f10.body.getD .skip
theorem lpok_spec_HeldFor (fu : Nat) : LpOk E (pc_spec_HeldFor fu) msk_spec_HeldFor (lp_spec_HeldFor fu) (loops 0 body_spec_HeldFor) := by
  have h : loops 0 body_spec_HeldFor = [] := by kernel_rfl
  rw [h]; intro p hp; cases hp
def S_spec_HeldFor (fu : Nat) (xs : List (D RT den)) : Option (Out RT den) := match xs with | [.agg [.int .i64 a0_1, .int .i64 a0_2, .bool a0_4, .int .i64 a0_6, .rs za0_7 .impl_Backend na0_7 fa0_7, .rs za0_8 .impl_Vip na0_8 fa0_8, .rs za0_9 .sl_i64 na0_9 fa0_9, .rs za0_10 .impl_Held na0_10 fa0_10], .agg [.int .i64 a1_1, .int .i64 a1_2, .int .i64 a1_3, .int .i64 a1_4, .int .i64 a1_5]] => some ⟨S_impl_IntResult, F_spec_HeldFor fu (⟨a0_1, a0_2, (⟨a0_4, (⟨a0_6, (⟨za0_7, na0_7, fa0_7⟩ : (Sl S_impl_Backend)), (⟨za0_8, na0_8, fa0_8⟩ : (Sl S_impl_Vip))⟩ : S_impl_Config)⟩ : S_impl_Watch), (⟨za0_9, na0_9, fa0_9⟩ : (Sl (Sl Int))), (⟨za0_10, na0_10, fa0_10⟩ : (Sl S_impl_Held))⟩ : S_impl_Mux) (⟨a1_1, a1_2, a1_3, a1_4, a1_5⟩ : S_impl_Flow), enc_impl_IntResult, fun _ => true⟩ | _ => none
theorem hpc_spec_HeldFor (fu : Nat) : ∀ f xs o, pcf_spec_HeldFor fu f xs = some o → ∀ y, o.x = some y → Good E Tryz.prog f xs (o.g y) := by
  intro f xs o h
  unfold pcf_spec_HeldFor at h
  split at h
  · exact good_spec_l14Fault fu xs o h
  · exact good_spec_l3Flow fu xs o h
  · exact good_spec_l14Find fu xs o h
  · cases h
theorem hpx_spec_HeldFor (fu : Nat) : ∀ f xs ins o, pcx_spec_HeldFor fu f xs ins = some o → ∀ y, o.x = some y → GoodX E Tryz.prog f xs ins (o.g y).1 (o.g y).2 := by
  intro f xs ins o h
  cases h
theorem goodv_spec_HeldFor (fu : Nat) (m_0 : S_impl_Mux) (f_1 : S_impl_Flow) (y : S_impl_IntResult) (hy : F_spec_HeldFor fu m_0 f_1 = some y) : Good E Tryz.prog 10 [(.agg [(.int .i64 m_0.Address), (.int .i64 m_0.Now), (.bool m_0.Watch.Ready), (.int .i64 m_0.Watch.Config.Version), (.rs m_0.Watch.Config.Backends.z .impl_Backend m_0.Watch.Config.Backends.n m_0.Watch.Config.Backends.f), (.rs m_0.Watch.Config.Vips.z .impl_Vip m_0.Watch.Config.Vips.n m_0.Watch.Config.Vips.f), (.rs m_0.Tables.z .sl_i64 m_0.Tables.n m_0.Tables.f), (.rs m_0.Cache.z .impl_Held m_0.Cache.n m_0.Cache.f)]), (.agg [(.int .i64 f_1.From), (.int .i64 f_1.To), (.int .i64 f_1.Proto), (.int .i64 f_1.FromP), (.int .i64 f_1.ToP)])] (enc_impl_IntResult y) :=
  fun_good E_ok (pc_good (pc := pc_spec_HeldFor fu) (hpc_spec_HeldFor fu) (hpx_spec_HeldFor fu)) (fn := Tryz.f10) (c := body_spec_HeldFor) (out := out_impl_IntResult) (y := y) (by kernel_rfl) (by kernel_rfl) (by kernel_rfl) (lpok_spec_HeldFor fu) (fun d hd => out_impl_IntResult_enc d _ hd) ((ev_spec_HeldFor fu m_0 f_1).trans hy)
theorem good_spec_HeldFor (fu : Nat) : ∀ xs o, S_spec_HeldFor fu xs = some o → ∀ y, o.x = some y → Good E Tryz.prog 10 xs (o.g y) := by
  intro xs o h y hy
  unfold S_spec_HeldFor at h
  split at h
  · rename_i a0_1 a0_2 a0_4 a0_6 za0_7 na0_7 fa0_7 za0_8 na0_8 fa0_8 za0_9 na0_9 fa0_9 za0_10 na0_10 fa0_10 a1_1 a1_2 a1_3 a1_4 a1_5
    cases h
    exact goodv_spec_HeldFor fu (⟨a0_1, a0_2, (⟨a0_4, (⟨a0_6, (⟨za0_7, na0_7, fa0_7⟩ : (Sl S_impl_Backend)), (⟨za0_8, na0_8, fa0_8⟩ : (Sl S_impl_Vip))⟩ : S_impl_Config)⟩ : S_impl_Watch), (⟨za0_9, na0_9, fa0_9⟩ : (Sl (Sl Int))), (⟨za0_10, na0_10, fa0_10⟩ : (Sl S_impl_Held))⟩ : S_impl_Mux) (⟨a1_1, a1_2, a1_3, a1_4, a1_5⟩ : S_impl_Flow) y hy
  · cases h

/-! (*impl.Mux).held'1 -/
def F_impl_Mux_held_c1 (fu : Nat) (h_0 : S_impl_Held) (x_1_1 : Int) (x_1_2 : Int) (x_1_3 : Int) (x_1_4 : Int) (x_1_5 : Int) : Option (Bool) :=
  (some ((h_0.Flow.From == x_1_1) && ((h_0.Flow.To == x_1_2) && ((h_0.Flow.Proto == x_1_3) && ((h_0.Flow.FromP == x_1_4) && ((h_0.Flow.ToP == x_1_5) && true))))))
def pcf_impl_Mux_held_c1 (fu : Nat) (f : Nat) (xs : List (D RT den)) : Option (Out RT den) := none
def pcx_impl_Mux_held_c1 (fu : Nat) (f : Nat) (xs : List (D RT den)) (ins : List (Ob RT den)) : Option (OutX RT den) := none
def pc_impl_Mux_held_c1 (fu : Nat) : Pc RT den := ⟨pcf_impl_Mux_held_c1 fu, fun _ => false, fun _ => false, pcx_impl_Mux_held_c1 fu⟩
def msk_impl_Mux_held_c1 (b : Nat) : List Nat := []
def lp_impl_Mux_held_c1 (fu : Nat) : Lp RT den (Bool) := fun b s k => none
theorem ev_impl_Mux_held_c1 (fu : Nat) (h_0 : S_impl_Held) (x_1_1 : Int) (x_1_2 : Int) (x_1_3 : Int) (x_1_4 : Int) (x_1_5 : Int) : evFun E (pc_impl_Mux_held_c1 fu) msk_impl_Mux_held_c1 (lp_impl_Mux_held_c1 fu) out_bo 61 [(.agg [(.int .i64 h_0.Flow.From), (.int .i64 h_0.Flow.To), (.int .i64 h_0.Flow.Proto), (.int .i64 h_0.Flow.FromP), (.int .i64 h_0.Flow.ToP), (.int .i64 h_0.Name), (.int .i64 h_0.Seen)]), (.rptr [(.int .i64 x_1_1), (.int .i64 x_1_2), (.int .i64 x_1_3), (.int .i64 x_1_4), (.int .i64 x_1_5)])] = F_impl_Mux_held_c1 fu h_0 x_1_1 x_1_2 x_1_3 x_1_4 x_1_5 := by kernel_rfl
noncomputable def body_impl_Mux_held_c1 : Code := Tryz.f61.body.getD .skip
theorem lpok_impl_Mux_held_c1 (fu : Nat) : LpOk E (pc_impl_Mux_held_c1 fu) msk_impl_Mux_held_c1 (lp_impl_Mux_held_c1 fu) (loops 0 body_impl_Mux_held_c1) := by
  have h : loops 0 body_impl_Mux_held_c1 = [] := by kernel_rfl
  rw [h]; intro p hp; cases hp
def S_impl_Mux_held_c1 (fu : Nat) (xs : List (D RT den)) : Option (Out RT den) := match xs with | [.agg [.int .i64 a0_2, .int .i64 a0_3, .int .i64 a0_4, .int .i64 a0_5, .int .i64 a0_6, .int .i64 a0_7, .int .i64 a0_8], .rptr [.int .i64 a1_0, .int .i64 a1_1, .int .i64 a1_2, .int .i64 a1_3, .int .i64 a1_4]] => some ⟨Bool, F_impl_Mux_held_c1 fu (⟨(⟨a0_2, a0_3, a0_4, a0_5, a0_6⟩ : S_impl_Flow), a0_7, a0_8⟩ : S_impl_Held) a1_0 a1_1 a1_2 a1_3 a1_4, enc_bo, fun _ => true⟩ | _ => none
theorem hpc_impl_Mux_held_c1 (fu : Nat) : ∀ f xs o, pcf_impl_Mux_held_c1 fu f xs = some o → ∀ y, o.x = some y → Good E Tryz.prog f xs (o.g y) := by
  intro f xs o h
  cases h
theorem hpx_impl_Mux_held_c1 (fu : Nat) : ∀ f xs ins o, pcx_impl_Mux_held_c1 fu f xs ins = some o → ∀ y, o.x = some y → GoodX E Tryz.prog f xs ins (o.g y).1 (o.g y).2 := by
  intro f xs ins o h
  cases h
theorem goodv_impl_Mux_held_c1 (fu : Nat) (h_0 : S_impl_Held) (x_1_1 : Int) (x_1_2 : Int) (x_1_3 : Int) (x_1_4 : Int) (x_1_5 : Int) (y : Bool) (hy : F_impl_Mux_held_c1 fu h_0 x_1_1 x_1_2 x_1_3 x_1_4 x_1_5 = some y) : Good E Tryz.prog 61 [(.agg [(.int .i64 h_0.Flow.From), (.int .i64 h_0.Flow.To), (.int .i64 h_0.Flow.Proto), (.int .i64 h_0.Flow.FromP), (.int .i64 h_0.Flow.ToP), (.int .i64 h_0.Name), (.int .i64 h_0.Seen)]), (.rptr [(.int .i64 x_1_1), (.int .i64 x_1_2), (.int .i64 x_1_3), (.int .i64 x_1_4), (.int .i64 x_1_5)])] (enc_bo y) :=
  fun_good E_ok (pc_good (pc := pc_impl_Mux_held_c1 fu) (hpc_impl_Mux_held_c1 fu) (hpx_impl_Mux_held_c1 fu)) (fn := Tryz.f61) (c := body_impl_Mux_held_c1) (out := out_bo) (y := y) (by kernel_rfl) (by kernel_rfl) (by kernel_rfl) (lpok_impl_Mux_held_c1 fu) (fun d hd => out_bo_enc d _ hd) ((ev_impl_Mux_held_c1 fu h_0 x_1_1 x_1_2 x_1_3 x_1_4 x_1_5).trans hy)
theorem good_impl_Mux_held_c1 (fu : Nat) : ∀ xs o, S_impl_Mux_held_c1 fu xs = some o → ∀ y, o.x = some y → Good E Tryz.prog 61 xs (o.g y) := by
  intro xs o h y hy
  unfold S_impl_Mux_held_c1 at h
  split at h
  · rename_i a0_2 a0_3 a0_4 a0_5 a0_6 a0_7 a0_8 a1_0 a1_1 a1_2 a1_3 a1_4
    cases h
    exact goodv_impl_Mux_held_c1 fu (⟨(⟨a0_2, a0_3, a0_4, a0_5, a0_6⟩ : S_impl_Flow), a0_7, a0_8⟩ : S_impl_Held) a1_0 a1_1 a1_2 a1_3 a1_4 y hy
  · cases h

/-! slices.IndexFunc[[]impl.Held,impl.Held] -/
def F_slices_IndexFunc_impl_Held_impl_Held_w_impl_Mux_held_c1_B0 {ρ : Type} (fu : Nat) (s0_0 : (Sl S_impl_Held)) (f1_1 : Int) (f1_2 : Int) (f1_3 : Int) (f1_4 : Int) (f1_5 : Int) (t7_6 : Int) (k0 : Int → Option ρ) (k1 : Option ρ) (t8_7 : Int) (go : Int → Option ρ) : Option ρ :=
  (bif (decide (t8_7 < t7_6)) then ((bif (decide (0 ≤ t8_7) && decide ((Int.toNat t8_7) < s0_0.n)) then some () else none : Option Unit).bind fun _ => ((F_impl_Mux_held_c1 fu (s0_0.f (Int.toNat t8_7)) f1_1 f1_2 f1_3 f1_4 f1_5).bind fun y387 =>
    (bif y387 then (k0 t8_7) else (go (IntKind.wrap .i64 (t8_7 + 1)))))) else k1)
def F_slices_IndexFunc_impl_Held_impl_Held_w_impl_Mux_held_c1 (fu : Nat) (s_0 : (Sl S_impl_Held)) (f_1_1 : Int) (f_1_2 : Int) (f_1_3 : Int) (f_1_4 : Int) (f_1_5 : Int) : Option (Int) :=
  (L (fun w0 go0 => F_slices_IndexFunc_impl_Held_impl_Held_w_impl_Mux_held_c1_B0 fu s_0 f_1_1 f_1_2 f_1_3 f_1_4 f_1_5 ((s_0.n : Nat) : Int) (fun z388 => (some z388)) (some (-1)) w0 go0) fu (0 : Int))
def pcf_slices_IndexFunc_impl_Held_impl_Held_w_impl_Mux_held_c1 (fu : Nat) (f : Nat) (xs : List (D RT den)) : Option (Out RT den) := match f with | 61 => S_impl_Mux_held_c1 fu xs | _ => none
def pcx_slices_IndexFunc_impl_Held_impl_Held_w_impl_Mux_held_c1 (fu : Nat) (f : Nat) (xs : List (D RT den)) (ins : List (Ob RT den)) : Option (OutX RT den) := none
def pc_slices_IndexFunc_impl_Held_impl_Held_w_impl_Mux_held_c1 (fu : Nat) : Pc RT den := ⟨pcf_slices_IndexFunc_impl_Held_impl_Held_w_impl_Mux_held_c1 fu, fun _ => false, fun _ => false, pcx_slices_IndexFunc_impl_Held_impl_Held_w_impl_Mux_held_c1 fu⟩
def msk_slices_IndexFunc_impl_Held_impl_Held_w_impl_Mux_held_c1 (b : Nat) : List Nat := match b with | 0 => [2, 3, 4, 5, 6, 9, 10, 11, 12, 13, 14, 15, 16, 17, 18] | 100000 => [0, 1, 2, 3, 5, 6, 7, 8, 9, 10, 11, 12, 13, 14, 15, 16, 17, 18] | _ => []
def ps_slices_IndexFunc_impl_Held_impl_Held_w_impl_Mux_held_c1_0 : List (Pat RT) := [.flat (.rs .impl_Held), .fn 61 [.rptr [(.int .i64), (.int .i64), (.int .i64), (.int .i64), (.int .i64)]], .flat .dead, .flat .dead, .flat .dead, .flat .dead, .flat .dead, .flat (.int .i64), .flat (.int .i64), .flat .dead, .flat .dead, .flat .dead, .flat .dead, .flat .dead, .flat .dead, .flat .dead, .flat .dead, .flat .dead, .flat .dead]
def os_slices_IndexFunc_impl_Held_impl_Held_w_impl_Mux_held_c1_0 : List (OP RT) := []
def conv_slices_IndexFunc_impl_Held_impl_Held_w_impl_Mux_held_c1_0 (r : Raw den ps_slices_IndexFunc_impl_Held_impl_Held_w_impl_Mux_held_c1_0 os_slices_IndexFunc_impl_Held_impl_Held_w_impl_Mux_held_c1_0) : ((Sl S_impl_Held) × Int × Int × Int × Int × Int × Int) × (Int) := ((r.1.1, r.1.2.1.1.1, r.1.2.1.1.2.1, r.1.2.1.1.2.2.1, r.1.2.1.1.2.2.2.1, r.1.2.1.1.2.2.2.2.1, r.1.2.2.2.2.2.2.2.1), r.1.2.2.2.2.2.2.2.2.1)
def back_slices_IndexFunc_impl_Held_impl_Held_w_impl_Mux_held_c1_0 (c : (Sl S_impl_Held) × Int × Int × Int × Int × Int × Int) (w : Int) : St RT den := ⟨[(.rs c.1.z .impl_Held c.1.n c.1.f), (.fn 61 [(.rptr [(.int .i64 c.2.1), (.int .i64 c.2.2.1), (.int .i64 c.2.2.2.1), (.int .i64 c.2.2.2.2.1), (.int .i64 c.2.2.2.2.2.1)])]), .dead, .dead, .dead, .dead, .dead, (.int .i64 c.2.2.2.2.2.2), (.int .i64 w), .dead, .dead, .dead, .dead, .dead, .dead, .dead, .dead, .dead, .dead], []⟩
def Bk_slices_IndexFunc_impl_Held_impl_Held_w_impl_Mux_held_c1_0 {ρ : Type} (fu : Nat) (c : (Sl S_impl_Held) × Int × Int × Int × Int × Int × Int) (k : Ex → St RT den → Option ρ) (w : Int) (go : (Int) → Option ρ) : Option ρ := F_slices_IndexFunc_impl_Held_impl_Held_w_impl_Mux_held_c1_B0 fu c.1 c.2.1 c.2.2.1 c.2.2.2.1 c.2.2.2.2.1 c.2.2.2.2.2.1 c.2.2.2.2.2.2 (fun a0 => k .ret ⟨[.dead, .dead, .dead, .dead, (.int .i64 a0), .dead, .dead, .dead, .dead, .dead, .dead, .dead, .dead, .dead, .dead, .dead, .dead, .dead, .dead], []⟩) (k (.exit 0) ⟨[.dead, .dead, .dead, .dead, .dead, .dead, .dead, .dead, .dead, .dead, .dead, .dead, .dead, .dead, .dead, .dead, .dead, .dead, .dead], []⟩) w go
def lp_slices_IndexFunc_impl_Held_impl_Held_w_impl_Mux_held_c1 (fu : Nat) : Lp RT den (Int) := fun b s k => match b with | 0 => handle ps_slices_IndexFunc_impl_Held_impl_Held_w_impl_Mux_held_c1_0 os_slices_IndexFunc_impl_Held_impl_Held_w_impl_Mux_held_c1_0 conv_slices_IndexFunc_impl_Held_impl_Held_w_impl_Mux_held_c1_0 (Bk_slices_IndexFunc_impl_Held_impl_Held_w_impl_Mux_held_c1_0 fu) fu s k | _ => none
theorem ev_slices_IndexFunc_impl_Held_impl_Held_w_impl_Mux_held_c1 (fu : Nat) (s_0 : (Sl S_impl_Held)) (f_1_1 : Int) (f_1_2 : Int) (f_1_3 : Int) (f_1_4 : Int) (f_1_5 : Int) : evFun E (pc_slices_IndexFunc_impl_Held_impl_Held_w_impl_Mux_held_c1 fu) msk_slices_IndexFunc_impl_Held_impl_Held_w_impl_Mux_held_c1 (lp_slices_IndexFunc_impl_Held_impl_Held_w_impl_Mux_held_c1 fu) out_i64 56 [(.rs s_0.z .impl_Held s_0.n s_0.f), (.fn 61 [(.rptr [(.int .i64 f_1_1), (.int .i64 f_1_2), (.int .i64 f_1_3), (.int .i64 f_1_4), (.int .i64 f_1_5)])])] = F_slices_IndexFunc_impl_Held_impl_Held_w_impl_Mux_held_c1 fu s_0 f_1_1 f_1_2 f_1_3 f_1_4 f_1_5 := by kernel_rfl
noncomputable def body_slices_IndexFunc_impl_Held_impl_Held_w_impl_Mux_held_c1 : Code := Tryz.f56.body.getD .skip
noncomputable def lc_slices_IndexFunc_impl_Held_impl_Held_w_impl_Mux_held_c1_0 : Code := ((loops 0 body_slices_IndexFunc_impl_Held_impl_Held_w_impl_Mux_held_c1).getD 0 (0, .skip)).2
theorem round_slices_IndexFunc_impl_Held_impl_Held_w_impl_Mux_held_c1_0 (fu : Nat) (it : St RT den → Option (Int)) (k : Ex → St RT den → Option (Int)) c w : evCode E (pc_slices_IndexFunc_impl_Held_impl_Held_w_impl_Mux_held_c1 fu) msk_slices_IndexFunc_impl_Held_impl_Held_w_impl_Mux_held_c1 (lp_slices_IndexFunc_impl_Held_impl_Held_w_impl_Mux_held_c1 fu) 0 lc_slices_IndexFunc_impl_Held_impl_Held_w_impl_Mux_held_c1_0 (back_slices_IndexFunc_impl_Held_impl_Held_w_impl_Mux_held_c1_0 c w) (after (msk_slices_IndexFunc_impl_Held_impl_Held_w_impl_Mux_held_c1 0) (msk_slices_IndexFunc_impl_Held_impl_Held_w_impl_Mux_held_c1 100000) 0 it k) = Bk_slices_IndexFunc_impl_Held_impl_Held_w_impl_Mux_held_c1_0 fu c k w (fun w => it (back_slices_IndexFunc_impl_Held_impl_Held_w_impl_Mux_held_c1_0 c w)) := by kernel_rfl
theorem lpok_slices_IndexFunc_impl_Held_impl_Held_w_impl_Mux_held_c1_0 (fu : Nat) : ∀ s k r, lp_slices_IndexFunc_impl_Held_impl_Held_w_impl_Mux_held_c1 fu 0 s k = some r → ∃ fuel, iter (msk_slices_IndexFunc_impl_Held_impl_Held_w_impl_Mux_held_c1 0) (msk_slices_IndexFunc_impl_Held_impl_Held_w_impl_Mux_held_c1 100000) s.objs.length (evCode E (pc_slices_IndexFunc_impl_Held_impl_Held_w_impl_Mux_held_c1 fu) msk_slices_IndexFunc_impl_Held_impl_Held_w_impl_Mux_held_c1 (lp_slices_IndexFunc_impl_Held_impl_Held_w_impl_Mux_held_c1 fu) 0 lc_slices_IndexFunc_impl_Held_impl_Held_w_impl_Mux_held_c1_0) fuel s k = some r :=
  handle_ok (ps := ps_slices_IndexFunc_impl_Held_impl_Held_w_impl_Mux_held_c1_0) (os := os_slices_IndexFunc_impl_Held_impl_Held_w_impl_Mux_held_c1_0) (conv := conv_slices_IndexFunc_impl_Held_impl_Held_w_impl_Mux_held_c1_0) (B := Bk_slices_IndexFunc_impl_Held_impl_Held_w_impl_Mux_held_c1_0 fu) (fu := fu) back_slices_IndexFunc_impl_Held_impl_Held_w_impl_Mux_held_c1_0 (fun raw => by kernel_rfl) 0 (fun c w => by kernel_rfl) (round_slices_IndexFunc_impl_Held_impl_Held_w_impl_Mux_held_c1_0 fu)
theorem lpok_slices_IndexFunc_impl_Held_impl_Held_w_impl_Mux_held_c1 (fu : Nat) : LpOk E (pc_slices_IndexFunc_impl_Held_impl_Held_w_impl_Mux_held_c1 fu) msk_slices_IndexFunc_impl_Held_impl_Held_w_impl_Mux_held_c1 (lp_slices_IndexFunc_impl_Held_impl_Held_w_impl_Mux_held_c1 fu) (loops 0 body_slices_IndexFunc_impl_Held_impl_Held_w_impl_Mux_held_c1) := loop_all 1 (by kernel_rfl) fun i hi => match i, hi with
  | 0, _ => by
    have h : (loops 0 body_slices_IndexFunc_impl_Held_impl_Held_w_impl_Mux_held_c1).getD 0 (0, .skip) = (0, lc_slices_IndexFunc_impl_Held_impl_Held_w_impl_Mux_held_c1_0) := by kernel_rfl
    rw [h]; exact lpok_slices_IndexFunc_impl_Held_impl_Held_w_impl_Mux_held_c1_0 fu
  | i + 1, hi => absurd hi (by omega)
def S_slices_IndexFunc_impl_Held_impl_Held_w_impl_Mux_held_c1 (fu : Nat) (xs : List (D RT den)) : Option (Out RT den) := match xs with | [.rs za0_0 .impl_Held na0_0 fa0_0, .fn 61 [.rptr [.int .i64 a1_0, .int .i64 a1_1, .int .i64 a1_2, .int .i64 a1_3, .int .i64 a1_4]]] => some ⟨Int, F_slices_IndexFunc_impl_Held_impl_Held_w_impl_Mux_held_c1 fu (⟨za0_0, na0_0, fa0_0⟩ : (Sl S_impl_Held)) a1_0 a1_1 a1_2 a1_3 a1_4, enc_i64, fun _ => true⟩ | _ => none
theorem hpc_slices_IndexFunc_impl_Held_impl_Held_w_impl_Mux_held_c1 (fu : Nat) : ∀ f xs o, pcf_slices_IndexFunc_impl_Held_impl_Held_w_impl_Mux_held_c1 fu f xs = some o → ∀ y, o.x = some y → Good E Tryz.prog f xs (o.g y) := by
  intro f xs o h
  unfold pcf_slices_IndexFunc_impl_Held_impl_Held_w_impl_Mux_held_c1 at h
  split at h
  · exact good_impl_Mux_held_c1 fu xs o h
  · cases h
theorem hpx_slices_IndexFunc_impl_Held_impl_Held_w_impl_Mux_held_c1 (fu : Nat) : ∀ f xs ins o, pcx_slices_IndexFunc_impl_Held_impl_Held_w_impl_Mux_held_c1 fu f xs ins = some o → ∀ y, o.x = some y → GoodX E Tryz.prog f xs ins (o.g y).1 (o.g y).2 := by
  intro f xs ins o h
  cases h
theorem goodv_slices_IndexFunc_impl_Held_impl_Held_w_impl_Mux_held_c1 (fu : Nat) (s_0 : (Sl S_impl_Held)) (f_1_1 : Int) (f_1_2 : Int) (f_1_3 : Int) (f_1_4 : Int) (f_1_5 : Int) (y : Int) (hy : F_slices_IndexFunc_impl_Held_impl_Held_w_impl_Mux_held_c1 fu s_0 f_1_1 f_1_2 f_1_3 f_1_4 f_1_5 = some y) : Good E Tryz.prog 56 [(.rs s_0.z .impl_Held s_0.n s_0.f), (.fn 61 [(.rptr [(.int .i64 f_1_1), (.int .i64 f_1_2), (.int .i64 f_1_3), (.int .i64 f_1_4), (.int .i64 f_1_5)])])] (enc_i64 y) :=
  fun_good E_ok (pc_good (pc := pc_slices_IndexFunc_impl_Held_impl_Held_w_impl_Mux_held_c1 fu) (hpc_slices_IndexFunc_impl_Held_impl_Held_w_impl_Mux_held_c1 fu) (hpx_slices_IndexFunc_impl_Held_impl_Held_w_impl_Mux_held_c1 fu)) (fn := Tryz.f56) (c := body_slices_IndexFunc_impl_Held_impl_Held_w_impl_Mux_held_c1) (out := out_i64) (y := y) (by kernel_rfl) (by kernel_rfl) (by kernel_rfl) (lpok_slices_IndexFunc_impl_Held_impl_Held_w_impl_Mux_held_c1 fu) (fun d hd => out_i64_enc d _ hd) ((ev_slices_IndexFunc_impl_Held_impl_Held_w_impl_Mux_held_c1 fu s_0 f_1_1 f_1_2 f_1_3 f_1_4 f_1_5).trans hy)
theorem good_slices_IndexFunc_impl_Held_impl_Held_w_impl_Mux_held_c1 (fu : Nat) : ∀ xs o, S_slices_IndexFunc_impl_Held_impl_Held_w_impl_Mux_held_c1 fu xs = some o → ∀ y, o.x = some y → Good E Tryz.prog 56 xs (o.g y) := by
  intro xs o h y hy
  unfold S_slices_IndexFunc_impl_Held_impl_Held_w_impl_Mux_held_c1 at h
  split at h
  · rename_i za0_0 na0_0 fa0_0 a1_0 a1_1 a1_2 a1_3 a1_4
    cases h
    exact goodv_slices_IndexFunc_impl_Held_impl_Held_w_impl_Mux_held_c1 fu (⟨za0_0, na0_0, fa0_0⟩ : (Sl S_impl_Held)) a1_0 a1_1 a1_2 a1_3 a1_4 y hy
  · cases h

/-! (*impl.Mux).held -/
def F_impl_Mux_held (fu : Nat) (m_0 : S_impl_Mux) (f_1 : S_impl_Flow) : Option (Int) :=
  ((F_slices_IndexFunc_impl_Held_impl_Held_w_impl_Mux_held_c1 fu m_0.Cache f_1.From f_1.To f_1.Proto f_1.FromP f_1.ToP).bind fun y386 => (some y386))
def pcf_impl_Mux_held (fu : Nat) (f : Nat) (xs : List (D RT den)) : Option (Out RT den) := match f with | 56 => S_slices_IndexFunc_impl_Held_impl_Held_w_impl_Mux_held_c1 fu xs | _ => none
def pcx_impl_Mux_held (fu : Nat) (f : Nat) (xs : List (D RT den)) (ins : List (Ob RT den)) : Option (OutX RT den) := none
def pc_impl_Mux_held (fu : Nat) : Pc RT den := ⟨pcf_impl_Mux_held fu, fun _ => false, fun _ => false, pcx_impl_Mux_held fu⟩
def msk_impl_Mux_held (b : Nat) : List Nat := []
def lp_impl_Mux_held (fu : Nat) : Lp RT den (Int) := fun b s k => none
theorem ev_impl_Mux_held (fu : Nat) (m_0 : S_impl_Mux) (f_1 : S_impl_Flow) : evFun E (pc_impl_Mux_held fu) msk_impl_Mux_held (lp_impl_Mux_held fu) out_i64 36 [(.rptr [(.int .i64 m_0.Address), (.int .i64 m_0.Now), (.bool m_0.Watch.Ready), (.int .i64 m_0.Watch.Config.Version), (.rs m_0.Watch.Config.Backends.z .impl_Backend m_0.Watch.Config.Backends.n m_0.Watch.Config.Backends.f), (.rs m_0.Watch.Config.Vips.z .impl_Vip m_0.Watch.Config.Vips.n m_0.Watch.Config.Vips.f), (.rs m_0.Tables.z .sl_i64 m_0.Tables.n m_0.Tables.f), (.rs m_0.Cache.z .impl_Held m_0.Cache.n m_0.Cache.f)]), (.agg [(.int .i64 f_1.From), (.int .i64 f_1.To), (.int .i64 f_1.Proto), (.int .i64 f_1.FromP), (.int .i64 f_1.ToP)])] = F_impl_Mux_held fu m_0 f_1 := by kernel_rfl
noncomputable def body_impl_Mux_held : Code := Tryz.f36.body.getD .skip
theorem lpok_impl_Mux_held (fu : Nat) : LpOk E (pc_impl_Mux_held fu) msk_impl_Mux_held (lp_impl_Mux_held fu) (loops 0 body_impl_Mux_held) := by
  have h : loops 0 body_impl_Mux_held = [] := by kernel_rfl
  rw [h]; intro p hp; cases hp
def S_impl_Mux_held (fu : Nat) (xs : List (D RT den)) : Option (Out RT den) := match xs with | [.rptr (.int .i64 a0_1 :: .int .i64 a0_2 :: .bool a0_4 :: .int .i64 a0_6 :: .rs za0_7 .impl_Backend na0_7 fa0_7 :: .rs za0_8 .impl_Vip na0_8 fa0_8 :: .rs za0_9 .sl_i64 na0_9 fa0_9 :: .rs za0_10 .impl_Held na0_10 fa0_10 :: ra0), .agg [.int .i64 a1_1, .int .i64 a1_2, .int .i64 a1_3, .int .i64 a1_4, .int .i64 a1_5]] => some ⟨Int, F_impl_Mux_held fu (⟨a0_1, a0_2, (⟨a0_4, (⟨a0_6, (⟨za0_7, na0_7, fa0_7⟩ : (Sl S_impl_Backend)), (⟨za0_8, na0_8, fa0_8⟩ : (Sl S_impl_Vip))⟩ : S_impl_Config)⟩ : S_impl_Watch), (⟨za0_9, na0_9, fa0_9⟩ : (Sl (Sl Int))), (⟨za0_10, na0_10, fa0_10⟩ : (Sl S_impl_Held))⟩ : S_impl_Mux) (⟨a1_1, a1_2, a1_3, a1_4, a1_5⟩ : S_impl_Flow), enc_i64, fun _ => true⟩ | _ => none
theorem hpc_impl_Mux_held (fu : Nat) : ∀ f xs o, pcf_impl_Mux_held fu f xs = some o → ∀ y, o.x = some y → Good E Tryz.prog f xs (o.g y) := by
  intro f xs o h
  unfold pcf_impl_Mux_held at h
  split at h
  · exact good_slices_IndexFunc_impl_Held_impl_Held_w_impl_Mux_held_c1 fu xs o h
  · cases h
theorem hpx_impl_Mux_held (fu : Nat) : ∀ f xs ins o, pcx_impl_Mux_held fu f xs ins = some o → ∀ y, o.x = some y → GoodX E Tryz.prog f xs ins (o.g y).1 (o.g y).2 := by
  intro f xs ins o h
  cases h
theorem goodv_impl_Mux_held (fu : Nat) (m_0 : S_impl_Mux) (f_1 : S_impl_Flow) (y : Int) (hy : F_impl_Mux_held fu m_0 f_1 = some y) : Good E Tryz.prog 36 [(.rptr [(.int .i64 m_0.Address), (.int .i64 m_0.Now), (.bool m_0.Watch.Ready), (.int .i64 m_0.Watch.Config.Version), (.rs m_0.Watch.Config.Backends.z .impl_Backend m_0.Watch.Config.Backends.n m_0.Watch.Config.Backends.f), (.rs m_0.Watch.Config.Vips.z .impl_Vip m_0.Watch.Config.Vips.n m_0.Watch.Config.Vips.f), (.rs m_0.Tables.z .sl_i64 m_0.Tables.n m_0.Tables.f), (.rs m_0.Cache.z .impl_Held m_0.Cache.n m_0.Cache.f)]), (.agg [(.int .i64 f_1.From), (.int .i64 f_1.To), (.int .i64 f_1.Proto), (.int .i64 f_1.FromP), (.int .i64 f_1.ToP)])] (enc_i64 y) :=
  fun_good E_ok (pc_good (pc := pc_impl_Mux_held fu) (hpc_impl_Mux_held fu) (hpx_impl_Mux_held fu)) (fn := Tryz.f36) (c := body_impl_Mux_held) (out := out_i64) (y := y) (by kernel_rfl) (by kernel_rfl) (by kernel_rfl) (lpok_impl_Mux_held fu) (fun d hd => out_i64_enc d _ hd) ((ev_impl_Mux_held fu m_0 f_1).trans hy)
theorem good_impl_Mux_held (fu : Nat) : ∀ xs o, S_impl_Mux_held fu xs = some o → ∀ y, o.x = some y → Good E Tryz.prog 36 xs (o.g y) := by
  intro xs o h y hy
  unfold S_impl_Mux_held at h
  split at h
  · rename_i a0_1 a0_2 a0_4 a0_6 za0_7 na0_7 fa0_7 za0_8 na0_8 fa0_8 za0_9 na0_9 fa0_9 za0_10 na0_10 fa0_10 ra0 a1_1 a1_2 a1_3 a1_4 a1_5
    cases h
    exact (goodv_impl_Mux_held fu (⟨a0_1, a0_2, (⟨a0_4, (⟨a0_6, (⟨za0_7, na0_7, fa0_7⟩ : (Sl S_impl_Backend)), (⟨za0_8, na0_8, fa0_8⟩ : (Sl S_impl_Vip))⟩ : S_impl_Config)⟩ : S_impl_Watch), (⟨za0_9, na0_9, fa0_9⟩ : (Sl (Sl Int))), (⟨za0_10, na0_10, fa0_10⟩ : (Sl S_impl_Held))⟩ : S_impl_Mux) (⟨a1_1, a1_2, a1_3, a1_4, a1_5⟩ : S_impl_Flow) y hy).sub ⟨Sub.of_eq ra0 rfl, .refl _, trivial⟩
  · cases h

/-! impl.HeldFor -/
def F_impl_HeldFor (fu : Nat) (m_0 : S_impl_Mux) (f_1 : S_impl_Flow) : Option (S_impl_IntResult) :=
  ((F_impl_MuxFault fu m_0).bind fun y382 => (((bif (y382 == 0) then ((F_impl_isFlow fu f_1).bind fun y383 => (some (!y383))) else (some false)) : Option Bool).bind fun m384 => (bif m384 then
    (some (⟨3, 0⟩ : S_impl_IntResult)) else (bif (y382 != 0) then (some (⟨y382, 0⟩ : S_impl_IntResult)) else ((F_impl_Mux_held fu m_0 f_1).bind fun y385 => (bif (decide (y385 < 0)) then
    (some (⟨4, 0⟩ : S_impl_IntResult)) else ((bif (decide (0 ≤ y385) && decide ((Int.toNat y385) < m_0.Cache.n)) then some () else none : Option Unit).bind fun _ => (some (⟨0,
    (m_0.Cache.f (Int.toNat y385)).Name⟩ : S_impl_IntResult)))))))))
def pcf_impl_HeldFor (fu : Nat) (f : Nat) (xs : List (D RT den)) : Option (Out RT den) := match f with | 8 => S_impl_MuxFault fu xs | 27 => S_impl_isFlow fu xs | 36 => S_impl_Mux_held fu xs | _ => none
def pcx_impl_HeldFor (fu : Nat) (f : Nat) (xs : List (D RT den)) (ins : List (Ob RT den)) : Option (OutX RT den) := none
def pc_impl_HeldFor (fu : Nat) : Pc RT den := ⟨pcf_impl_HeldFor fu, fun _ => false, fun _ => false, pcx_impl_HeldFor fu⟩
def msk_impl_HeldFor (b : Nat) : List Nat := match b with | 200002 => [15] | _ => []
def lp_impl_HeldFor (fu : Nat) : Lp RT den (S_impl_IntResult) := fun b s k => none
theorem ev_impl_HeldFor (fu : Nat) (m_0 : S_impl_Mux) (f_1 : S_impl_Flow) : evFun E (pc_impl_HeldFor fu) msk_impl_HeldFor (lp_impl_HeldFor fu) out_impl_IntResult 12 [(.agg [(.int .i64 m_0.Address), (.int .i64 m_0.Now), (.bool m_0.Watch.Ready), (.int .i64 m_0.Watch.Config.Version), (.rs m_0.Watch.Config.Backends.z .impl_Backend m_0.Watch.Config.Backends.n m_0.Watch.Config.Backends.f), (.rs m_0.Watch.Config.Vips.z .impl_Vip m_0.Watch.Config.Vips.n m_0.Watch.Config.Vips.f), (.rs m_0.Tables.z .sl_i64 m_0.Tables.n m_0.Tables.f), (.rs m_0.Cache.z .impl_Held m_0.Cache.n m_0.Cache.f)]), (.agg [(.int .i64 f_1.From), (.int .i64 f_1.To), (.int .i64 f_1.Proto), (.int .i64 f_1.FromP), (.int .i64 f_1.ToP)])] = F_impl_HeldFor fu m_0 f_1 := by kernel_rfl
noncomputable def body_impl_HeldFor : Code := Tryz.f12.body.getD .skip
theorem lpok_impl_HeldFor (fu : Nat) : LpOk E (pc_impl_HeldFor fu) msk_impl_HeldFor (lp_impl_HeldFor fu) (loops 0 body_impl_HeldFor) := by
  have h : loops 0 body_impl_HeldFor = [] := by kernel_rfl
  rw [h]; intro p hp; cases hp
def S_impl_HeldFor (fu : Nat) (xs : List (D RT den)) : Option (Out RT den) := match xs with | [.agg [.int .i64 a0_1, .int .i64 a0_2, .bool a0_4, .int .i64 a0_6, .rs za0_7 .impl_Backend na0_7 fa0_7, .rs za0_8 .impl_Vip na0_8 fa0_8, .rs za0_9 .sl_i64 na0_9 fa0_9, .rs za0_10 .impl_Held na0_10 fa0_10], .agg [.int .i64 a1_1, .int .i64 a1_2, .int .i64 a1_3, .int .i64 a1_4, .int .i64 a1_5]] => some ⟨S_impl_IntResult, F_impl_HeldFor fu (⟨a0_1, a0_2, (⟨a0_4, (⟨a0_6, (⟨za0_7, na0_7, fa0_7⟩ : (Sl S_impl_Backend)), (⟨za0_8, na0_8, fa0_8⟩ : (Sl S_impl_Vip))⟩ : S_impl_Config)⟩ : S_impl_Watch), (⟨za0_9, na0_9, fa0_9⟩ : (Sl (Sl Int))), (⟨za0_10, na0_10, fa0_10⟩ : (Sl S_impl_Held))⟩ : S_impl_Mux) (⟨a1_1, a1_2, a1_3, a1_4, a1_5⟩ : S_impl_Flow), enc_impl_IntResult, fun _ => true⟩ | _ => none
theorem hpc_impl_HeldFor (fu : Nat) : ∀ f xs o, pcf_impl_HeldFor fu f xs = some o → ∀ y, o.x = some y → Good E Tryz.prog f xs (o.g y) := by
  intro f xs o h
  unfold pcf_impl_HeldFor at h
  split at h
  · exact good_impl_MuxFault fu xs o h
  · exact good_impl_isFlow fu xs o h
  · exact good_impl_Mux_held fu xs o h
  · cases h
theorem hpx_impl_HeldFor (fu : Nat) : ∀ f xs ins o, pcx_impl_HeldFor fu f xs ins = some o → ∀ y, o.x = some y → GoodX E Tryz.prog f xs ins (o.g y).1 (o.g y).2 := by
  intro f xs ins o h
  cases h
theorem goodv_impl_HeldFor (fu : Nat) (m_0 : S_impl_Mux) (f_1 : S_impl_Flow) (y : S_impl_IntResult) (hy : F_impl_HeldFor fu m_0 f_1 = some y) : Good E Tryz.prog 12 [(.agg [(.int .i64 m_0.Address), (.int .i64 m_0.Now), (.bool m_0.Watch.Ready), (.int .i64 m_0.Watch.Config.Version), (.rs m_0.Watch.Config.Backends.z .impl_Backend m_0.Watch.Config.Backends.n m_0.Watch.Config.Backends.f), (.rs m_0.Watch.Config.Vips.z .impl_Vip m_0.Watch.Config.Vips.n m_0.Watch.Config.Vips.f), (.rs m_0.Tables.z .sl_i64 m_0.Tables.n m_0.Tables.f), (.rs m_0.Cache.z .impl_Held m_0.Cache.n m_0.Cache.f)]), (.agg [(.int .i64 f_1.From), (.int .i64 f_1.To), (.int .i64 f_1.Proto), (.int .i64 f_1.FromP), (.int .i64 f_1.ToP)])] (enc_impl_IntResult y) :=
  fun_good E_ok (pc_good (pc := pc_impl_HeldFor fu) (hpc_impl_HeldFor fu) (hpx_impl_HeldFor fu)) (fn := Tryz.f12) (c := body_impl_HeldFor) (out := out_impl_IntResult) (y := y) (by kernel_rfl) (by kernel_rfl) (by kernel_rfl) (lpok_impl_HeldFor fu) (fun d hd => out_impl_IntResult_enc d _ hd) ((ev_impl_HeldFor fu m_0 f_1).trans hy)
theorem good_impl_HeldFor (fu : Nat) : ∀ xs o, S_impl_HeldFor fu xs = some o → ∀ y, o.x = some y → Good E Tryz.prog 12 xs (o.g y) := by
  intro xs o h y hy
  unfold S_impl_HeldFor at h
  split at h
  · rename_i a0_1 a0_2 a0_4 a0_6 za0_7 na0_7 fa0_7 za0_8 na0_8 fa0_8 za0_9 na0_9 fa0_9 za0_10 na0_10 fa0_10 a1_1 a1_2 a1_3 a1_4 a1_5
    cases h
    exact goodv_impl_HeldFor fu (⟨a0_1, a0_2, (⟨a0_4, (⟨a0_6, (⟨za0_7, na0_7, fa0_7⟩ : (Sl S_impl_Backend)), (⟨za0_8, na0_8, fa0_8⟩ : (Sl S_impl_Vip))⟩ : S_impl_Config)⟩ : S_impl_Watch), (⟨za0_9, na0_9, fa0_9⟩ : (Sl (Sl Int))), (⟨za0_10, na0_10, fa0_10⟩ : (Sl S_impl_Held))⟩ : S_impl_Mux) (⟨a1_1, a1_2, a1_3, a1_4, a1_5⟩ : S_impl_Flow) y hy
  · cases h

/-! laws.eqIntResult -/
def F_laws_eqIntResult (fu : Nat) (a_0 : S_impl_IntResult) (b_1 : S_impl_IntResult) : Option (Bool) :=
  (bif (a_0.Code != b_1.Code) then (some false) else (bif (a_0.Value != b_1.Value) then (some false) else (some true)))
def pcf_laws_eqIntResult (fu : Nat) (f : Nat) (xs : List (D RT den)) : Option (Out RT den) := none
def pcx_laws_eqIntResult (fu : Nat) (f : Nat) (xs : List (D RT den)) (ins : List (Ob RT den)) : Option (OutX RT den) := none
def pc_laws_eqIntResult (fu : Nat) : Pc RT den := ⟨pcf_laws_eqIntResult fu, fun _ => false, fun _ => false, pcx_laws_eqIntResult fu⟩
def msk_laws_eqIntResult (b : Nat) : List Nat := []
def lp_laws_eqIntResult (fu : Nat) : Lp RT den (Bool) := fun b s k => none
theorem ev_laws_eqIntResult (fu : Nat) (a_0 : S_impl_IntResult) (b_1 : S_impl_IntResult) : evFun E (pc_laws_eqIntResult fu) msk_laws_eqIntResult (lp_laws_eqIntResult fu) out_bo 13 [(.agg [(.int .i64 a_0.Code), (.int .i64 a_0.Value)]), (.agg [(.int .i64 b_1.Code), (.int .i64 b_1.Value)])] = F_laws_eqIntResult fu a_0 b_1 := by kernel_rfl
noncomputable def body_laws_eqIntResult : Code := Tryz.f13.body.getD .skip
theorem lpok_laws_eqIntResult (fu : Nat) : LpOk E (pc_laws_eqIntResult fu) msk_laws_eqIntResult (lp_laws_eqIntResult fu) (loops 0 body_laws_eqIntResult) := by
  have h : loops 0 body_laws_eqIntResult = [] := by kernel_rfl
  rw [h]; intro p hp; cases hp
def S_laws_eqIntResult (fu : Nat) (xs : List (D RT den)) : Option (Out RT den) := match xs with | [.agg [.int .i64 a0_1, .int .i64 a0_2], .agg [.int .i64 a1_1, .int .i64 a1_2]] => some ⟨Bool, F_laws_eqIntResult fu (⟨a0_1, a0_2⟩ : S_impl_IntResult) (⟨a1_1, a1_2⟩ : S_impl_IntResult), enc_bo, fun _ => true⟩ | _ => none
theorem hpc_laws_eqIntResult (fu : Nat) : ∀ f xs o, pcf_laws_eqIntResult fu f xs = some o → ∀ y, o.x = some y → Good E Tryz.prog f xs (o.g y) := by
  intro f xs o h
  cases h
theorem hpx_laws_eqIntResult (fu : Nat) : ∀ f xs ins o, pcx_laws_eqIntResult fu f xs ins = some o → ∀ y, o.x = some y → GoodX E Tryz.prog f xs ins (o.g y).1 (o.g y).2 := by
  intro f xs ins o h
  cases h
theorem goodv_laws_eqIntResult (fu : Nat) (a_0 : S_impl_IntResult) (b_1 : S_impl_IntResult) (y : Bool) (hy : F_laws_eqIntResult fu a_0 b_1 = some y) : Good E Tryz.prog 13 [(.agg [(.int .i64 a_0.Code), (.int .i64 a_0.Value)]), (.agg [(.int .i64 b_1.Code), (.int .i64 b_1.Value)])] (enc_bo y) :=
  fun_good E_ok (pc_good (pc := pc_laws_eqIntResult fu) (hpc_laws_eqIntResult fu) (hpx_laws_eqIntResult fu)) (fn := Tryz.f13) (c := body_laws_eqIntResult) (out := out_bo) (y := y) (by kernel_rfl) (by kernel_rfl) (by kernel_rfl) (lpok_laws_eqIntResult fu) (fun d hd => out_bo_enc d _ hd) ((ev_laws_eqIntResult fu a_0 b_1).trans hy)
theorem good_laws_eqIntResult (fu : Nat) : ∀ xs o, S_laws_eqIntResult fu xs = some o → ∀ y, o.x = some y → Good E Tryz.prog 13 xs (o.g y) := by
  intro xs o h y hy
  unfold S_laws_eqIntResult at h
  split at h
  · rename_i a0_1 a0_2 a1_1 a1_2
    cases h
    exact goodv_laws_eqIntResult fu (⟨a0_1, a0_2⟩ : S_impl_IntResult) (⟨a1_1, a1_2⟩ : S_impl_IntResult) y hy
  · cases h

/-! laws.FnExactHeldFor -/
def F_laws_FnExactHeldFor (fu : Nat) (aM_0 : S_laws_Mux) (aF_1 : S_impl_Flow) : Option (Bool) :=
  ((F_laws_szMux fu aM_0 1048576).bind fun y369 => (bif (decide (y369 < 0)) then (some true) else ((F_laws_toMux fu aM_0).bind fun y370 => ((F_laws_toFlow fu aF_1).bind fun y371 =>
    ((F_spec_HeldFor fu y370 y371).bind fun y372 => ((F_laws_toMux fu aM_0).bind fun y373 => ((F_laws_toFlow fu aF_1).bind fun y374 => ((F_impl_HeldFor fu y373 y374).bind fun y375 =>
    ((F_laws_eqIntResult fu y375 y372).bind fun y376 => (bif (!y376) then (some false) else ((F_laws_toMux fu aM_0).bind fun y377 => ((F_laws_eqMux fu y373 y377).bind fun y378 =>
    (bif (!y378) then (some false) else (some true))))))))))))))
def pcf_laws_FnExactHeldFor (fu : Nat) (f : Nat) (xs : List (D RT den)) : Option (Out RT den) := match f with | 5 => S_laws_szMux fu xs | 7 => S_laws_toMux fu xs | 9 => S_laws_eqMux fu xs | 10 => S_spec_HeldFor fu xs | 11 => S_laws_toFlow fu xs | 12 => S_impl_HeldFor fu xs | 13 => S_laws_eqIntResult fu xs | _ => none
def pcx_laws_FnExactHeldFor (fu : Nat) (f : Nat) (xs : List (D RT den)) (ins : List (Ob RT den)) : Option (OutX RT den) := none
def pc_laws_FnExactHeldFor (fu : Nat) : Pc RT den := ⟨pcf_laws_FnExactHeldFor fu, fun _ => false, fun _ => false, pcx_laws_FnExactHeldFor fu⟩
def msk_laws_FnExactHeldFor (b : Nat) : List Nat := []
def lp_laws_FnExactHeldFor (fu : Nat) : Lp RT den (Bool) := fun b s k => none
theorem ev_laws_FnExactHeldFor (fu : Nat) (aM_0 : S_laws_Mux) (aF_1 : S_impl_Flow) : evFun E (pc_laws_FnExactHeldFor fu) msk_laws_FnExactHeldFor (lp_laws_FnExactHeldFor fu) out_bo 4 [(.agg [(.int .i64 aM_0.Address), (.int .i64 aM_0.Now), (.bool aM_0.Watch.Ready), (.int .i64 aM_0.Watch.Config.Version), (.rs aM_0.Watch.Config.Backends.z .impl_Backend aM_0.Watch.Config.Backends.n aM_0.Watch.Config.Backends.f), (.rs aM_0.Watch.Config.Vips.z .impl_Vip aM_0.Watch.Config.Vips.n aM_0.Watch.Config.Vips.f), (.rs aM_0.Tables.z .sl_i64 aM_0.Tables.n aM_0.Tables.f), (.rs aM_0.Cache.z .laws_Held aM_0.Cache.n aM_0.Cache.f)]), (.agg [(.int .i64 aF_1.From), (.int .i64 aF_1.To), (.int .i64 aF_1.Proto), (.int .i64 aF_1.FromP), (.int .i64 aF_1.ToP)])] = F_laws_FnExactHeldFor fu aM_0 aF_1 := by kernel_rfl
noncomputable def body_laws_FnExactHeldFor : Code := Tryz.f4.body.getD .skip
theorem lpok_laws_FnExactHeldFor (fu : Nat) : LpOk E (pc_laws_FnExactHeldFor fu) msk_laws_FnExactHeldFor (lp_laws_FnExactHeldFor fu) (loops 0 body_laws_FnExactHeldFor) := by
  have h : loops 0 body_laws_FnExactHeldFor = [] := by kernel_rfl
  rw [h]; intro p hp; cases hp
def S_laws_FnExactHeldFor (fu : Nat) (xs : List (D RT den)) : Option (Out RT den) := match xs with | [.agg [.int .i64 a0_1, .int .i64 a0_2, .bool a0_4, .int .i64 a0_6, .rs za0_7 .impl_Backend na0_7 fa0_7, .rs za0_8 .impl_Vip na0_8 fa0_8, .rs za0_9 .sl_i64 na0_9 fa0_9, .rs za0_10 .laws_Held na0_10 fa0_10], .agg [.int .i64 a1_1, .int .i64 a1_2, .int .i64 a1_3, .int .i64 a1_4, .int .i64 a1_5]] => some ⟨Bool, F_laws_FnExactHeldFor fu (⟨a0_1, a0_2, (⟨a0_4, (⟨a0_6, (⟨za0_7, na0_7, fa0_7⟩ : (Sl S_impl_Backend)), (⟨za0_8, na0_8, fa0_8⟩ : (Sl S_impl_Vip))⟩ : S_laws_Config)⟩ : S_laws_Watch), (⟨za0_9, na0_9, fa0_9⟩ : (Sl (Sl Int))), (⟨za0_10, na0_10, fa0_10⟩ : (Sl S_laws_Held))⟩ : S_laws_Mux) (⟨a1_1, a1_2, a1_3, a1_4, a1_5⟩ : S_impl_Flow), enc_bo, fun _ => true⟩ | _ => none
theorem hpc_laws_FnExactHeldFor (fu : Nat) : ∀ f xs o, pcf_laws_FnExactHeldFor fu f xs = some o → ∀ y, o.x = some y → Good E Tryz.prog f xs (o.g y) := by
  intro f xs o h
  unfold pcf_laws_FnExactHeldFor at h
  split at h
  · exact good_laws_szMux fu xs o h
  · exact good_laws_toMux fu xs o h
  · exact good_laws_eqMux fu xs o h
  · exact good_spec_HeldFor fu xs o h
  · exact good_laws_toFlow fu xs o h
  · exact good_impl_HeldFor fu xs o h
  · exact good_laws_eqIntResult fu xs o h
  · cases h
theorem hpx_laws_FnExactHeldFor (fu : Nat) : ∀ f xs ins o, pcx_laws_FnExactHeldFor fu f xs ins = some o → ∀ y, o.x = some y → GoodX E Tryz.prog f xs ins (o.g y).1 (o.g y).2 := by
  intro f xs ins o h
  cases h
theorem goodv_laws_FnExactHeldFor (fu : Nat) (aM_0 : S_laws_Mux) (aF_1 : S_impl_Flow) (y : Bool) (hy : F_laws_FnExactHeldFor fu aM_0 aF_1 = some y) : Good E Tryz.prog 4 [(.agg [(.int .i64 aM_0.Address), (.int .i64 aM_0.Now), (.bool aM_0.Watch.Ready), (.int .i64 aM_0.Watch.Config.Version), (.rs aM_0.Watch.Config.Backends.z .impl_Backend aM_0.Watch.Config.Backends.n aM_0.Watch.Config.Backends.f), (.rs aM_0.Watch.Config.Vips.z .impl_Vip aM_0.Watch.Config.Vips.n aM_0.Watch.Config.Vips.f), (.rs aM_0.Tables.z .sl_i64 aM_0.Tables.n aM_0.Tables.f), (.rs aM_0.Cache.z .laws_Held aM_0.Cache.n aM_0.Cache.f)]), (.agg [(.int .i64 aF_1.From), (.int .i64 aF_1.To), (.int .i64 aF_1.Proto), (.int .i64 aF_1.FromP), (.int .i64 aF_1.ToP)])] (enc_bo y) :=
  fun_good E_ok (pc_good (pc := pc_laws_FnExactHeldFor fu) (hpc_laws_FnExactHeldFor fu) (hpx_laws_FnExactHeldFor fu)) (fn := Tryz.f4) (c := body_laws_FnExactHeldFor) (out := out_bo) (y := y) (by kernel_rfl) (by kernel_rfl) (by kernel_rfl) (lpok_laws_FnExactHeldFor fu) (fun d hd => out_bo_enc d _ hd) ((ev_laws_FnExactHeldFor fu aM_0 aF_1).trans hy)
theorem good_laws_FnExactHeldFor (fu : Nat) : ∀ xs o, S_laws_FnExactHeldFor fu xs = some o → ∀ y, o.x = some y → Good E Tryz.prog 4 xs (o.g y) := by
  intro xs o h y hy
  unfold S_laws_FnExactHeldFor at h
  split at h
  · rename_i a0_1 a0_2 a0_4 a0_6 za0_7 na0_7 fa0_7 za0_8 na0_8 fa0_8 za0_9 na0_9 fa0_9 za0_10 na0_10 fa0_10 a1_1 a1_2 a1_3 a1_4 a1_5
    cases h
    exact goodv_laws_FnExactHeldFor fu (⟨a0_1, a0_2, (⟨a0_4, (⟨a0_6, (⟨za0_7, na0_7, fa0_7⟩ : (Sl S_impl_Backend)), (⟨za0_8, na0_8, fa0_8⟩ : (Sl S_impl_Vip))⟩ : S_laws_Config)⟩ : S_laws_Watch), (⟨za0_9, na0_9, fa0_9⟩ : (Sl (Sl Int))), (⟨za0_10, na0_10, fa0_10⟩ : (Sl S_laws_Held))⟩ : S_laws_Mux) (⟨a1_1, a1_2, a1_3, a1_4, a1_5⟩ : S_impl_Flow) y hy
  · cases h
end Go.Proofs.YtmgndndkkeinfaaGreat.Pc
