/- The functions' evaluated forms, each a proved summary. Conditions: none. -/
import Derived.Test.YtmgndndkkeinfaaGreatPcF6
namespace Go.Proofs.YtmgndndkkeinfaaGreat.Pc
open Go Go.RowKit Go.Proofs Vm
set_option linter.unusedVariables false
set_option linter.unusedSimpArgs false
set_option maxRecDepth 100000
/-! impl.MuxFault -/
def F_impl_MuxFault_B1 {ρ : Type} (fu : Nat) (m1_0 : Int) (m1_1 : Int) (m1_2 : Bool) (m1_3 : Int) (m1_4 : (Sl S_impl_Backend)) (m1_5 : (Sl S_impl_Vip)) (m1_6 : (Sl (Sl Int))) (m1_7 : (Sl S_impl_Held)) (c4_8 : Int) (c4_9 : (Sl S_impl_Backend)) (c4_10 : (Sl S_impl_Vip)) (c4_11 : (Sl (Sl Int))) (c4_12 : (Sl S_impl_Held)) (t38_13 : (Sl S_impl_Held)) (t39_14 : Int) (k0 : Int → Int → Int → Int → Int → Int → Int → Option ρ) (k1 : Int → Int → Int → Int → Int → Int → Int → Option ρ) (k2 : Int → Int → Int → Int → Int → Int → Int → Option ρ) (k3 : Int → Int → Int → Int → Int → Int → Int → Option ρ) (k4 : Option ρ) (t40_15 : Int) (go : Int → Option ρ) : Option ρ :=
  (bif (decide (t40_15 < t39_14)) then ((bif (decide (0 ≤ t40_15) && decide ((Int.toNat t40_15) < t38_13.n)) then some () else none : Option Unit).bind fun _ => ((((F_impl_isFlow fu (t38_13.f (Int.toNat t40_15)).Flow).bind fun y194 =>
    (bif (!y194) then (some true) else ((F_impl_in fu (t38_13.f (Int.toNat t40_15)).Seen 0 m1_1).bind fun y195 => (some (!y195))))) : Option Bool).bind fun m196 => (bif m196 then
    (k0 (t38_13.f (Int.toNat t40_15)).Flow.From (t38_13.f (Int.toNat t40_15)).Flow.To (t38_13.f (Int.toNat t40_15)).Flow.Proto (t38_13.f (Int.toNat t40_15)).Flow.FromP (t38_13.f (Int.toNat t40_15)).Flow.ToP (t38_13.f (Int.toNat t40_15)).Name (t38_13.f (Int.toNat t40_15)).Seen) else
    ((F_impl_Config_serves fu (⟨c4_8, c4_9, c4_10⟩ : S_impl_Config) (t38_13.f (Int.toNat t40_15)).Flow (t38_13.f (Int.toNat t40_15)).Name).bind fun y197 => (bif (!y197) then (k1 (t38_13.f (Int.toNat t40_15)).Flow.From (t38_13.f (Int.toNat t40_15)).Flow.To (t38_13.f (Int.toNat t40_15)).Flow.Proto (t38_13.f (Int.toNat t40_15)).Flow.FromP (t38_13.f (Int.toNat t40_15)).Flow.ToP (t38_13.f (Int.toNat t40_15)).Name (t38_13.f (Int.toNat t40_15)).Seen) else
    (bif (decide ((IntKind.wrap .i64 (m1_1 - (t38_13.f (Int.toNat t40_15)).Seen)) > 20)) then (k2 (t38_13.f (Int.toNat t40_15)).Flow.From (t38_13.f (Int.toNat t40_15)).Flow.To (t38_13.f (Int.toNat t40_15)).Flow.Proto (t38_13.f (Int.toNat t40_15)).Flow.FromP (t38_13.f (Int.toNat t40_15)).Flow.ToP (t38_13.f (Int.toNat t40_15)).Name (t38_13.f (Int.toNat t40_15)).Seen) else
    ((bif (decide ((0 : Int) ≤ t40_15) && decide ((Int.toNat t40_15) ≤ m1_7.n)) then some () else none : Option Unit).bind fun _ =>
    ((F_slices_ContainsFunc_impl_Held_impl_Held_w_impl_MuxFault_c1 fu (⟨m1_7.z, ((Int.toNat t40_15) - 0), (fun i => m1_7.f (0 + i))⟩ : (Sl S_impl_Held)) ((t38_13.f (Int.toNat t40_15)).Flow.From) ((t38_13.f (Int.toNat t40_15)).Flow.To) ((t38_13.f (Int.toNat t40_15)).Flow.Proto) ((t38_13.f (Int.toNat t40_15)).Flow.FromP) ((t38_13.f (Int.toNat t40_15)).Flow.ToP) ((t38_13.f (Int.toNat t40_15)).Name) ((t38_13.f (Int.toNat t40_15)).Seen)).bind fun y198 =>
    (bif y198 then (k3 (t38_13.f (Int.toNat t40_15)).Flow.From (t38_13.f (Int.toNat t40_15)).Flow.To (t38_13.f (Int.toNat t40_15)).Flow.Proto (t38_13.f (Int.toNat t40_15)).Flow.FromP (t38_13.f (Int.toNat t40_15)).Flow.ToP (t38_13.f (Int.toNat t40_15)).Name (t38_13.f (Int.toNat t40_15)).Seen) else
    (go (IntKind.wrap .i64 (t40_15 + 1)))))))))))) else k4)
def F_impl_MuxFault (fu : Nat) (m_0 : S_impl_Mux) : Option (Int) :=
  ((((F_impl_isAddress fu m_0.Address).bind fun y188 => (bif (!y188) then (some true) else ((F_impl_in fu m_0.Now 0 1000000000).bind fun y189 => (some (!y189))))) : Option Bool).bind fun m190 =>
    (bif m190 then (some 3) else ((F_impl_WatchFault fu m_0.Watch).bind fun y191 => (bif (y191 != 0) then (some y191) else ((F_impl_Config_tables fu m_0.Watch.Config).bind fun y192 =>
    ((F_slices_EqualFunc_int64_int64_int64_int64_w_slices_Equal_int64_int64 fu m_0.Tables y192).bind fun y193 => (bif (!y193) then (some 1) else (bif (decide (((m_0.Cache.n : Nat) : Int) > 8)) then
    (some 2) else (L (fun w1 go1 => F_impl_MuxFault_B1 fu m_0.Address m_0.Now m_0.Watch.Ready m_0.Watch.Config.Version m_0.Watch.Config.Backends m_0.Watch.Config.Vips m_0.Tables m_0.Cache m_0.Watch.Config.Version m_0.Watch.Config.Backends m_0.Watch.Config.Vips m_0.Tables m_0.Cache m_0.Cache ((m_0.Cache.n : Nat) : Int) (fun z199 z200 z201 z202 z203 z204 z205 =>
    (some 3)) (fun z206 z207 z208 z209 z210 z211 z212 => (some 4)) (fun z213 z214 z215 z216 z217 z218 z219 => (some 9)) (fun z220 z221 z222 z223 z224 z225 z226 => (some 7)) (some 0) w1 go1) fu (0 : Int))))))))))
def pcf_impl_MuxFault (fu : Nat) (f : Nat) (xs : List (D RT den)) : Option (Out RT den) := match f with | 21 => S_impl_isAddress fu xs | 22 => S_impl_in fu xs | 23 => S_impl_WatchFault fu xs | 24 => S_slices_EqualFunc_int64_int64_int64_int64_w_slices_Equal_int64_int64 fu xs | 25 => S_impl_Config_tables fu xs | 27 => S_impl_isFlow fu xs | 28 => S_impl_Config_serves fu xs | 29 => S_slices_ContainsFunc_impl_Held_impl_Held_w_impl_MuxFault_c1 fu xs | _ => none
def pcx_impl_MuxFault (fu : Nat) (f : Nat) (xs : List (D RT den)) (ins : List (Ob RT den)) : Option (OutX RT den) := none
def pc_impl_MuxFault (fu : Nat) : Pc RT den := ⟨pcf_impl_MuxFault fu, fun _ => false, fun _ => false, pcx_impl_MuxFault fu⟩
def msk_impl_MuxFault (b : Nat) : List Nat := match b with | 1 => [0, 2, 3, 5, 6, 7, 8, 9, 10, 11, 12, 13, 14, 15, 16, 17, 18, 19, 20, 21, 22, 23, 24, 25, 26, 27, 28, 29, 30, 31, 32, 33, 34, 35, 36, 37, 41, 42, 43, 44, 45, 46, 47, 48, 49, 50, 51, 52, 53, 54, 55, 56, 57, 58, 59, 60, 61, 62, 63, 64, 65, 66, 67, 68, 69, 70, 71, 72, 73, 74, 75, 76, 77, 78, 79, 80] | 100001 => [0, 1, 3, 4, 5, 6, 7, 8, 9, 10, 11, 12, 13, 14, 15, 16, 17, 18, 19, 20, 21, 22, 23, 24, 25, 26, 27, 28, 29, 30, 31, 32, 33, 34, 35, 36, 37, 38, 39, 40, 41, 42, 43, 44, 45, 46, 47, 48, 49, 50, 51, 52, 53, 54, 55, 56, 57, 58, 59, 60, 61, 62, 63, 64, 65, 66, 67, 68, 69, 70, 71, 72, 73, 74, 75, 76, 77, 78, 79, 80] | 200001 => [16] | 200014 => [45] | 500007 => [0] | _ => []
def ps_impl_MuxFault_1 : List (Pat RT) := [.flat .dead, .rptr [(.int .i64), (.int .i64), .bool, (.int .i64), (.rs .impl_Backend), (.rs .impl_Vip), (.rs .sl_i64), (.rs .impl_Held)], .flat .dead, .flat .dead, .rptr [(.int .i64), (.rs .impl_Backend), (.rs .impl_Vip), (.rs .sl_i64), (.rs .impl_Held)], .flat .dead, .flat .dead, .flat .dead, .flat .dead, .flat .dead, .flat .dead, .flat .dead, .flat .dead, .flat .dead, .flat .dead, .flat .dead, .flat .dead, .flat .dead, .flat .dead, .flat .dead, .flat .dead, .flat .dead, .flat .dead, .flat .dead, .flat .dead, .flat .dead, .flat .dead, .flat .dead, .flat .dead, .flat .dead, .flat .dead, .flat .dead, .flat .dead, .flat .dead, .flat .dead, .flat .dead, .flat .dead, .flat .dead, .flat (.rs .impl_Held), .flat (.int .i64), .flat (.int .i64), .flat .dead, .flat .dead, .flat .dead, .flat .dead, .flat .dead, .flat .dead, .flat .dead, .flat .dead, .flat .dead, .flat .dead, .flat .dead, .flat .dead, .flat .dead, .flat .dead, .flat .dead, .flat .dead, .flat .dead, .flat .dead, .flat .dead, .flat .dead, .flat .dead, .flat .dead, .flat .dead, .flat .dead, .flat .dead, .flat .dead, .flat .dead, .flat .dead, .flat .dead, .flat .dead, .flat .dead, .flat .dead, .flat .dead, .flat .dead, .flat .dead, .flat .dead, .flat .dead, .flat .dead, .flat .dead, .flat .dead]
def os_impl_MuxFault_1 : List (OP RT) := [.gone]
def conv_impl_MuxFault_1 (r : Raw den ps_impl_MuxFault_1 os_impl_MuxFault_1) : (Int × Int × Bool × Int × (Sl S_impl_Backend) × (Sl S_impl_Vip) × (Sl (Sl Int)) × (Sl S_impl_Held) × Int × (Sl S_impl_Backend) × (Sl S_impl_Vip) × (Sl (Sl Int)) × (Sl S_impl_Held) × (Sl S_impl_Held) × Int) × (Int) := ((r.1.2.1.1, r.1.2.1.2.1, r.1.2.1.2.2.1, r.1.2.1.2.2.2.1, r.1.2.1.2.2.2.2.1, r.1.2.1.2.2.2.2.2.1, r.1.2.1.2.2.2.2.2.2.1, r.1.2.1.2.2.2.2.2.2.2.1, r.1.2.2.2.2.1.1, r.1.2.2.2.2.1.2.1, r.1.2.2.2.2.1.2.2.1, r.1.2.2.2.2.1.2.2.2.1, r.1.2.2.2.2.1.2.2.2.2.1, r.1.2.2.2.2.2.2.2.2.2.2.2.2.2.2.2.2.2.2.2.2.2.2.2.2.2.2.2.2.2.2.2.2.2.2.2.2.2.2.1, r.1.2.2.2.2.2.2.2.2.2.2.2.2.2.2.2.2.2.2.2.2.2.2.2.2.2.2.2.2.2.2.2.2.2.2.2.2.2.2.2.1), r.1.2.2.2.2.2.2.2.2.2.2.2.2.2.2.2.2.2.2.2.2.2.2.2.2.2.2.2.2.2.2.2.2.2.2.2.2.2.2.2.2.1)
def back_impl_MuxFault_1 (c : Int × Int × Bool × Int × (Sl S_impl_Backend) × (Sl S_impl_Vip) × (Sl (Sl Int)) × (Sl S_impl_Held) × Int × (Sl S_impl_Backend) × (Sl S_impl_Vip) × (Sl (Sl Int)) × (Sl S_impl_Held) × (Sl S_impl_Held) × Int) (w : Int) : St RT den := ⟨[.dead, (.rptr [(.int .i64 c.1), (.int .i64 c.2.1), (.bool c.2.2.1), (.int .i64 c.2.2.2.1), (.rs c.2.2.2.2.1.z .impl_Backend c.2.2.2.2.1.n c.2.2.2.2.1.f), (.rs c.2.2.2.2.2.1.z .impl_Vip c.2.2.2.2.2.1.n c.2.2.2.2.2.1.f), (.rs c.2.2.2.2.2.2.1.z .sl_i64 c.2.2.2.2.2.2.1.n c.2.2.2.2.2.2.1.f), (.rs c.2.2.2.2.2.2.2.1.z .impl_Held c.2.2.2.2.2.2.2.1.n c.2.2.2.2.2.2.2.1.f)]), .dead, .dead, (.rptr [(.int .i64 c.2.2.2.2.2.2.2.2.1), (.rs c.2.2.2.2.2.2.2.2.2.1.z .impl_Backend c.2.2.2.2.2.2.2.2.2.1.n c.2.2.2.2.2.2.2.2.2.1.f), (.rs c.2.2.2.2.2.2.2.2.2.2.1.z .impl_Vip c.2.2.2.2.2.2.2.2.2.2.1.n c.2.2.2.2.2.2.2.2.2.2.1.f), (.rs c.2.2.2.2.2.2.2.2.2.2.2.1.z .sl_i64 c.2.2.2.2.2.2.2.2.2.2.2.1.n c.2.2.2.2.2.2.2.2.2.2.2.1.f), (.rs c.2.2.2.2.2.2.2.2.2.2.2.2.1.z .impl_Held c.2.2.2.2.2.2.2.2.2.2.2.2.1.n c.2.2.2.2.2.2.2.2.2.2.2.2.1.f)]), .dead, .dead, .dead, .dead, .dead, .dead, .dead, .dead, .dead, .dead, .dead, .dead, .dead, .dead, .dead, .dead, .dead, .dead, .dead, .dead, .dead, .dead, .dead, .dead, .dead, .dead, .dead, .dead, .dead, .dead, .dead, .dead, .dead, (.rs c.2.2.2.2.2.2.2.2.2.2.2.2.2.1.z .impl_Held c.2.2.2.2.2.2.2.2.2.2.2.2.2.1.n c.2.2.2.2.2.2.2.2.2.2.2.2.2.1.f), (.int .i64 c.2.2.2.2.2.2.2.2.2.2.2.2.2.2), (.int .i64 w), .dead, .dead, .dead, .dead, .dead, .dead, .dead, .dead, .dead, .dead, .dead, .dead, .dead, .dead, .dead, .dead, .dead, .dead, .dead, .dead, .dead, .dead, .dead, .dead, .dead, .dead, .dead, .dead, .dead, .dead, .dead, .dead, .dead, .dead, .dead, .dead, .dead, .dead, .dead, .dead], [.gone]⟩
def Bk_impl_MuxFault_1 {ρ : Type} (fu : Nat) (c : Int × Int × Bool × Int × (Sl S_impl_Backend) × (Sl S_impl_Vip) × (Sl (Sl Int)) × (Sl S_impl_Held) × Int × (Sl S_impl_Backend) × (Sl S_impl_Vip) × (Sl (Sl Int)) × (Sl S_impl_Held) × (Sl S_impl_Held) × Int) (k : Ex → St RT den → Option ρ) (w : Int) (go : (Int) → Option ρ) : Option ρ := F_impl_MuxFault_B1 fu c.1 c.2.1 c.2.2.1 c.2.2.2.1 c.2.2.2.2.1 c.2.2.2.2.2.1 c.2.2.2.2.2.2.1 c.2.2.2.2.2.2.2.1 c.2.2.2.2.2.2.2.2.1 c.2.2.2.2.2.2.2.2.2.1 c.2.2.2.2.2.2.2.2.2.2.1 c.2.2.2.2.2.2.2.2.2.2.2.1 c.2.2.2.2.2.2.2.2.2.2.2.2.1 c.2.2.2.2.2.2.2.2.2.2.2.2.2.1 c.2.2.2.2.2.2.2.2.2.2.2.2.2.2 (fun a0 a1 a2 a3 a4 a5 a6 => k .ret ⟨[.dead, .dead, (.int .i64 3), .dead, .dead, .dead, .dead, .dead, .dead, .dead, .dead, .dead, .dead, .dead, .dead, .dead, .dead, .dead, .dead, .dead, .dead, .dead, .dead, .dead, .dead, .dead, .dead, .dead, .dead, .dead, .dead, .dead, .dead, .dead, .dead, .dead, .dead, .dead, .dead, .dead, .dead, .dead, .dead, .dead, .dead, .dead, .dead, .dead, .dead, .dead, .dead, .dead, .dead, .dead, .dead, .dead, .dead, .dead, .dead, .dead, .dead, .dead, .dead, .dead, .dead, .dead, .dead, .dead, .dead, .dead, .dead, .dead, .dead, .dead, .dead, .dead, .dead, .dead, .dead, .dead, .dead], [.gone, (.box [(.int .i64 a0), (.int .i64 a1), (.int .i64 a2), (.int .i64 a3), (.int .i64 a4), (.int .i64 a5), (.int .i64 a6)])]⟩) (fun a0 a1 a2 a3 a4 a5 a6 => k .ret ⟨[.dead, .dead, (.int .i64 4), .dead, .dead, .dead, .dead, .dead, .dead, .dead, .dead, .dead, .dead, .dead, .dead, .dead, .dead, .dead, .dead, .dead, .dead, .dead, .dead, .dead, .dead, .dead, .dead, .dead, .dead, .dead, .dead, .dead, .dead, .dead, .dead, .dead, .dead, .dead, .dead, .dead, .dead, .dead, .dead, .dead, .dead, .dead, .dead, .dead, .dead, .dead, .dead, .dead, .dead, .dead, .dead, .dead, .dead, .dead, .dead, .dead, .dead, .dead, .dead, .dead, .dead, .dead, .dead, .dead, .dead, .dead, .dead, .dead, .dead, .dead, .dead, .dead, .dead, .dead, .dead, .dead, .dead], [.gone, (.box [(.int .i64 a0), (.int .i64 a1), (.int .i64 a2), (.int .i64 a3), (.int .i64 a4), (.int .i64 a5), (.int .i64 a6)])]⟩) (fun a0 a1 a2 a3 a4 a5 a6 => k .ret ⟨[.dead, .dead, (.int .i64 9), .dead, .dead, .dead, .dead, .dead, .dead, .dead, .dead, .dead, .dead, .dead, .dead, .dead, .dead, .dead, .dead, .dead, .dead, .dead, .dead, .dead, .dead, .dead, .dead, .dead, .dead, .dead, .dead, .dead, .dead, .dead, .dead, .dead, .dead, .dead, .dead, .dead, .dead, .dead, .dead, .dead, .dead, .dead, .dead, .dead, .dead, .dead, .dead, .dead, .dead, .dead, .dead, .dead, .dead, .dead, .dead, .dead, .dead, .dead, .dead, .dead, .dead, .dead, .dead, .dead, .dead, .dead, .dead, .dead, .dead, .dead, .dead, .dead, .dead, .dead, .dead, .dead, .dead], [.gone, (.box [(.int .i64 a0), (.int .i64 a1), (.int .i64 a2), (.int .i64 a3), (.int .i64 a4), (.int .i64 a5), (.int .i64 a6)])]⟩) (fun a0 a1 a2 a3 a4 a5 a6 => k .ret ⟨[.dead, .dead, (.int .i64 7), .dead, .dead, .dead, .dead, .dead, .dead, .dead, .dead, .dead, .dead, .dead, .dead, .dead, .dead, .dead, .dead, .dead, .dead, .dead, .dead, .dead, .dead, .dead, .dead, .dead, .dead, .dead, .dead, .dead, .dead, .dead, .dead, .dead, .dead, .dead, .dead, .dead, .dead, .dead, .dead, .dead, .dead, .dead, .dead, .dead, .dead, .dead, .dead, .dead, .dead, .dead, .dead, .dead, .dead, .dead, .dead, .dead, .dead, .dead, .dead, .dead, .dead, .dead, .dead, .dead, .dead, .dead, .dead, .dead, .dead, .dead, .dead, .dead, .dead, .dead, .dead, .dead, .dead], [.gone, (.box [(.int .i64 a0), (.int .i64 a1), (.int .i64 a2), (.int .i64 a3), (.int .i64 a4), (.int .i64 a5), (.int .i64 a6)])]⟩) (k (.exit 1) ⟨[.dead, .dead, .dead, .dead, .dead, .dead, .dead, .dead, .dead, .dead, .dead, .dead, .dead, .dead, .dead, .dead, .dead, .dead, .dead, .dead, .dead, .dead, .dead, .dead, .dead, .dead, .dead, .dead, .dead, .dead, .dead, .dead, .dead, .dead, .dead, .dead, .dead, .dead, .dead, .dead, .dead, .dead, .dead, .dead, .dead, .dead, .dead, .dead, .dead, .dead, .dead, .dead, .dead, .dead, .dead, .dead, .dead, .dead, .dead, .dead, .dead, .dead, .dead, .dead, .dead, .dead, .dead, .dead, .dead, .dead, .dead, .dead, .dead, .dead, .dead, .dead, .dead, .dead, .dead, .dead, .dead], [.gone]⟩) w go
def lp_impl_MuxFault (fu : Nat) : Lp RT den (Int) := fun b s k => match b with | 1 => handle ps_impl_MuxFault_1 os_impl_MuxFault_1 conv_impl_MuxFault_1 (Bk_impl_MuxFault_1 fu) fu s k | _ => none
theorem ev_impl_MuxFault (fu : Nat) (m_0 : S_impl_Mux) : evFun E (pc_impl_MuxFault fu) msk_impl_MuxFault (lp_impl_MuxFault fu) out_i64 8 [(.agg [(.int .i64 m_0.Address), (.int .i64 m_0.Now), (.bool m_0.Watch.Ready), (.int .i64 m_0.Watch.Config.Version), (.rs m_0.Watch.Config.Backends.z .impl_Backend m_0.Watch.Config.Backends.n m_0.Watch.Config.Backends.f), (.rs m_0.Watch.Config.Vips.z .impl_Vip m_0.Watch.Config.Vips.n m_0.Watch.Config.Vips.f), (.rs m_0.Tables.z .sl_i64 m_0.Tables.n m_0.Tables.f), (.rs m_0.Cache.z .impl_Held m_0.Cache.n m_0.Cache.f)])] = F_impl_MuxFault fu m_0 := by kernel_rfl
noncomputable def body_impl_MuxFault : Code := Tryz.f8.body.getD .skip
noncomputable def lc_impl_MuxFault_1 : Code := ((loops 0 body_impl_MuxFault).getD 0 (0, .skip)).2
theorem round_impl_MuxFault_1 (fu : Nat) (it : St RT den → Option (Int)) (k : Ex → St RT den → Option (Int)) c w : evCode E (pc_impl_MuxFault fu) msk_impl_MuxFault (lp_impl_MuxFault fu) 1 lc_impl_MuxFault_1 (back_impl_MuxFault_1 c w) (after (msk_impl_MuxFault 1) (msk_impl_MuxFault 100001) 1 it k) = Bk_impl_MuxFault_1 fu c k w (fun w => it (back_impl_MuxFault_1 c w)) := by kernel_rfl
theorem lpok_impl_MuxFault_1 (fu : Nat) : ∀ s k r, lp_impl_MuxFault fu 1 s k = some r → ∃ fuel, iter (msk_impl_MuxFault 1) (msk_impl_MuxFault 100001) s.objs.length (evCode E (pc_impl_MuxFault fu) msk_impl_MuxFault (lp_impl_MuxFault fu) 1 lc_impl_MuxFault_1) fuel s k = some r :=
  handle_ok (ps := ps_impl_MuxFault_1) (os := os_impl_MuxFault_1) (conv := conv_impl_MuxFault_1) (B := Bk_impl_MuxFault_1 fu) (fu := fu) back_impl_MuxFault_1 (fun raw => by kernel_rfl) 1 (fun c w => by kernel_rfl) (round_impl_MuxFault_1 fu)
theorem lpok_impl_MuxFault (fu : Nat) : LpOk E (pc_impl_MuxFault fu) msk_impl_MuxFault (lp_impl_MuxFault fu) (loops 0 body_impl_MuxFault) := loop_all 1 (by kernel_rfl) fun i hi => match i, hi with
  | 0, _ => by
    have h : (loops 0 body_impl_MuxFault).getD 0 (0, .skip) = (1, lc_impl_MuxFault_1) := by kernel_rfl
    rw [h]; exact lpok_impl_MuxFault_1 fu
  | i + 1, hi => absurd hi (by omega)
def S_impl_MuxFault (fu : Nat) (xs : List (D RT den)) : Option (Out RT den) := match xs with | [.agg [.int .i64 a0_1, .int .i64 a0_2, .bool a0_4, .int .i64 a0_6, .rs za0_7 .impl_Backend na0_7 fa0_7, .rs za0_8 .impl_Vip na0_8 fa0_8, .rs za0_9 .sl_i64 na0_9 fa0_9, .rs za0_10 .impl_Held na0_10 fa0_10]] => some ⟨Int, F_impl_MuxFault fu (⟨a0_1, a0_2, (⟨a0_4, (⟨a0_6, (⟨za0_7, na0_7, fa0_7⟩ : (Sl S_impl_Backend)), (⟨za0_8, na0_8, fa0_8⟩ : (Sl S_impl_Vip))⟩ : S_impl_Config)⟩ : S_impl_Watch), (⟨za0_9, na0_9, fa0_9⟩ : (Sl (Sl Int))), (⟨za0_10, na0_10, fa0_10⟩ : (Sl S_impl_Held))⟩ : S_impl_Mux), enc_i64, fun _ => true⟩ | _ => none
theorem hpc_impl_MuxFault (fu : Nat) : ∀ f xs o, pcf_impl_MuxFault fu f xs = some o → ∀ y, o.x = some y → Good E Tryz.prog f xs (o.g y) := by
  intro f xs o h
  unfold pcf_impl_MuxFault at h
  split at h
  · exact good_impl_isAddress fu xs o h
  · exact good_impl_in fu xs o h
  · exact good_impl_WatchFault fu xs o h
  · exact good_slices_EqualFunc_int64_int64_int64_int64_w_slices_Equal_int64_int64 fu xs o h
  · exact good_impl_Config_tables fu xs o h
  · exact good_impl_isFlow fu xs o h
  · exact good_impl_Config_serves fu xs o h
  · exact good_slices_ContainsFunc_impl_Held_impl_Held_w_impl_MuxFault_c1 fu xs o h
  · cases h
theorem hpx_impl_MuxFault (fu : Nat) : ∀ f xs ins o, pcx_impl_MuxFault fu f xs ins = some o → ∀ y, o.x = some y → GoodX E Tryz.prog f xs ins (o.g y).1 (o.g y).2 := by
  intro f xs ins o h
  cases h
theorem goodv_impl_MuxFault (fu : Nat) (m_0 : S_impl_Mux) (y : Int) (hy : F_impl_MuxFault fu m_0 = some y) : Good E Tryz.prog 8 [(.agg [(.int .i64 m_0.Address), (.int .i64 m_0.Now), (.bool m_0.Watch.Ready), (.int .i64 m_0.Watch.Config.Version), (.rs m_0.Watch.Config.Backends.z .impl_Backend m_0.Watch.Config.Backends.n m_0.Watch.Config.Backends.f), (.rs m_0.Watch.Config.Vips.z .impl_Vip m_0.Watch.Config.Vips.n m_0.Watch.Config.Vips.f), (.rs m_0.Tables.z .sl_i64 m_0.Tables.n m_0.Tables.f), (.rs m_0.Cache.z .impl_Held m_0.Cache.n m_0.Cache.f)])] (enc_i64 y) :=
  fun_good E_ok (pc_good (pc := pc_impl_MuxFault fu) (hpc_impl_MuxFault fu) (hpx_impl_MuxFault fu)) (fn := Tryz.f8) (c := body_impl_MuxFault) (out := out_i64) (y := y) (by kernel_rfl) (by kernel_rfl) (by kernel_rfl) (lpok_impl_MuxFault fu) (fun d hd => out_i64_enc d _ hd) ((ev_impl_MuxFault fu m_0).trans hy)
theorem good_impl_MuxFault (fu : Nat) : ∀ xs o, S_impl_MuxFault fu xs = some o → ∀ y, o.x = some y → Good E Tryz.prog 8 xs (o.g y) := by
  intro xs o h y hy
  unfold S_impl_MuxFault at h
  split at h
  · rename_i a0_1 a0_2 a0_4 a0_6 za0_7 na0_7 fa0_7 za0_8 na0_8 fa0_8 za0_9 na0_9 fa0_9 za0_10 na0_10 fa0_10
    cases h
    exact goodv_impl_MuxFault fu (⟨a0_1, a0_2, (⟨a0_4, (⟨a0_6, (⟨za0_7, na0_7, fa0_7⟩ : (Sl S_impl_Backend)), (⟨za0_8, na0_8, fa0_8⟩ : (Sl S_impl_Vip))⟩ : S_impl_Config)⟩ : S_impl_Watch), (⟨za0_9, na0_9, fa0_9⟩ : (Sl (Sl Int))), (⟨za0_10, na0_10, fa0_10⟩ : (Sl S_impl_Held))⟩ : S_impl_Mux) y hy
  · cases h

/-! laws.eqBackend -/
def F_laws_eqBackend (fu : Nat) (a_0 : S_impl_Backend) (b_1 : S_impl_Backend) : Option (Bool) :=
  (bif (a_0.Name != b_1.Name) then (some false) else (bif (a_0.Address != b_1.Address) then (some false) else (bif (a_0.Weight != b_1.Weight) then (some false) else (bif (a_0.Stage != b_1.Stage) then
    (some false) else (bif (!(a_0.Up == b_1.Up)) then (some false) else (some true))))))
def pcf_laws_eqBackend (fu : Nat) (f : Nat) (xs : List (D RT den)) : Option (Out RT den) := none
def pcx_laws_eqBackend (fu : Nat) (f : Nat) (xs : List (D RT den)) (ins : List (Ob RT den)) : Option (OutX RT den) := none
def pc_laws_eqBackend (fu : Nat) : Pc RT den := ⟨pcf_laws_eqBackend fu, fun _ => false, fun _ => false, pcx_laws_eqBackend fu⟩
def msk_laws_eqBackend (b : Nat) : List Nat := []
def lp_laws_eqBackend (fu : Nat) : Lp RT den (Bool) := fun b s k => none
theorem ev_laws_eqBackend (fu : Nat) (a_0 : S_impl_Backend) (b_1 : S_impl_Backend) : evFun E (pc_laws_eqBackend fu) msk_laws_eqBackend (lp_laws_eqBackend fu) out_bo 108 [(.agg [(.int .i64 a_0.Name), (.int .i64 a_0.Address), (.int .i64 a_0.Weight), (.int .i64 a_0.Stage), (.bool a_0.Up)]), (.agg [(.int .i64 b_1.Name), (.int .i64 b_1.Address), (.int .i64 b_1.Weight), (.int .i64 b_1.Stage), (.bool b_1.Up)])] = F_laws_eqBackend fu a_0 b_1 := by kernel_rfl
noncomputable def body_laws_eqBackend : Code := Tryz.f108.body.getD .skip
theorem lpok_laws_eqBackend (fu : Nat) : LpOk E (pc_laws_eqBackend fu) msk_laws_eqBackend (lp_laws_eqBackend fu) (loops 0 body_laws_eqBackend) := by
  have h : loops 0 body_laws_eqBackend = [] := by kernel_rfl
  rw [h]; intro p hp; cases hp
def S_laws_eqBackend (fu : Nat) (xs : List (D RT den)) : Option (Out RT den) := match xs with | [.agg [.int .i64 a0_1, .int .i64 a0_2, .int .i64 a0_3, .int .i64 a0_4, .bool a0_5], .agg [.int .i64 a1_1, .int .i64 a1_2, .int .i64 a1_3, .int .i64 a1_4, .bool a1_5]] => some ⟨Bool, F_laws_eqBackend fu (⟨a0_1, a0_2, a0_3, a0_4, a0_5⟩ : S_impl_Backend) (⟨a1_1, a1_2, a1_3, a1_4, a1_5⟩ : S_impl_Backend), enc_bo, fun _ => true⟩ | _ => none
theorem hpc_laws_eqBackend (fu : Nat) : ∀ f xs o, pcf_laws_eqBackend fu f xs = some o → ∀ y, o.x = some y → Good E Tryz.prog f xs (o.g y) := by
  intro f xs o h
  cases h
theorem hpx_laws_eqBackend (fu : Nat) : ∀ f xs ins o, pcx_laws_eqBackend fu f xs ins = some o → ∀ y, o.x = some y → GoodX E Tryz.prog f xs ins (o.g y).1 (o.g y).2 := by
  intro f xs ins o h
  cases h
theorem goodv_laws_eqBackend (fu : Nat) (a_0 : S_impl_Backend) (b_1 : S_impl_Backend) (y : Bool) (hy : F_laws_eqBackend fu a_0 b_1 = some y) : Good E Tryz.prog 108 [(.agg [(.int .i64 a_0.Name), (.int .i64 a_0.Address), (.int .i64 a_0.Weight), (.int .i64 a_0.Stage), (.bool a_0.Up)]), (.agg [(.int .i64 b_1.Name), (.int .i64 b_1.Address), (.int .i64 b_1.Weight), (.int .i64 b_1.Stage), (.bool b_1.Up)])] (enc_bo y) :=
  fun_good E_ok (pc_good (pc := pc_laws_eqBackend fu) (hpc_laws_eqBackend fu) (hpx_laws_eqBackend fu)) (fn := Tryz.f108) (c := body_laws_eqBackend) (out := out_bo) (y := y) (by kernel_rfl) (by kernel_rfl) (by kernel_rfl) (lpok_laws_eqBackend fu) (fun d hd => out_bo_enc d _ hd) ((ev_laws_eqBackend fu a_0 b_1).trans hy)
theorem good_laws_eqBackend (fu : Nat) : ∀ xs o, S_laws_eqBackend fu xs = some o → ∀ y, o.x = some y → Good E Tryz.prog 108 xs (o.g y) := by
  intro xs o h y hy
  unfold S_laws_eqBackend at h
  split at h
  · rename_i a0_1 a0_2 a0_3 a0_4 a0_5 a1_1 a1_2 a1_3 a1_4 a1_5
    cases h
    exact goodv_laws_eqBackend fu (⟨a0_1, a0_2, a0_3, a0_4, a0_5⟩ : S_impl_Backend) (⟨a1_1, a1_2, a1_3, a1_4, a1_5⟩ : S_impl_Backend) y hy
  · cases h

/-! laws.eqBackendS -/
def F_laws_eqBackendS_B0 {ρ : Type} (fu : Nat) (a0_0 : (Sl S_impl_Backend)) (b1_1 : (Sl S_impl_Backend)) (k0 : Option ρ) (k1 : Option ρ) (i5_2 : Int) (go : Int → Option ρ) : Option ρ :=
  (bif (decide (i5_2 < ((a0_0.n : Nat) : Int))) then ((bif (decide (0 ≤ i5_2) && decide ((Int.toNat i5_2) < a0_0.n)) then some () else none : Option Unit).bind fun _ => ((bif (decide (0 ≤ i5_2) &&
    decide ((Int.toNat i5_2) < b1_1.n)) then some () else none : Option Unit).bind fun _ => ((F_laws_eqBackend fu (a0_0.f (Int.toNat i5_2)) (b1_1.f (Int.toNat i5_2))).bind fun y363 =>
    (bif (!y363) then k0 else (go (IntKind.wrap .i64 (i5_2 + 1))))))) else k1)
def F_laws_eqBackendS (fu : Nat) (a_0 : (Sl S_impl_Backend)) (b_1 : (Sl S_impl_Backend)) : Option (Bool) :=
  (bif (((a_0.n : Nat) : Int) != ((b_1.n : Nat) : Int)) then (some false) else (L (fun w0 go0 => F_laws_eqBackendS_B0 fu a_0 b_1 (some false) (some true) w0 go0) fu (0 : Int)))
def pcf_laws_eqBackendS (fu : Nat) (f : Nat) (xs : List (D RT den)) : Option (Out RT den) := match f with | 108 => S_laws_eqBackend fu xs | _ => none
def pcx_laws_eqBackendS (fu : Nat) (f : Nat) (xs : List (D RT den)) (ins : List (Ob RT den)) : Option (OutX RT den) := none
def pc_laws_eqBackendS (fu : Nat) : Pc RT den := ⟨pcf_laws_eqBackendS fu, fun _ => false, fun _ => false, pcx_laws_eqBackendS fu⟩
def msk_laws_eqBackendS (b : Nat) : List Nat := match b with | 0 => [2, 3, 4, 6, 7, 8, 9, 10, 11, 12, 13, 14, 15, 16, 17, 18, 19, 20, 21, 22, 23, 24, 25, 26] | 100000 => [0, 1, 2, 3, 5, 6, 7, 8, 9, 10, 11, 12, 13, 14, 15, 16, 17, 18, 19, 20, 21, 22, 23, 24, 25, 26] | _ => []
def ps_laws_eqBackendS_0 : List (Pat RT) := [.flat (.rs .impl_Backend), .flat (.rs .impl_Backend), .flat .dead, .flat .dead, .flat .dead, .flat (.int .i64), .flat .dead, .flat .dead, .flat .dead, .flat .dead, .flat .dead, .flat .dead, .flat .dead, .flat .dead, .flat .dead, .flat .dead, .flat .dead, .flat .dead, .flat .dead, .flat .dead, .flat .dead, .flat .dead, .flat .dead, .flat .dead, .flat .dead, .flat .dead, .flat .dead]
def os_laws_eqBackendS_0 : List (OP RT) := []
def conv_laws_eqBackendS_0 (r : Raw den ps_laws_eqBackendS_0 os_laws_eqBackendS_0) : ((Sl S_impl_Backend) × (Sl S_impl_Backend)) × (Int) := ((r.1.1, r.1.2.1), r.1.2.2.2.2.2.1)
def back_laws_eqBackendS_0 (c : (Sl S_impl_Backend) × (Sl S_impl_Backend)) (w : Int) : St RT den := ⟨[(.rs c.1.z .impl_Backend c.1.n c.1.f), (.rs c.2.z .impl_Backend c.2.n c.2.f), .dead, .dead, .dead, (.int .i64 w), .dead, .dead, .dead, .dead, .dead, .dead, .dead, .dead, .dead, .dead, .dead, .dead, .dead, .dead, .dead, .dead, .dead, .dead, .dead, .dead, .dead], []⟩
def Bk_laws_eqBackendS_0 {ρ : Type} (fu : Nat) (c : (Sl S_impl_Backend) × (Sl S_impl_Backend)) (k : Ex → St RT den → Option ρ) (w : Int) (go : (Int) → Option ρ) : Option ρ := F_laws_eqBackendS_B0 fu c.1 c.2 (k .ret ⟨[.dead, .dead, .dead, .dead, (.bool false), .dead, .dead, .dead, .dead, .dead, .dead, .dead, .dead, .dead, .dead, .dead, .dead, .dead, .dead, .dead, .dead, .dead, .dead, .dead, .dead, .dead, .dead], []⟩) (k (.exit 0) ⟨[.dead, .dead, .dead, .dead, .dead, .dead, .dead, .dead, .dead, .dead, .dead, .dead, .dead, .dead, .dead, .dead, .dead, .dead, .dead, .dead, .dead, .dead, .dead, .dead, .dead, .dead, .dead], []⟩) w go
def lp_laws_eqBackendS (fu : Nat) : Lp RT den (Bool) := fun b s k => match b with | 0 => handle ps_laws_eqBackendS_0 os_laws_eqBackendS_0 conv_laws_eqBackendS_0 (Bk_laws_eqBackendS_0 fu) fu s k | _ => none
theorem ev_laws_eqBackendS (fu : Nat) (a_0 : (Sl S_impl_Backend)) (b_1 : (Sl S_impl_Backend)) : evFun E (pc_laws_eqBackendS fu) msk_laws_eqBackendS (lp_laws_eqBackendS fu) out_bo 85 [(.rs a_0.z .impl_Backend a_0.n a_0.f), (.rs b_1.z .impl_Backend b_1.n b_1.f)] = F_laws_eqBackendS fu a_0 b_1 := by kernel_rfl
noncomputable def body_laws_eqBackendS : Code := Tryz.f85.body.getD .skip
noncomputable def lc_laws_eqBackendS_0 : Code := ((loops 0 body_laws_eqBackendS).getD 0 (0, .skip)).2
theorem round_laws_eqBackendS_0 (fu : Nat) (it : St RT den → Option (Bool)) (k : Ex → St RT den → Option (Bool)) c w : evCode E (pc_laws_eqBackendS fu) msk_laws_eqBackendS (lp_laws_eqBackendS fu) 0 lc_laws_eqBackendS_0 (back_laws_eqBackendS_0 c w) (after (msk_laws_eqBackendS 0) (msk_laws_eqBackendS 100000) 0 it k) = Bk_laws_eqBackendS_0 fu c k w (fun w => it (back_laws_eqBackendS_0 c w)) := by kernel_rfl
theorem lpok_laws_eqBackendS_0 (fu : Nat) : ∀ s k r, lp_laws_eqBackendS fu 0 s k = some r → ∃ fuel, iter (msk_laws_eqBackendS 0) (msk_laws_eqBackendS 100000) s.objs.length (evCode E (pc_laws_eqBackendS fu) msk_laws_eqBackendS (lp_laws_eqBackendS fu) 0 lc_laws_eqBackendS_0) fuel s k = some r :=
  handle_ok (ps := ps_laws_eqBackendS_0) (os := os_laws_eqBackendS_0) (conv := conv_laws_eqBackendS_0) (B := Bk_laws_eqBackendS_0 fu) (fu := fu) back_laws_eqBackendS_0 (fun raw => by kernel_rfl) 0 (fun c w => by kernel_rfl) (round_laws_eqBackendS_0 fu)
theorem lpok_laws_eqBackendS (fu : Nat) : LpOk E (pc_laws_eqBackendS fu) msk_laws_eqBackendS (lp_laws_eqBackendS fu) (loops 0 body_laws_eqBackendS) := loop_all 1 (by kernel_rfl) fun i hi => match i, hi with
  | 0, _ => by
    have h : (loops 0 body_laws_eqBackendS).getD 0 (0, .skip) = (0, lc_laws_eqBackendS_0) := by kernel_rfl
    rw [h]; exact lpok_laws_eqBackendS_0 fu
  | i + 1, hi => absurd hi (by omega)
def S_laws_eqBackendS (fu : Nat) (xs : List (D RT den)) : Option (Out RT den) := match xs with | [.rs za0_0 .impl_Backend na0_0 fa0_0, .rs za1_0 .impl_Backend na1_0 fa1_0] => some ⟨Bool, F_laws_eqBackendS fu (⟨za0_0, na0_0, fa0_0⟩ : (Sl S_impl_Backend)) (⟨za1_0, na1_0, fa1_0⟩ : (Sl S_impl_Backend)), enc_bo, fun _ => true⟩ | _ => none
theorem hpc_laws_eqBackendS (fu : Nat) : ∀ f xs o, pcf_laws_eqBackendS fu f xs = some o → ∀ y, o.x = some y → Good E Tryz.prog f xs (o.g y) := by
  intro f xs o h
  unfold pcf_laws_eqBackendS at h
  split at h
  · exact good_laws_eqBackend fu xs o h
  · cases h
theorem hpx_laws_eqBackendS (fu : Nat) : ∀ f xs ins o, pcx_laws_eqBackendS fu f xs ins = some o → ∀ y, o.x = some y → GoodX E Tryz.prog f xs ins (o.g y).1 (o.g y).2 := by
  intro f xs ins o h
  cases h
theorem goodv_laws_eqBackendS (fu : Nat) (a_0 : (Sl S_impl_Backend)) (b_1 : (Sl S_impl_Backend)) (y : Bool) (hy : F_laws_eqBackendS fu a_0 b_1 = some y) : Good E Tryz.prog 85 [(.rs a_0.z .impl_Backend a_0.n a_0.f), (.rs b_1.z .impl_Backend b_1.n b_1.f)] (enc_bo y) :=
  fun_good E_ok (pc_good (pc := pc_laws_eqBackendS fu) (hpc_laws_eqBackendS fu) (hpx_laws_eqBackendS fu)) (fn := Tryz.f85) (c := body_laws_eqBackendS) (out := out_bo) (y := y) (by kernel_rfl) (by kernel_rfl) (by kernel_rfl) (lpok_laws_eqBackendS fu) (fun d hd => out_bo_enc d _ hd) ((ev_laws_eqBackendS fu a_0 b_1).trans hy)
theorem good_laws_eqBackendS (fu : Nat) : ∀ xs o, S_laws_eqBackendS fu xs = some o → ∀ y, o.x = some y → Good E Tryz.prog 85 xs (o.g y) := by
  intro xs o h y hy
  unfold S_laws_eqBackendS at h
  split at h
  · rename_i za0_0 na0_0 fa0_0 za1_0 na1_0 fa1_0
    cases h
    exact goodv_laws_eqBackendS fu (⟨za0_0, na0_0, fa0_0⟩ : (Sl S_impl_Backend)) (⟨za1_0, na1_0, fa1_0⟩ : (Sl S_impl_Backend)) y hy
  · cases h

/-! laws.eqInt64S -/
def F_laws_eqInt64S_B0 {ρ : Type} (fu : Nat) (a0_0 : (Sl Int)) (b1_1 : (Sl Int)) (k0 : Option ρ) (k1 : Option ρ) (i5_2 : Int) (go : Int → Option ρ) : Option ρ :=
  (bif (decide (i5_2 < ((a0_0.n : Nat) : Int))) then ((bif (decide (0 ≤ i5_2) && decide ((Int.toNat i5_2) < a0_0.n)) then some () else none : Option Unit).bind fun _ => ((bif (decide (0 ≤ i5_2) &&
    decide ((Int.toNat i5_2) < b1_1.n)) then some () else none : Option Unit).bind fun _ => (bif ((a0_0.f (Int.toNat i5_2)) != (b1_1.f (Int.toNat i5_2))) then k0 else (go (IntKind.wrap .i64 (i5_2 + 1)))))) else
    k1)
def F_laws_eqInt64S (fu : Nat) (a_0 : (Sl Int)) (b_1 : (Sl Int)) : Option (Bool) :=
  (bif (((a_0.n : Nat) : Int) != ((b_1.n : Nat) : Int)) then (some false) else (L (fun w0 go0 => F_laws_eqInt64S_B0 fu a_0 b_1 (some false) (some true) w0 go0) fu (0 : Int)))
def pcf_laws_eqInt64S (fu : Nat) (f : Nat) (xs : List (D RT den)) : Option (Out RT den) := none
def pcx_laws_eqInt64S (fu : Nat) (f : Nat) (xs : List (D RT den)) (ins : List (Ob RT den)) : Option (OutX RT den) := none
def pc_laws_eqInt64S (fu : Nat) : Pc RT den := ⟨pcf_laws_eqInt64S fu, fun _ => false, fun _ => false, pcx_laws_eqInt64S fu⟩
def msk_laws_eqInt64S (b : Nat) : List Nat := match b with | 0 => [2, 3, 4, 6, 7, 8, 9, 10, 11, 12, 13, 14, 15, 16, 17, 18, 19, 20, 21, 22, 23, 24, 25] | 100000 => [0, 1, 2, 3, 5, 6, 7, 8, 9, 10, 11, 12, 13, 14, 15, 16, 17, 18, 19, 20, 21, 22, 23, 24, 25] | _ => []
def ps_laws_eqInt64S_0 : List (Pat RT) := [.flat (.rs .i64), .flat (.rs .i64), .flat .dead, .flat .dead, .flat .dead, .flat (.int .i64), .flat .dead, .flat .dead, .flat .dead, .flat .dead, .flat .dead, .flat .dead, .flat .dead, .flat .dead, .flat .dead, .flat .dead, .flat .dead, .flat .dead, .flat .dead, .flat .dead, .flat .dead, .flat .dead, .flat .dead, .flat .dead, .flat .dead, .flat .dead]
def os_laws_eqInt64S_0 : List (OP RT) := []
def conv_laws_eqInt64S_0 (r : Raw den ps_laws_eqInt64S_0 os_laws_eqInt64S_0) : ((Sl Int) × (Sl Int)) × (Int) := ((r.1.1, r.1.2.1), r.1.2.2.2.2.2.1)
def back_laws_eqInt64S_0 (c : (Sl Int) × (Sl Int)) (w : Int) : St RT den := ⟨[(.rs c.1.z .i64 c.1.n c.1.f), (.rs c.2.z .i64 c.2.n c.2.f), .dead, .dead, .dead, (.int .i64 w), .dead, .dead, .dead, .dead, .dead, .dead, .dead, .dead, .dead, .dead, .dead, .dead, .dead, .dead, .dead, .dead, .dead, .dead, .dead, .dead], []⟩
def Bk_laws_eqInt64S_0 {ρ : Type} (fu : Nat) (c : (Sl Int) × (Sl Int)) (k : Ex → St RT den → Option ρ) (w : Int) (go : (Int) → Option ρ) : Option ρ := F_laws_eqInt64S_B0 fu c.1 c.2 (k .ret ⟨[.dead, .dead, .dead, .dead, (.bool false), .dead, .dead, .dead, .dead, .dead, .dead, .dead, .dead, .dead, .dead, .dead, .dead, .dead, .dead, .dead, .dead, .dead, .dead, .dead, .dead, .dead], []⟩) (k (.exit 0) ⟨[.dead, .dead, .dead, .dead, .dead, .dead, .dead, .dead, .dead, .dead, .dead, .dead, .dead, .dead, .dead, .dead, .dead, .dead, .dead, .dead, .dead, .dead, .dead, .dead, .dead, .dead], []⟩) w go
def lp_laws_eqInt64S (fu : Nat) : Lp RT den (Bool) := fun b s k => match b with | 0 => handle ps_laws_eqInt64S_0 os_laws_eqInt64S_0 conv_laws_eqInt64S_0 (Bk_laws_eqInt64S_0 fu) fu s k | _ => none
theorem ev_laws_eqInt64S (fu : Nat) (a_0 : (Sl Int)) (b_1 : (Sl Int)) : evFun E (pc_laws_eqInt64S fu) msk_laws_eqInt64S (lp_laws_eqInt64S fu) out_bo 58 [(.rs a_0.z .i64 a_0.n a_0.f), (.rs b_1.z .i64 b_1.n b_1.f)] = F_laws_eqInt64S fu a_0 b_1 := by kernel_rfl
noncomputable def body_laws_eqInt64S : Code := Tryz.f58.body.getD .skip
noncomputable def lc_laws_eqInt64S_0 : Code := ((loops 0 body_laws_eqInt64S).getD 0 (0, .skip)).2
theorem round_laws_eqInt64S_0 (fu : Nat) (it : St RT den → Option (Bool)) (k : Ex → St RT den → Option (Bool)) c w : evCode E (pc_laws_eqInt64S fu) msk_laws_eqInt64S (lp_laws_eqInt64S fu) 0 lc_laws_eqInt64S_0 (back_laws_eqInt64S_0 c w) (after (msk_laws_eqInt64S 0) (msk_laws_eqInt64S 100000) 0 it k) = Bk_laws_eqInt64S_0 fu c k w (fun w => it (back_laws_eqInt64S_0 c w)) := by kernel_rfl
theorem lpok_laws_eqInt64S_0 (fu : Nat) : ∀ s k r, lp_laws_eqInt64S fu 0 s k = some r → ∃ fuel, iter (msk_laws_eqInt64S 0) (msk_laws_eqInt64S 100000) s.objs.length (evCode E (pc_laws_eqInt64S fu) msk_laws_eqInt64S (lp_laws_eqInt64S fu) 0 lc_laws_eqInt64S_0) fuel s k = some r :=
  handle_ok (ps := ps_laws_eqInt64S_0) (os := os_laws_eqInt64S_0) (conv := conv_laws_eqInt64S_0) (B := Bk_laws_eqInt64S_0 fu) (fu := fu) back_laws_eqInt64S_0 (fun raw => by kernel_rfl) 0 (fun c w => by kernel_rfl) (round_laws_eqInt64S_0 fu)
theorem lpok_laws_eqInt64S (fu : Nat) : LpOk E (pc_laws_eqInt64S fu) msk_laws_eqInt64S (lp_laws_eqInt64S fu) (loops 0 body_laws_eqInt64S) := loop_all 1 (by kernel_rfl) fun i hi => match i, hi with
  | 0, _ => by
    have h : (loops 0 body_laws_eqInt64S).getD 0 (0, .skip) = (0, lc_laws_eqInt64S_0) := by kernel_rfl
    rw [h]; exact lpok_laws_eqInt64S_0 fu
  | i + 1, hi => absurd hi (by omega)
def S_laws_eqInt64S (fu : Nat) (xs : List (D RT den)) : Option (Out RT den) := match xs with | [.rs za0_0 .i64 na0_0 fa0_0, .rs za1_0 .i64 na1_0 fa1_0] => some ⟨Bool, F_laws_eqInt64S fu (⟨za0_0, na0_0, fa0_0⟩ : (Sl Int)) (⟨za1_0, na1_0, fa1_0⟩ : (Sl Int)), enc_bo, fun _ => true⟩ | _ => none
theorem hpc_laws_eqInt64S (fu : Nat) : ∀ f xs o, pcf_laws_eqInt64S fu f xs = some o → ∀ y, o.x = some y → Good E Tryz.prog f xs (o.g y) := by
  intro f xs o h
  cases h
theorem hpx_laws_eqInt64S (fu : Nat) : ∀ f xs ins o, pcx_laws_eqInt64S fu f xs ins = some o → ∀ y, o.x = some y → GoodX E Tryz.prog f xs ins (o.g y).1 (o.g y).2 := by
  intro f xs ins o h
  cases h
theorem goodv_laws_eqInt64S (fu : Nat) (a_0 : (Sl Int)) (b_1 : (Sl Int)) (y : Bool) (hy : F_laws_eqInt64S fu a_0 b_1 = some y) : Good E Tryz.prog 58 [(.rs a_0.z .i64 a_0.n a_0.f), (.rs b_1.z .i64 b_1.n b_1.f)] (enc_bo y) :=
  fun_good E_ok (pc_good (pc := pc_laws_eqInt64S fu) (hpc_laws_eqInt64S fu) (hpx_laws_eqInt64S fu)) (fn := Tryz.f58) (c := body_laws_eqInt64S) (out := out_bo) (y := y) (by kernel_rfl) (by kernel_rfl) (by kernel_rfl) (lpok_laws_eqInt64S fu) (fun d hd => out_bo_enc d _ hd) ((ev_laws_eqInt64S fu a_0 b_1).trans hy)
theorem good_laws_eqInt64S (fu : Nat) : ∀ xs o, S_laws_eqInt64S fu xs = some o → ∀ y, o.x = some y → Good E Tryz.prog 58 xs (o.g y) := by
  intro xs o h y hy
  unfold S_laws_eqInt64S at h
  split at h
  · rename_i za0_0 na0_0 fa0_0 za1_0 na1_0 fa1_0
    cases h
    exact goodv_laws_eqInt64S fu (⟨za0_0, na0_0, fa0_0⟩ : (Sl Int)) (⟨za1_0, na1_0, fa1_0⟩ : (Sl Int)) y hy
  · cases h

/-! laws.eqVip -/
def F_laws_eqVip (fu : Nat) (a_0 : S_impl_Vip) (b_1 : S_impl_Vip) : Option (Bool) :=
  (bif (a_0.Address != b_1.Address) then (some false) else (bif (a_0.Port != b_1.Port) then (some false) else (bif (a_0.Proto != b_1.Proto) then (some false) else ((F_laws_eqInt64S fu a_0.Names b_1.Names).bind fun y365 =>
    (bif (!y365) then (some false) else (some true))))))
def pcf_laws_eqVip (fu : Nat) (f : Nat) (xs : List (D RT den)) : Option (Out RT den) := match f with | 58 => S_laws_eqInt64S fu xs | _ => none
def pcx_laws_eqVip (fu : Nat) (f : Nat) (xs : List (D RT den)) (ins : List (Ob RT den)) : Option (OutX RT den) := none
def pc_laws_eqVip (fu : Nat) : Pc RT den := ⟨pcf_laws_eqVip fu, fun _ => false, fun _ => false, pcx_laws_eqVip fu⟩
def msk_laws_eqVip (b : Nat) : List Nat := []
def lp_laws_eqVip (fu : Nat) : Lp RT den (Bool) := fun b s k => none
theorem ev_laws_eqVip (fu : Nat) (a_0 : S_impl_Vip) (b_1 : S_impl_Vip) : evFun E (pc_laws_eqVip fu) msk_laws_eqVip (lp_laws_eqVip fu) out_bo 109 [(.agg [(.int .i64 a_0.Address), (.int .i64 a_0.Port), (.int .i64 a_0.Proto), (.rs a_0.Names.z .i64 a_0.Names.n a_0.Names.f)]), (.agg [(.int .i64 b_1.Address), (.int .i64 b_1.Port), (.int .i64 b_1.Proto), (.rs b_1.Names.z .i64 b_1.Names.n b_1.Names.f)])] = F_laws_eqVip fu a_0 b_1 := by kernel_rfl
noncomputable def body_laws_eqVip : Code := Tryz.f109.body.getD .skip
theorem lpok_laws_eqVip (fu : Nat) : LpOk E (pc_laws_eqVip fu) msk_laws_eqVip (lp_laws_eqVip fu) (loops 0 body_laws_eqVip) := by
  have h : loops 0 body_laws_eqVip = [] := by kernel_rfl
  rw [h]; intro p hp; cases hp
def S_laws_eqVip (fu : Nat) (xs : List (D RT den)) : Option (Out RT den) := match xs with | [.agg [.int .i64 a0_1, .int .i64 a0_2, .int .i64 a0_3, .rs za0_4 .i64 na0_4 fa0_4], .agg [.int .i64 a1_1, .int .i64 a1_2, .int .i64 a1_3, .rs za1_4 .i64 na1_4 fa1_4]] => some ⟨Bool, F_laws_eqVip fu (⟨a0_1, a0_2, a0_3, (⟨za0_4, na0_4, fa0_4⟩ : (Sl Int))⟩ : S_impl_Vip) (⟨a1_1, a1_2, a1_3, (⟨za1_4, na1_4, fa1_4⟩ : (Sl Int))⟩ : S_impl_Vip), enc_bo, fun _ => true⟩ | _ => none
theorem hpc_laws_eqVip (fu : Nat) : ∀ f xs o, pcf_laws_eqVip fu f xs = some o → ∀ y, o.x = some y → Good E Tryz.prog f xs (o.g y) := by
  intro f xs o h
  unfold pcf_laws_eqVip at h
  split at h
  · exact good_laws_eqInt64S fu xs o h
  · cases h
theorem hpx_laws_eqVip (fu : Nat) : ∀ f xs ins o, pcx_laws_eqVip fu f xs ins = some o → ∀ y, o.x = some y → GoodX E Tryz.prog f xs ins (o.g y).1 (o.g y).2 := by
  intro f xs ins o h
  cases h
theorem goodv_laws_eqVip (fu : Nat) (a_0 : S_impl_Vip) (b_1 : S_impl_Vip) (y : Bool) (hy : F_laws_eqVip fu a_0 b_1 = some y) : Good E Tryz.prog 109 [(.agg [(.int .i64 a_0.Address), (.int .i64 a_0.Port), (.int .i64 a_0.Proto), (.rs a_0.Names.z .i64 a_0.Names.n a_0.Names.f)]), (.agg [(.int .i64 b_1.Address), (.int .i64 b_1.Port), (.int .i64 b_1.Proto), (.rs b_1.Names.z .i64 b_1.Names.n b_1.Names.f)])] (enc_bo y) :=
  fun_good E_ok (pc_good (pc := pc_laws_eqVip fu) (hpc_laws_eqVip fu) (hpx_laws_eqVip fu)) (fn := Tryz.f109) (c := body_laws_eqVip) (out := out_bo) (y := y) (by kernel_rfl) (by kernel_rfl) (by kernel_rfl) (lpok_laws_eqVip fu) (fun d hd => out_bo_enc d _ hd) ((ev_laws_eqVip fu a_0 b_1).trans hy)
theorem good_laws_eqVip (fu : Nat) : ∀ xs o, S_laws_eqVip fu xs = some o → ∀ y, o.x = some y → Good E Tryz.prog 109 xs (o.g y) := by
  intro xs o h y hy
  unfold S_laws_eqVip at h
  split at h
  · rename_i a0_1 a0_2 a0_3 za0_4 na0_4 fa0_4 a1_1 a1_2 a1_3 za1_4 na1_4 fa1_4
    cases h
    exact goodv_laws_eqVip fu (⟨a0_1, a0_2, a0_3, (⟨za0_4, na0_4, fa0_4⟩ : (Sl Int))⟩ : S_impl_Vip) (⟨a1_1, a1_2, a1_3, (⟨za1_4, na1_4, fa1_4⟩ : (Sl Int))⟩ : S_impl_Vip) y hy
  · cases h

/-! laws.eqVipS -/
def F_laws_eqVipS_B0 {ρ : Type} (fu : Nat) (a0_0 : (Sl S_impl_Vip)) (b1_1 : (Sl S_impl_Vip)) (k0 : Option ρ) (k1 : Option ρ) (i5_2 : Int) (go : Int → Option ρ) : Option ρ :=
  (bif (decide (i5_2 < ((a0_0.n : Nat) : Int))) then ((bif (decide (0 ≤ i5_2) && decide ((Int.toNat i5_2) < a0_0.n)) then some () else none : Option Unit).bind fun _ => ((bif (decide (0 ≤ i5_2) &&
    decide ((Int.toNat i5_2) < b1_1.n)) then some () else none : Option Unit).bind fun _ => ((F_laws_eqVip fu (a0_0.f (Int.toNat i5_2)) (b1_1.f (Int.toNat i5_2))).bind fun y364 =>
    (bif (!y364) then k0 else (go (IntKind.wrap .i64 (i5_2 + 1))))))) else k1)
def F_laws_eqVipS (fu : Nat) (a_0 : (Sl S_impl_Vip)) (b_1 : (Sl S_impl_Vip)) : Option (Bool) :=
  (bif (((a_0.n : Nat) : Int) != ((b_1.n : Nat) : Int)) then (some false) else (L (fun w0 go0 => F_laws_eqVipS_B0 fu a_0 b_1 (some false) (some true) w0 go0) fu (0 : Int)))
def pcf_laws_eqVipS (fu : Nat) (f : Nat) (xs : List (D RT den)) : Option (Out RT den) := match f with | 109 => S_laws_eqVip fu xs | _ => none
def pcx_laws_eqVipS (fu : Nat) (f : Nat) (xs : List (D RT den)) (ins : List (Ob RT den)) : Option (OutX RT den) := none
def pc_laws_eqVipS (fu : Nat) : Pc RT den := ⟨pcf_laws_eqVipS fu, fun _ => false, fun _ => false, pcx_laws_eqVipS fu⟩
def msk_laws_eqVipS (b : Nat) : List Nat := match b with | 0 => [2, 3, 4, 6, 7, 8, 9, 10, 11, 12, 13, 14, 15, 16, 17, 18, 19, 20, 21, 22, 23, 24, 25, 26] | 100000 => [0, 1, 2, 3, 5, 6, 7, 8, 9, 10, 11, 12, 13, 14, 15, 16, 17, 18, 19, 20, 21, 22, 23, 24, 25, 26] | _ => []
def ps_laws_eqVipS_0 : List (Pat RT) := [.flat (.rs .impl_Vip), .flat (.rs .impl_Vip), .flat .dead, .flat .dead, .flat .dead, .flat (.int .i64), .flat .dead, .flat .dead, .flat .dead, .flat .dead, .flat .dead, .flat .dead, .flat .dead, .flat .dead, .flat .dead, .flat .dead, .flat .dead, .flat .dead, .flat .dead, .flat .dead, .flat .dead, .flat .dead, .flat .dead, .flat .dead, .flat .dead, .flat .dead, .flat .dead]
def os_laws_eqVipS_0 : List (OP RT) := []
def conv_laws_eqVipS_0 (r : Raw den ps_laws_eqVipS_0 os_laws_eqVipS_0) : ((Sl S_impl_Vip) × (Sl S_impl_Vip)) × (Int) := ((r.1.1, r.1.2.1), r.1.2.2.2.2.2.1)
def back_laws_eqVipS_0 (c : (Sl S_impl_Vip) × (Sl S_impl_Vip)) (w : Int) : St RT den := ⟨[(.rs c.1.z .impl_Vip c.1.n c.1.f), (.rs c.2.z .impl_Vip c.2.n c.2.f), .dead, .dead, .dead, (.int .i64 w), .dead, .dead, .dead, .dead, .dead, .dead, .dead, .dead, .dead, .dead, .dead, .dead, .dead, .dead, .dead, .dead, .dead, .dead, .dead, .dead, .dead], []⟩
def Bk_laws_eqVipS_0 {ρ : Type} (fu : Nat) (c : (Sl S_impl_Vip) × (Sl S_impl_Vip)) (k : Ex → St RT den → Option ρ) (w : Int) (go : (Int) → Option ρ) : Option ρ := F_laws_eqVipS_B0 fu c.1 c.2 (k .ret ⟨[.dead, .dead, .dead, .dead, (.bool false), .dead, .dead, .dead, .dead, .dead, .dead, .dead, .dead, .dead, .dead, .dead, .dead, .dead, .dead, .dead, .dead, .dead, .dead, .dead, .dead, .dead, .dead], []⟩) (k (.exit 0) ⟨[.dead, .dead, .dead, .dead, .dead, .dead, .dead, .dead, .dead, .dead, .dead, .dead, .dead, .dead, .dead, .dead, .dead, .dead, .dead, .dead, .dead, .dead, .dead, .dead, .dead, .dead, .dead], []⟩) w go
def lp_laws_eqVipS (fu : Nat) : Lp RT den (Bool) := fun b s k => match b with | 0 => handle ps_laws_eqVipS_0 os_laws_eqVipS_0 conv_laws_eqVipS_0 (Bk_laws_eqVipS_0 fu) fu s k | _ => none
theorem ev_laws_eqVipS (fu : Nat) (a_0 : (Sl S_impl_Vip)) (b_1 : (Sl S_impl_Vip)) : evFun E (pc_laws_eqVipS fu) msk_laws_eqVipS (lp_laws_eqVipS fu) out_bo 86 [(.rs a_0.z .impl_Vip a_0.n a_0.f), (.rs b_1.z .impl_Vip b_1.n b_1.f)] = F_laws_eqVipS fu a_0 b_1 := by kernel_rfl
noncomputable def body_laws_eqVipS : Code := Tryz.f86.body.getD .skip
noncomputable def lc_laws_eqVipS_0 : Code := ((loops 0 body_laws_eqVipS).getD 0 (0, .skip)).2
theorem round_laws_eqVipS_0 (fu : Nat) (it : St RT den → Option (Bool)) (k : Ex → St RT den → Option (Bool)) c w : evCode E (pc_laws_eqVipS fu) msk_laws_eqVipS (lp_laws_eqVipS fu) 0 lc_laws_eqVipS_0 (back_laws_eqVipS_0 c w) (after (msk_laws_eqVipS 0) (msk_laws_eqVipS 100000) 0 it k) = Bk_laws_eqVipS_0 fu c k w (fun w => it (back_laws_eqVipS_0 c w)) := by kernel_rfl
theorem lpok_laws_eqVipS_0 (fu : Nat) : ∀ s k r, lp_laws_eqVipS fu 0 s k = some r → ∃ fuel, iter (msk_laws_eqVipS 0) (msk_laws_eqVipS 100000) s.objs.length (evCode E (pc_laws_eqVipS fu) msk_laws_eqVipS (lp_laws_eqVipS fu) 0 lc_laws_eqVipS_0) fuel s k = some r :=
  handle_ok (ps := ps_laws_eqVipS_0) (os := os_laws_eqVipS_0) (conv := conv_laws_eqVipS_0) (B := Bk_laws_eqVipS_0 fu) (fu := fu) back_laws_eqVipS_0 (fun raw => by kernel_rfl) 0 (fun c w => by kernel_rfl) (round_laws_eqVipS_0 fu)
theorem lpok_laws_eqVipS (fu : Nat) : LpOk E (pc_laws_eqVipS fu) msk_laws_eqVipS (lp_laws_eqVipS fu) (loops 0 body_laws_eqVipS) := loop_all 1 (by kernel_rfl) fun i hi => match i, hi with
  | 0, _ => by
    have h : (loops 0 body_laws_eqVipS).getD 0 (0, .skip) = (0, lc_laws_eqVipS_0) := by kernel_rfl
    rw [h]; exact lpok_laws_eqVipS_0 fu
  | i + 1, hi => absurd hi (by omega)
def S_laws_eqVipS (fu : Nat) (xs : List (D RT den)) : Option (Out RT den) := match xs with | [.rs za0_0 .impl_Vip na0_0 fa0_0, .rs za1_0 .impl_Vip na1_0 fa1_0] => some ⟨Bool, F_laws_eqVipS fu (⟨za0_0, na0_0, fa0_0⟩ : (Sl S_impl_Vip)) (⟨za1_0, na1_0, fa1_0⟩ : (Sl S_impl_Vip)), enc_bo, fun _ => true⟩ | _ => none
theorem hpc_laws_eqVipS (fu : Nat) : ∀ f xs o, pcf_laws_eqVipS fu f xs = some o → ∀ y, o.x = some y → Good E Tryz.prog f xs (o.g y) := by
  intro f xs o h
  unfold pcf_laws_eqVipS at h
  split at h
  · exact good_laws_eqVip fu xs o h
  · cases h
theorem hpx_laws_eqVipS (fu : Nat) : ∀ f xs ins o, pcx_laws_eqVipS fu f xs ins = some o → ∀ y, o.x = some y → GoodX E Tryz.prog f xs ins (o.g y).1 (o.g y).2 := by
  intro f xs ins o h
  cases h
theorem goodv_laws_eqVipS (fu : Nat) (a_0 : (Sl S_impl_Vip)) (b_1 : (Sl S_impl_Vip)) (y : Bool) (hy : F_laws_eqVipS fu a_0 b_1 = some y) : Good E Tryz.prog 86 [(.rs a_0.z .impl_Vip a_0.n a_0.f), (.rs b_1.z .impl_Vip b_1.n b_1.f)] (enc_bo y) :=
  fun_good E_ok (pc_good (pc := pc_laws_eqVipS fu) (hpc_laws_eqVipS fu) (hpx_laws_eqVipS fu)) (fn := Tryz.f86) (c := body_laws_eqVipS) (out := out_bo) (y := y) (by kernel_rfl) (by kernel_rfl) (by kernel_rfl) (lpok_laws_eqVipS fu) (fun d hd => out_bo_enc d _ hd) ((ev_laws_eqVipS fu a_0 b_1).trans hy)
theorem good_laws_eqVipS (fu : Nat) : ∀ xs o, S_laws_eqVipS fu xs = some o → ∀ y, o.x = some y → Good E Tryz.prog 86 xs (o.g y) := by
  intro xs o h y hy
  unfold S_laws_eqVipS at h
  split at h
  · rename_i za0_0 na0_0 fa0_0 za1_0 na1_0 fa1_0
    cases h
    exact goodv_laws_eqVipS fu (⟨za0_0, na0_0, fa0_0⟩ : (Sl S_impl_Vip)) (⟨za1_0, na1_0, fa1_0⟩ : (Sl S_impl_Vip)) y hy
  · cases h

/-! laws.eqConfig -/
def F_laws_eqConfig (fu : Nat) (a_0 : S_impl_Config) (b_1 : S_impl_Config) : Option (Bool) :=
  (bif (a_0.Version != b_1.Version) then (some false) else ((F_laws_eqBackendS fu a_0.Backends b_1.Backends).bind fun y361 => (bif (!y361) then (some false) else ((F_laws_eqVipS fu a_0.Vips b_1.Vips).bind fun y362 =>
    (bif (!y362) then (some false) else (some true))))))
def pcf_laws_eqConfig (fu : Nat) (f : Nat) (xs : List (D RT den)) : Option (Out RT den) := match f with | 85 => S_laws_eqBackendS fu xs | 86 => S_laws_eqVipS fu xs | _ => none
def pcx_laws_eqConfig (fu : Nat) (f : Nat) (xs : List (D RT den)) (ins : List (Ob RT den)) : Option (OutX RT den) := none
def pc_laws_eqConfig (fu : Nat) : Pc RT den := ⟨pcf_laws_eqConfig fu, fun _ => false, fun _ => false, pcx_laws_eqConfig fu⟩
def msk_laws_eqConfig (b : Nat) : List Nat := []
def lp_laws_eqConfig (fu : Nat) : Lp RT den (Bool) := fun b s k => none
theorem ev_laws_eqConfig (fu : Nat) (a_0 : S_impl_Config) (b_1 : S_impl_Config) : evFun E (pc_laws_eqConfig fu) msk_laws_eqConfig (lp_laws_eqConfig fu) out_bo 57 [(.agg [(.int .i64 a_0.Version), (.rs a_0.Backends.z .impl_Backend a_0.Backends.n a_0.Backends.f), (.rs a_0.Vips.z .impl_Vip a_0.Vips.n a_0.Vips.f)]), (.agg [(.int .i64 b_1.Version), (.rs b_1.Backends.z .impl_Backend b_1.Backends.n b_1.Backends.f), (.rs b_1.Vips.z .impl_Vip b_1.Vips.n b_1.Vips.f)])] = F_laws_eqConfig fu a_0 b_1 := by kernel_rfl
noncomputable def body_laws_eqConfig : Code := Tryz.f57.body.getD .skip
theorem lpok_laws_eqConfig (fu : Nat) : LpOk E (pc_laws_eqConfig fu) msk_laws_eqConfig (lp_laws_eqConfig fu) (loops 0 body_laws_eqConfig) := by
  have h : loops 0 body_laws_eqConfig = [] := by kernel_rfl
  rw [h]; intro p hp; cases hp
def S_laws_eqConfig (fu : Nat) (xs : List (D RT den)) : Option (Out RT den) := match xs with | [.agg [.int .i64 a0_1, .rs za0_2 .impl_Backend na0_2 fa0_2, .rs za0_3 .impl_Vip na0_3 fa0_3], .agg [.int .i64 a1_1, .rs za1_2 .impl_Backend na1_2 fa1_2, .rs za1_3 .impl_Vip na1_3 fa1_3]] => some ⟨Bool, F_laws_eqConfig fu (⟨a0_1, (⟨za0_2, na0_2, fa0_2⟩ : (Sl S_impl_Backend)), (⟨za0_3, na0_3, fa0_3⟩ : (Sl S_impl_Vip))⟩ : S_impl_Config) (⟨a1_1, (⟨za1_2, na1_2, fa1_2⟩ : (Sl S_impl_Backend)), (⟨za1_3, na1_3, fa1_3⟩ : (Sl S_impl_Vip))⟩ : S_impl_Config), enc_bo, fun _ => true⟩ | _ => none
theorem hpc_laws_eqConfig (fu : Nat) : ∀ f xs o, pcf_laws_eqConfig fu f xs = some o → ∀ y, o.x = some y → Good E Tryz.prog f xs (o.g y) := by
  intro f xs o h
  unfold pcf_laws_eqConfig at h
  split at h
  · exact good_laws_eqBackendS fu xs o h
  · exact good_laws_eqVipS fu xs o h
  · cases h
theorem hpx_laws_eqConfig (fu : Nat) : ∀ f xs ins o, pcx_laws_eqConfig fu f xs ins = some o → ∀ y, o.x = some y → GoodX E Tryz.prog f xs ins (o.g y).1 (o.g y).2 := by
  intro f xs ins o h
  cases h
theorem goodv_laws_eqConfig (fu : Nat) (a_0 : S_impl_Config) (b_1 : S_impl_Config) (y : Bool) (hy : F_laws_eqConfig fu a_0 b_1 = some y) : Good E Tryz.prog 57 [(.agg [(.int .i64 a_0.Version), (.rs a_0.Backends.z .impl_Backend a_0.Backends.n a_0.Backends.f), (.rs a_0.Vips.z .impl_Vip a_0.Vips.n a_0.Vips.f)]), (.agg [(.int .i64 b_1.Version), (.rs b_1.Backends.z .impl_Backend b_1.Backends.n b_1.Backends.f), (.rs b_1.Vips.z .impl_Vip b_1.Vips.n b_1.Vips.f)])] (enc_bo y) :=
  fun_good E_ok (pc_good (pc := pc_laws_eqConfig fu) (hpc_laws_eqConfig fu) (hpx_laws_eqConfig fu)) (fn := Tryz.f57) (c := body_laws_eqConfig) (out := out_bo) (y := y) (by kernel_rfl) (by kernel_rfl) (by kernel_rfl) (lpok_laws_eqConfig fu) (fun d hd => out_bo_enc d _ hd) ((ev_laws_eqConfig fu a_0 b_1).trans hy)
theorem good_laws_eqConfig (fu : Nat) : ∀ xs o, S_laws_eqConfig fu xs = some o → ∀ y, o.x = some y → Good E Tryz.prog 57 xs (o.g y) := by
  intro xs o h y hy
  unfold S_laws_eqConfig at h
  split at h
  · rename_i a0_1 za0_2 na0_2 fa0_2 za0_3 na0_3 fa0_3 a1_1 za1_2 na1_2 fa1_2 za1_3 na1_3 fa1_3
    cases h
    exact goodv_laws_eqConfig fu (⟨a0_1, (⟨za0_2, na0_2, fa0_2⟩ : (Sl S_impl_Backend)), (⟨za0_3, na0_3, fa0_3⟩ : (Sl S_impl_Vip))⟩ : S_impl_Config) (⟨a1_1, (⟨za1_2, na1_2, fa1_2⟩ : (Sl S_impl_Backend)), (⟨za1_3, na1_3, fa1_3⟩ : (Sl S_impl_Vip))⟩ : S_impl_Config) y hy
  · cases h

/-! laws.eqWatch -/
def F_laws_eqWatch (fu : Nat) (a_0 : S_impl_Watch) (b_1 : S_impl_Watch) : Option (Bool) :=
  (bif (!(a_0.Ready == b_1.Ready)) then (some false) else ((F_laws_eqConfig fu a_0.Config b_1.Config).bind fun y360 => (bif (!y360) then (some false) else (some true))))
def pcf_laws_eqWatch (fu : Nat) (f : Nat) (xs : List (D RT den)) : Option (Out RT den) := match f with | 57 => S_laws_eqConfig fu xs | _ => none
def pcx_laws_eqWatch (fu : Nat) (f : Nat) (xs : List (D RT den)) (ins : List (Ob RT den)) : Option (OutX RT den) := none
def pc_laws_eqWatch (fu : Nat) : Pc RT den := ⟨pcf_laws_eqWatch fu, fun _ => false, fun _ => false, pcx_laws_eqWatch fu⟩
def msk_laws_eqWatch (b : Nat) : List Nat := []
def lp_laws_eqWatch (fu : Nat) : Lp RT den (Bool) := fun b s k => none
theorem ev_laws_eqWatch (fu : Nat) (a_0 : S_impl_Watch) (b_1 : S_impl_Watch) : evFun E (pc_laws_eqWatch fu) msk_laws_eqWatch (lp_laws_eqWatch fu) out_bo 31 [(.agg [(.bool a_0.Ready), (.int .i64 a_0.Config.Version), (.rs a_0.Config.Backends.z .impl_Backend a_0.Config.Backends.n a_0.Config.Backends.f), (.rs a_0.Config.Vips.z .impl_Vip a_0.Config.Vips.n a_0.Config.Vips.f)]), (.agg [(.bool b_1.Ready), (.int .i64 b_1.Config.Version), (.rs b_1.Config.Backends.z .impl_Backend b_1.Config.Backends.n b_1.Config.Backends.f), (.rs b_1.Config.Vips.z .impl_Vip b_1.Config.Vips.n b_1.Config.Vips.f)])] = F_laws_eqWatch fu a_0 b_1 := by kernel_rfl
noncomputable def body_laws_eqWatch : Code := Tryz.f31.body.getD .skip
theorem lpok_laws_eqWatch (fu : Nat) : LpOk E (pc_laws_eqWatch fu) msk_laws_eqWatch (lp_laws_eqWatch fu) (loops 0 body_laws_eqWatch) := by
  have h : loops 0 body_laws_eqWatch = [] := by kernel_rfl
  rw [h]; intro p hp; cases hp
def S_laws_eqWatch (fu : Nat) (xs : List (D RT den)) : Option (Out RT den) := match xs with | [.agg [.bool a0_1, .int .i64 a0_3, .rs za0_4 .impl_Backend na0_4 fa0_4, .rs za0_5 .impl_Vip na0_5 fa0_5], .agg [.bool a1_1, .int .i64 a1_3, .rs za1_4 .impl_Backend na1_4 fa1_4, .rs za1_5 .impl_Vip na1_5 fa1_5]] => some ⟨Bool, F_laws_eqWatch fu (⟨a0_1, (⟨a0_3, (⟨za0_4, na0_4, fa0_4⟩ : (Sl S_impl_Backend)), (⟨za0_5, na0_5, fa0_5⟩ : (Sl S_impl_Vip))⟩ : S_impl_Config)⟩ : S_impl_Watch) (⟨a1_1, (⟨a1_3, (⟨za1_4, na1_4, fa1_4⟩ : (Sl S_impl_Backend)), (⟨za1_5, na1_5, fa1_5⟩ : (Sl S_impl_Vip))⟩ : S_impl_Config)⟩ : S_impl_Watch), enc_bo, fun _ => true⟩ | _ => none
theorem hpc_laws_eqWatch (fu : Nat) : ∀ f xs o, pcf_laws_eqWatch fu f xs = some o → ∀ y, o.x = some y → Good E Tryz.prog f xs (o.g y) := by
  intro f xs o h
  unfold pcf_laws_eqWatch at h
  split at h
  · exact good_laws_eqConfig fu xs o h
  · cases h
theorem hpx_laws_eqWatch (fu : Nat) : ∀ f xs ins o, pcx_laws_eqWatch fu f xs ins = some o → ∀ y, o.x = some y → GoodX E Tryz.prog f xs ins (o.g y).1 (o.g y).2 := by
  intro f xs ins o h
  cases h
theorem goodv_laws_eqWatch (fu : Nat) (a_0 : S_impl_Watch) (b_1 : S_impl_Watch) (y : Bool) (hy : F_laws_eqWatch fu a_0 b_1 = some y) : Good E Tryz.prog 31 [(.agg [(.bool a_0.Ready), (.int .i64 a_0.Config.Version), (.rs a_0.Config.Backends.z .impl_Backend a_0.Config.Backends.n a_0.Config.Backends.f), (.rs a_0.Config.Vips.z .impl_Vip a_0.Config.Vips.n a_0.Config.Vips.f)]), (.agg [(.bool b_1.Ready), (.int .i64 b_1.Config.Version), (.rs b_1.Config.Backends.z .impl_Backend b_1.Config.Backends.n b_1.Config.Backends.f), (.rs b_1.Config.Vips.z .impl_Vip b_1.Config.Vips.n b_1.Config.Vips.f)])] (enc_bo y) :=
  fun_good E_ok (pc_good (pc := pc_laws_eqWatch fu) (hpc_laws_eqWatch fu) (hpx_laws_eqWatch fu)) (fn := Tryz.f31) (c := body_laws_eqWatch) (out := out_bo) (y := y) (by kernel_rfl) (by kernel_rfl) (by kernel_rfl) (lpok_laws_eqWatch fu) (fun d hd => out_bo_enc d _ hd) ((ev_laws_eqWatch fu a_0 b_1).trans hy)
theorem good_laws_eqWatch (fu : Nat) : ∀ xs o, S_laws_eqWatch fu xs = some o → ∀ y, o.x = some y → Good E Tryz.prog 31 xs (o.g y) := by
  intro xs o h y hy
  unfold S_laws_eqWatch at h
  split at h
  · rename_i a0_1 a0_3 za0_4 na0_4 fa0_4 za0_5 na0_5 fa0_5 a1_1 a1_3 za1_4 na1_4 fa1_4 za1_5 na1_5 fa1_5
    cases h
    exact goodv_laws_eqWatch fu (⟨a0_1, (⟨a0_3, (⟨za0_4, na0_4, fa0_4⟩ : (Sl S_impl_Backend)), (⟨za0_5, na0_5, fa0_5⟩ : (Sl S_impl_Vip))⟩ : S_impl_Config)⟩ : S_impl_Watch) (⟨a1_1, (⟨a1_3, (⟨za1_4, na1_4, fa1_4⟩ : (Sl S_impl_Backend)), (⟨za1_5, na1_5, fa1_5⟩ : (Sl S_impl_Vip))⟩ : S_impl_Config)⟩ : S_impl_Watch) y hy
  · cases h

/-! laws.eqInt64SS -/
def F_laws_eqInt64SS_B0 {ρ : Type} (fu : Nat) (a0_0 : (Sl (Sl Int))) (b1_1 : (Sl (Sl Int))) (k0 : Option ρ) (k1 : Option ρ) (i5_2 : Int) (go : Int → Option ρ) : Option ρ :=
  (bif (decide (i5_2 < ((a0_0.n : Nat) : Int))) then ((bif (decide (0 ≤ i5_2) && decide ((Int.toNat i5_2) < a0_0.n)) then some () else none : Option Unit).bind fun _ => ((bif (decide (0 ≤ i5_2) &&
    decide ((Int.toNat i5_2) < b1_1.n)) then some () else none : Option Unit).bind fun _ => ((F_laws_eqInt64S fu (a0_0.f (Int.toNat i5_2)) (b1_1.f (Int.toNat i5_2))).bind fun y366 =>
    (bif (!y366) then k0 else (go (IntKind.wrap .i64 (i5_2 + 1))))))) else k1)
def F_laws_eqInt64SS (fu : Nat) (a_0 : (Sl (Sl Int))) (b_1 : (Sl (Sl Int))) : Option (Bool) :=
  (bif (((a_0.n : Nat) : Int) != ((b_1.n : Nat) : Int)) then (some false) else (L (fun w0 go0 => F_laws_eqInt64SS_B0 fu a_0 b_1 (some false) (some true) w0 go0) fu (0 : Int)))
def pcf_laws_eqInt64SS (fu : Nat) (f : Nat) (xs : List (D RT den)) : Option (Out RT den) := match f with | 58 => S_laws_eqInt64S fu xs | _ => none
def pcx_laws_eqInt64SS (fu : Nat) (f : Nat) (xs : List (D RT den)) (ins : List (Ob RT den)) : Option (OutX RT den) := none
def pc_laws_eqInt64SS (fu : Nat) : Pc RT den := ⟨pcf_laws_eqInt64SS fu, fun _ => false, fun _ => false, pcx_laws_eqInt64SS fu⟩
def msk_laws_eqInt64SS (b : Nat) : List Nat := match b with | 0 => [2, 3, 4, 6, 7, 8, 9, 10, 11, 12, 13, 14, 15, 16, 17, 18, 19, 20, 21, 22, 23, 24, 25, 26] | 100000 => [0, 1, 2, 3, 5, 6, 7, 8, 9, 10, 11, 12, 13, 14, 15, 16, 17, 18, 19, 20, 21, 22, 23, 24, 25, 26] | _ => []
def ps_laws_eqInt64SS_0 : List (Pat RT) := [.flat (.rs .sl_i64), .flat (.rs .sl_i64), .flat .dead, .flat .dead, .flat .dead, .flat (.int .i64), .flat .dead, .flat .dead, .flat .dead, .flat .dead, .flat .dead, .flat .dead, .flat .dead, .flat .dead, .flat .dead, .flat .dead, .flat .dead, .flat .dead, .flat .dead, .flat .dead, .flat .dead, .flat .dead, .flat .dead, .flat .dead, .flat .dead, .flat .dead, .flat .dead]
def os_laws_eqInt64SS_0 : List (OP RT) := []
def conv_laws_eqInt64SS_0 (r : Raw den ps_laws_eqInt64SS_0 os_laws_eqInt64SS_0) : ((Sl (Sl Int)) × (Sl (Sl Int))) × (Int) := ((r.1.1, r.1.2.1), r.1.2.2.2.2.2.1)
def back_laws_eqInt64SS_0 (c : (Sl (Sl Int)) × (Sl (Sl Int))) (w : Int) : St RT den := ⟨[(.rs c.1.z .sl_i64 c.1.n c.1.f), (.rs c.2.z .sl_i64 c.2.n c.2.f), .dead, .dead, .dead, (.int .i64 w), .dead, .dead, .dead, .dead, .dead, .dead, .dead, .dead, .dead, .dead, .dead, .dead, .dead, .dead, .dead, .dead, .dead, .dead, .dead, .dead, .dead], []⟩
def Bk_laws_eqInt64SS_0 {ρ : Type} (fu : Nat) (c : (Sl (Sl Int)) × (Sl (Sl Int))) (k : Ex → St RT den → Option ρ) (w : Int) (go : (Int) → Option ρ) : Option ρ := F_laws_eqInt64SS_B0 fu c.1 c.2 (k .ret ⟨[.dead, .dead, .dead, .dead, (.bool false), .dead, .dead, .dead, .dead, .dead, .dead, .dead, .dead, .dead, .dead, .dead, .dead, .dead, .dead, .dead, .dead, .dead, .dead, .dead, .dead, .dead, .dead], []⟩) (k (.exit 0) ⟨[.dead, .dead, .dead, .dead, .dead, .dead, .dead, .dead, .dead, .dead, .dead, .dead, .dead, .dead, .dead, .dead, .dead, .dead, .dead, .dead, .dead, .dead, .dead, .dead, .dead, .dead, .dead], []⟩) w go
def lp_laws_eqInt64SS (fu : Nat) : Lp RT den (Bool) := fun b s k => match b with | 0 => handle ps_laws_eqInt64SS_0 os_laws_eqInt64SS_0 conv_laws_eqInt64SS_0 (Bk_laws_eqInt64SS_0 fu) fu s k | _ => none
theorem ev_laws_eqInt64SS (fu : Nat) (a_0 : (Sl (Sl Int))) (b_1 : (Sl (Sl Int))) : evFun E (pc_laws_eqInt64SS fu) msk_laws_eqInt64SS (lp_laws_eqInt64SS fu) out_bo 32 [(.rs a_0.z .sl_i64 a_0.n a_0.f), (.rs b_1.z .sl_i64 b_1.n b_1.f)] = F_laws_eqInt64SS fu a_0 b_1 := by kernel_rfl
noncomputable def body_laws_eqInt64SS : Code := Tryz.f32.body.getD .skip
noncomputable def lc_laws_eqInt64SS_0 : Code := ((loops 0 body_laws_eqInt64SS).getD 0 (0, .skip)).2
theorem round_laws_eqInt64SS_0 (fu : Nat) (it : St RT den → Option (Bool)) (k : Ex → St RT den → Option (Bool)) c w : evCode E (pc_laws_eqInt64SS fu) msk_laws_eqInt64SS (lp_laws_eqInt64SS fu) 0 lc_laws_eqInt64SS_0 (back_laws_eqInt64SS_0 c w) (after (msk_laws_eqInt64SS 0) (msk_laws_eqInt64SS 100000) 0 it k) = Bk_laws_eqInt64SS_0 fu c k w (fun w => it (back_laws_eqInt64SS_0 c w)) := by kernel_rfl
theorem lpok_laws_eqInt64SS_0 (fu : Nat) : ∀ s k r, lp_laws_eqInt64SS fu 0 s k = some r → ∃ fuel, iter (msk_laws_eqInt64SS 0) (msk_laws_eqInt64SS 100000) s.objs.length (evCode E (pc_laws_eqInt64SS fu) msk_laws_eqInt64SS (lp_laws_eqInt64SS fu) 0 lc_laws_eqInt64SS_0) fuel s k = some r :=
  handle_ok (ps := ps_laws_eqInt64SS_0) (os := os_laws_eqInt64SS_0) (conv := conv_laws_eqInt64SS_0) (B := Bk_laws_eqInt64SS_0 fu) (fu := fu) back_laws_eqInt64SS_0 (fun raw => by kernel_rfl) 0 (fun c w => by kernel_rfl) (round_laws_eqInt64SS_0 fu)
theorem lpok_laws_eqInt64SS (fu : Nat) : LpOk E (pc_laws_eqInt64SS fu) msk_laws_eqInt64SS (lp_laws_eqInt64SS fu) (loops 0 body_laws_eqInt64SS) := loop_all 1 (by kernel_rfl) fun i hi => match i, hi with
  | 0, _ => by
    have h : (loops 0 body_laws_eqInt64SS).getD 0 (0, .skip) = (0, lc_laws_eqInt64SS_0) := by kernel_rfl
    rw [h]; exact lpok_laws_eqInt64SS_0 fu
  | i + 1, hi => absurd hi (by omega)
def S_laws_eqInt64SS (fu : Nat) (xs : List (D RT den)) : Option (Out RT den) := match xs with | [.rs za0_0 .sl_i64 na0_0 fa0_0, .rs za1_0 .sl_i64 na1_0 fa1_0] => some ⟨Bool, F_laws_eqInt64SS fu (⟨za0_0, na0_0, fa0_0⟩ : (Sl (Sl Int))) (⟨za1_0, na1_0, fa1_0⟩ : (Sl (Sl Int))), enc_bo, fun _ => true⟩ | _ => none
theorem hpc_laws_eqInt64SS (fu : Nat) : ∀ f xs o, pcf_laws_eqInt64SS fu f xs = some o → ∀ y, o.x = some y → Good E Tryz.prog f xs (o.g y) := by
  intro f xs o h
  unfold pcf_laws_eqInt64SS at h
  split at h
  · exact good_laws_eqInt64S fu xs o h
  · cases h
theorem hpx_laws_eqInt64SS (fu : Nat) : ∀ f xs ins o, pcx_laws_eqInt64SS fu f xs ins = some o → ∀ y, o.x = some y → GoodX E Tryz.prog f xs ins (o.g y).1 (o.g y).2 := by
  intro f xs ins o h
  cases h
theorem goodv_laws_eqInt64SS (fu : Nat) (a_0 : (Sl (Sl Int))) (b_1 : (Sl (Sl Int))) (y : Bool) (hy : F_laws_eqInt64SS fu a_0 b_1 = some y) : Good E Tryz.prog 32 [(.rs a_0.z .sl_i64 a_0.n a_0.f), (.rs b_1.z .sl_i64 b_1.n b_1.f)] (enc_bo y) :=
  fun_good E_ok (pc_good (pc := pc_laws_eqInt64SS fu) (hpc_laws_eqInt64SS fu) (hpx_laws_eqInt64SS fu)) (fn := Tryz.f32) (c := body_laws_eqInt64SS) (out := out_bo) (y := y) (by kernel_rfl) (by kernel_rfl) (by kernel_rfl) (lpok_laws_eqInt64SS fu) (fun d hd => out_bo_enc d _ hd) ((ev_laws_eqInt64SS fu a_0 b_1).trans hy)
theorem good_laws_eqInt64SS (fu : Nat) : ∀ xs o, S_laws_eqInt64SS fu xs = some o → ∀ y, o.x = some y → Good E Tryz.prog 32 xs (o.g y) := by
  intro xs o h y hy
  unfold S_laws_eqInt64SS at h
  split at h
  · rename_i za0_0 na0_0 fa0_0 za1_0 na1_0 fa1_0
    cases h
    exact goodv_laws_eqInt64SS fu (⟨za0_0, na0_0, fa0_0⟩ : (Sl (Sl Int))) (⟨za1_0, na1_0, fa1_0⟩ : (Sl (Sl Int))) y hy
  · cases h

/-! laws.eqFlow -/
def F_laws_eqFlow (fu : Nat) (a_0 : S_impl_Flow) (b_1 : S_impl_Flow) : Option (Bool) :=
  (bif (a_0.From != b_1.From) then (some false) else (bif (a_0.To != b_1.To) then (some false) else (bif (a_0.Proto != b_1.Proto) then (some false) else (bif (a_0.FromP != b_1.FromP) then
    (some false) else (bif (a_0.ToP != b_1.ToP) then (some false) else (some true))))))
def pcf_laws_eqFlow (fu : Nat) (f : Nat) (xs : List (D RT den)) : Option (Out RT den) := none
def pcx_laws_eqFlow (fu : Nat) (f : Nat) (xs : List (D RT den)) (ins : List (Ob RT den)) : Option (OutX RT den) := none
def pc_laws_eqFlow (fu : Nat) : Pc RT den := ⟨pcf_laws_eqFlow fu, fun _ => false, fun _ => false, pcx_laws_eqFlow fu⟩
def msk_laws_eqFlow (b : Nat) : List Nat := []
def lp_laws_eqFlow (fu : Nat) : Lp RT den (Bool) := fun b s k => none
theorem ev_laws_eqFlow (fu : Nat) (a_0 : S_impl_Flow) (b_1 : S_impl_Flow) : evFun E (pc_laws_eqFlow fu) msk_laws_eqFlow (lp_laws_eqFlow fu) out_bo 87 [(.agg [(.int .i64 a_0.From), (.int .i64 a_0.To), (.int .i64 a_0.Proto), (.int .i64 a_0.FromP), (.int .i64 a_0.ToP)]), (.agg [(.int .i64 b_1.From), (.int .i64 b_1.To), (.int .i64 b_1.Proto), (.int .i64 b_1.FromP), (.int .i64 b_1.ToP)])] = F_laws_eqFlow fu a_0 b_1 := by kernel_rfl
noncomputable def body_laws_eqFlow : Code := Tryz.f87.body.getD .skip
theorem lpok_laws_eqFlow (fu : Nat) : LpOk E (pc_laws_eqFlow fu) msk_laws_eqFlow (lp_laws_eqFlow fu) (loops 0 body_laws_eqFlow) := by
  have h : loops 0 body_laws_eqFlow = [] := by kernel_rfl
  rw [h]; intro p hp; cases hp
def S_laws_eqFlow (fu : Nat) (xs : List (D RT den)) : Option (Out RT den) := match xs with | [.agg [.int .i64 a0_1, .int .i64 a0_2, .int .i64 a0_3, .int .i64 a0_4, .int .i64 a0_5], .agg [.int .i64 a1_1, .int .i64 a1_2, .int .i64 a1_3, .int .i64 a1_4, .int .i64 a1_5]] => some ⟨Bool, F_laws_eqFlow fu (⟨a0_1, a0_2, a0_3, a0_4, a0_5⟩ : S_impl_Flow) (⟨a1_1, a1_2, a1_3, a1_4, a1_5⟩ : S_impl_Flow), enc_bo, fun _ => true⟩ | _ => none
theorem hpc_laws_eqFlow (fu : Nat) : ∀ f xs o, pcf_laws_eqFlow fu f xs = some o → ∀ y, o.x = some y → Good E Tryz.prog f xs (o.g y) := by
  intro f xs o h
  cases h
theorem hpx_laws_eqFlow (fu : Nat) : ∀ f xs ins o, pcx_laws_eqFlow fu f xs ins = some o → ∀ y, o.x = some y → GoodX E Tryz.prog f xs ins (o.g y).1 (o.g y).2 := by
  intro f xs ins o h
  cases h
theorem goodv_laws_eqFlow (fu : Nat) (a_0 : S_impl_Flow) (b_1 : S_impl_Flow) (y : Bool) (hy : F_laws_eqFlow fu a_0 b_1 = some y) : Good E Tryz.prog 87 [(.agg [(.int .i64 a_0.From), (.int .i64 a_0.To), (.int .i64 a_0.Proto), (.int .i64 a_0.FromP), (.int .i64 a_0.ToP)]), (.agg [(.int .i64 b_1.From), (.int .i64 b_1.To), (.int .i64 b_1.Proto), (.int .i64 b_1.FromP), (.int .i64 b_1.ToP)])] (enc_bo y) :=
  fun_good E_ok (pc_good (pc := pc_laws_eqFlow fu) (hpc_laws_eqFlow fu) (hpx_laws_eqFlow fu)) (fn := Tryz.f87) (c := body_laws_eqFlow) (out := out_bo) (y := y) (by kernel_rfl) (by kernel_rfl) (by kernel_rfl) (lpok_laws_eqFlow fu) (fun d hd => out_bo_enc d _ hd) ((ev_laws_eqFlow fu a_0 b_1).trans hy)
theorem good_laws_eqFlow (fu : Nat) : ∀ xs o, S_laws_eqFlow fu xs = some o → ∀ y, o.x = some y → Good E Tryz.prog 87 xs (o.g y) := by
  intro xs o h y hy
  unfold S_laws_eqFlow at h
  split at h
  · rename_i a0_1 a0_2 a0_3 a0_4 a0_5 a1_1 a1_2 a1_3 a1_4 a1_5
    cases h
    exact goodv_laws_eqFlow fu (⟨a0_1, a0_2, a0_3, a0_4, a0_5⟩ : S_impl_Flow) (⟨a1_1, a1_2, a1_3, a1_4, a1_5⟩ : S_impl_Flow) y hy
  · cases h

/-! laws.eqHeld -/
def F_laws_eqHeld (fu : Nat) (a_0 : S_impl_Held) (b_1 : S_impl_Held) : Option (Bool) :=
  ((F_laws_eqFlow fu a_0.Flow b_1.Flow).bind fun y368 => (bif (!y368) then (some false) else (bif (a_0.Name != b_1.Name) then (some false) else (bif (a_0.Seen != b_1.Seen) then
    (some false) else (some true)))))
def pcf_laws_eqHeld (fu : Nat) (f : Nat) (xs : List (D RT den)) : Option (Out RT den) := match f with | 87 => S_laws_eqFlow fu xs | _ => none
def pcx_laws_eqHeld (fu : Nat) (f : Nat) (xs : List (D RT den)) (ins : List (Ob RT den)) : Option (OutX RT den) := none
def pc_laws_eqHeld (fu : Nat) : Pc RT den := ⟨pcf_laws_eqHeld fu, fun _ => false, fun _ => false, pcx_laws_eqHeld fu⟩
def msk_laws_eqHeld (b : Nat) : List Nat := []
def lp_laws_eqHeld (fu : Nat) : Lp RT den (Bool) := fun b s k => none
theorem ev_laws_eqHeld (fu : Nat) (a_0 : S_impl_Held) (b_1 : S_impl_Held) : evFun E (pc_laws_eqHeld fu) msk_laws_eqHeld (lp_laws_eqHeld fu) out_bo 59 [(.agg [(.int .i64 a_0.Flow.From), (.int .i64 a_0.Flow.To), (.int .i64 a_0.Flow.Proto), (.int .i64 a_0.Flow.FromP), (.int .i64 a_0.Flow.ToP), (.int .i64 a_0.Name), (.int .i64 a_0.Seen)]), (.agg [(.int .i64 b_1.Flow.From), (.int .i64 b_1.Flow.To), (.int .i64 b_1.Flow.Proto), (.int .i64 b_1.Flow.FromP), (.int .i64 b_1.Flow.ToP), (.int .i64 b_1.Name), (.int .i64 b_1.Seen)])] = F_laws_eqHeld fu a_0 b_1 := by kernel_rfl
noncomputable def body_laws_eqHeld : Code := Tryz.f59.body.getD .skip
theorem lpok_laws_eqHeld (fu : Nat) : LpOk E (pc_laws_eqHeld fu) msk_laws_eqHeld (lp_laws_eqHeld fu) (loops 0 body_laws_eqHeld) := by
  have h : loops 0 body_laws_eqHeld = [] := by kernel_rfl
  rw [h]; intro p hp; cases hp
def S_laws_eqHeld (fu : Nat) (xs : List (D RT den)) : Option (Out RT den) := match xs with | [.agg [.int .i64 a0_2, .int .i64 a0_3, .int .i64 a0_4, .int .i64 a0_5, .int .i64 a0_6, .int .i64 a0_7, .int .i64 a0_8], .agg [.int .i64 a1_2, .int .i64 a1_3, .int .i64 a1_4, .int .i64 a1_5, .int .i64 a1_6, .int .i64 a1_7, .int .i64 a1_8]] => some ⟨Bool, F_laws_eqHeld fu (⟨(⟨a0_2, a0_3, a0_4, a0_5, a0_6⟩ : S_impl_Flow), a0_7, a0_8⟩ : S_impl_Held) (⟨(⟨a1_2, a1_3, a1_4, a1_5, a1_6⟩ : S_impl_Flow), a1_7, a1_8⟩ : S_impl_Held), enc_bo, fun _ => true⟩ | _ => none
theorem hpc_laws_eqHeld (fu : Nat) : ∀ f xs o, pcf_laws_eqHeld fu f xs = some o → ∀ y, o.x = some y → Good E Tryz.prog f xs (o.g y) := by
  intro f xs o h
  unfold pcf_laws_eqHeld at h
  split at h
  · exact good_laws_eqFlow fu xs o h
  · cases h
theorem hpx_laws_eqHeld (fu : Nat) : ∀ f xs ins o, pcx_laws_eqHeld fu f xs ins = some o → ∀ y, o.x = some y → GoodX E Tryz.prog f xs ins (o.g y).1 (o.g y).2 := by
  intro f xs ins o h
  cases h
theorem goodv_laws_eqHeld (fu : Nat) (a_0 : S_impl_Held) (b_1 : S_impl_Held) (y : Bool) (hy : F_laws_eqHeld fu a_0 b_1 = some y) : Good E Tryz.prog 59 [(.agg [(.int .i64 a_0.Flow.From), (.int .i64 a_0.Flow.To), (.int .i64 a_0.Flow.Proto), (.int .i64 a_0.Flow.FromP), (.int .i64 a_0.Flow.ToP), (.int .i64 a_0.Name), (.int .i64 a_0.Seen)]), (.agg [(.int .i64 b_1.Flow.From), (.int .i64 b_1.Flow.To), (.int .i64 b_1.Flow.Proto), (.int .i64 b_1.Flow.FromP), (.int .i64 b_1.Flow.ToP), (.int .i64 b_1.Name), (.int .i64 b_1.Seen)])] (enc_bo y) :=
  fun_good E_ok (pc_good (pc := pc_laws_eqHeld fu) (hpc_laws_eqHeld fu) (hpx_laws_eqHeld fu)) (fn := Tryz.f59) (c := body_laws_eqHeld) (out := out_bo) (y := y) (by kernel_rfl) (by kernel_rfl) (by kernel_rfl) (lpok_laws_eqHeld fu) (fun d hd => out_bo_enc d _ hd) ((ev_laws_eqHeld fu a_0 b_1).trans hy)
theorem good_laws_eqHeld (fu : Nat) : ∀ xs o, S_laws_eqHeld fu xs = some o → ∀ y, o.x = some y → Good E Tryz.prog 59 xs (o.g y) := by
  intro xs o h y hy
  unfold S_laws_eqHeld at h
  split at h
  · rename_i a0_2 a0_3 a0_4 a0_5 a0_6 a0_7 a0_8 a1_2 a1_3 a1_4 a1_5 a1_6 a1_7 a1_8
    cases h
    exact goodv_laws_eqHeld fu (⟨(⟨a0_2, a0_3, a0_4, a0_5, a0_6⟩ : S_impl_Flow), a0_7, a0_8⟩ : S_impl_Held) (⟨(⟨a1_2, a1_3, a1_4, a1_5, a1_6⟩ : S_impl_Flow), a1_7, a1_8⟩ : S_impl_Held) y hy
  · cases h

/-! laws.eqHeldS -/
def F_laws_eqHeldS_B0 {ρ : Type} (fu : Nat) (a0_0 : (Sl S_impl_Held)) (b1_1 : (Sl S_impl_Held)) (k0 : Option ρ) (k1 : Option ρ) (i5_2 : Int) (go : Int → Option ρ) : Option ρ :=
  (bif (decide (i5_2 < ((a0_0.n : Nat) : Int))) then ((bif (decide (0 ≤ i5_2) && decide ((Int.toNat i5_2) < a0_0.n)) then some () else none : Option Unit).bind fun _ => ((bif (decide (0 ≤ i5_2) &&
    decide ((Int.toNat i5_2) < b1_1.n)) then some () else none : Option Unit).bind fun _ => ((F_laws_eqHeld fu (a0_0.f (Int.toNat i5_2)) (b1_1.f (Int.toNat i5_2))).bind fun y367 =>
    (bif (!y367) then k0 else (go (IntKind.wrap .i64 (i5_2 + 1))))))) else k1)
def F_laws_eqHeldS (fu : Nat) (a_0 : (Sl S_impl_Held)) (b_1 : (Sl S_impl_Held)) : Option (Bool) :=
  (bif (((a_0.n : Nat) : Int) != ((b_1.n : Nat) : Int)) then (some false) else (L (fun w0 go0 => F_laws_eqHeldS_B0 fu a_0 b_1 (some false) (some true) w0 go0) fu (0 : Int)))
def pcf_laws_eqHeldS (fu : Nat) (f : Nat) (xs : List (D RT den)) : Option (Out RT den) := match f with | 59 => S_laws_eqHeld fu xs | _ => none
def pcx_laws_eqHeldS (fu : Nat) (f : Nat) (xs : List (D RT den)) (ins : List (Ob RT den)) : Option (OutX RT den) := none
def pc_laws_eqHeldS (fu : Nat) : Pc RT den := ⟨pcf_laws_eqHeldS fu, fun _ => false, fun _ => false, pcx_laws_eqHeldS fu⟩
def msk_laws_eqHeldS (b : Nat) : List Nat := match b with | 0 => [2, 3, 4, 6, 7, 8, 9, 10, 11, 12, 13, 14, 15, 16, 17, 18, 19, 20, 21, 22, 23, 24, 25, 26] | 100000 => [0, 1, 2, 3, 5, 6, 7, 8, 9, 10, 11, 12, 13, 14, 15, 16, 17, 18, 19, 20, 21, 22, 23, 24, 25, 26] | _ => []
def ps_laws_eqHeldS_0 : List (Pat RT) := [.flat (.rs .impl_Held), .flat (.rs .impl_Held), .flat .dead, .flat .dead, .flat .dead, .flat (.int .i64), .flat .dead, .flat .dead, .flat .dead, .flat .dead, .flat .dead, .flat .dead, .flat .dead, .flat .dead, .flat .dead, .flat .dead, .flat .dead, .flat .dead, .flat .dead, .flat .dead, .flat .dead, .flat .dead, .flat .dead, .flat .dead, .flat .dead, .flat .dead, .flat .dead]
def os_laws_eqHeldS_0 : List (OP RT) := []
def conv_laws_eqHeldS_0 (r : Raw den ps_laws_eqHeldS_0 os_laws_eqHeldS_0) : ((Sl S_impl_Held) × (Sl S_impl_Held)) × (Int) := ((r.1.1, r.1.2.1), r.1.2.2.2.2.2.1)
def back_laws_eqHeldS_0 (c : (Sl S_impl_Held) × (Sl S_impl_Held)) (w : Int) : St RT den := ⟨[(.rs c.1.z .impl_Held c.1.n c.1.f), (.rs c.2.z .impl_Held c.2.n c.2.f), .dead, .dead, .dead, (.int .i64 w), .dead, .dead, .dead, .dead, .dead, .dead, .dead, .dead, .dead, .dead, .dead, .dead, .dead, .dead, .dead, .dead, .dead, .dead, .dead, .dead, .dead], []⟩
def Bk_laws_eqHeldS_0 {ρ : Type} (fu : Nat) (c : (Sl S_impl_Held) × (Sl S_impl_Held)) (k : Ex → St RT den → Option ρ) (w : Int) (go : (Int) → Option ρ) : Option ρ := F_laws_eqHeldS_B0 fu c.1 c.2 (k .ret ⟨[.dead, .dead, .dead, .dead, (.bool false), .dead, .dead, .dead, .dead, .dead, .dead, .dead, .dead, .dead, .dead, .dead, .dead, .dead, .dead, .dead, .dead, .dead, .dead, .dead, .dead, .dead, .dead], []⟩) (k (.exit 0) ⟨[.dead, .dead, .dead, .dead, .dead, .dead, .dead, .dead, .dead, .dead, .dead, .dead, .dead, .dead, .dead, .dead, .dead, .dead, .dead, .dead, .dead, .dead, .dead, .dead, .dead, .dead, .dead], []⟩) w go
def lp_laws_eqHeldS (fu : Nat) : Lp RT den (Bool) := fun b s k => match b with | 0 => handle ps_laws_eqHeldS_0 os_laws_eqHeldS_0 conv_laws_eqHeldS_0 (Bk_laws_eqHeldS_0 fu) fu s k | _ => none
theorem ev_laws_eqHeldS (fu : Nat) (a_0 : (Sl S_impl_Held)) (b_1 : (Sl S_impl_Held)) : evFun E (pc_laws_eqHeldS fu) msk_laws_eqHeldS (lp_laws_eqHeldS fu) out_bo 33 [(.rs a_0.z .impl_Held a_0.n a_0.f), (.rs b_1.z .impl_Held b_1.n b_1.f)] = F_laws_eqHeldS fu a_0 b_1 := by kernel_rfl
noncomputable def body_laws_eqHeldS : Code := Tryz.f33.body.getD .skip
noncomputable def lc_laws_eqHeldS_0 : Code := ((loops 0 body_laws_eqHeldS).getD 0 (0, .skip)).2
theorem round_laws_eqHeldS_0 (fu : Nat) (it : St RT den → Option (Bool)) (k : Ex → St RT den → Option (Bool)) c w : evCode E (pc_laws_eqHeldS fu) msk_laws_eqHeldS (lp_laws_eqHeldS fu) 0 lc_laws_eqHeldS_0 (back_laws_eqHeldS_0 c w) (after (msk_laws_eqHeldS 0) (msk_laws_eqHeldS 100000) 0 it k) = Bk_laws_eqHeldS_0 fu c k w (fun w => it (back_laws_eqHeldS_0 c w)) := by kernel_rfl
theorem lpok_laws_eqHeldS_0 (fu : Nat) : ∀ s k r, lp_laws_eqHeldS fu 0 s k = some r → ∃ fuel, iter (msk_laws_eqHeldS 0) (msk_laws_eqHeldS 100000) s.objs.length (evCode E (pc_laws_eqHeldS fu) msk_laws_eqHeldS (lp_laws_eqHeldS fu) 0 lc_laws_eqHeldS_0) fuel s k = some r :=
  handle_ok (ps := ps_laws_eqHeldS_0) (os := os_laws_eqHeldS_0) (conv := conv_laws_eqHeldS_0) (B := Bk_laws_eqHeldS_0 fu) (fu := fu) back_laws_eqHeldS_0 (fun raw => by kernel_rfl) 0 (fun c w => by kernel_rfl) (round_laws_eqHeldS_0 fu)
theorem lpok_laws_eqHeldS (fu : Nat) : LpOk E (pc_laws_eqHeldS fu) msk_laws_eqHeldS (lp_laws_eqHeldS fu) (loops 0 body_laws_eqHeldS) := loop_all 1 (by kernel_rfl) fun i hi => match i, hi with
  | 0, _ => by
    have h : (loops 0 body_laws_eqHeldS).getD 0 (0, .skip) = (0, lc_laws_eqHeldS_0) := by kernel_rfl
    rw [h]; exact lpok_laws_eqHeldS_0 fu
  | i + 1, hi => absurd hi (by omega)
def S_laws_eqHeldS (fu : Nat) (xs : List (D RT den)) : Option (Out RT den) := match xs with | [.rs za0_0 .impl_Held na0_0 fa0_0, .rs za1_0 .impl_Held na1_0 fa1_0] => some ⟨Bool, F_laws_eqHeldS fu (⟨za0_0, na0_0, fa0_0⟩ : (Sl S_impl_Held)) (⟨za1_0, na1_0, fa1_0⟩ : (Sl S_impl_Held)), enc_bo, fun _ => true⟩ | _ => none
theorem hpc_laws_eqHeldS (fu : Nat) : ∀ f xs o, pcf_laws_eqHeldS fu f xs = some o → ∀ y, o.x = some y → Good E Tryz.prog f xs (o.g y) := by
  intro f xs o h
  unfold pcf_laws_eqHeldS at h
  split at h
  · exact good_laws_eqHeld fu xs o h
  · cases h
theorem hpx_laws_eqHeldS (fu : Nat) : ∀ f xs ins o, pcx_laws_eqHeldS fu f xs ins = some o → ∀ y, o.x = some y → GoodX E Tryz.prog f xs ins (o.g y).1 (o.g y).2 := by
  intro f xs ins o h
  cases h
theorem goodv_laws_eqHeldS (fu : Nat) (a_0 : (Sl S_impl_Held)) (b_1 : (Sl S_impl_Held)) (y : Bool) (hy : F_laws_eqHeldS fu a_0 b_1 = some y) : Good E Tryz.prog 33 [(.rs a_0.z .impl_Held a_0.n a_0.f), (.rs b_1.z .impl_Held b_1.n b_1.f)] (enc_bo y) :=
  fun_good E_ok (pc_good (pc := pc_laws_eqHeldS fu) (hpc_laws_eqHeldS fu) (hpx_laws_eqHeldS fu)) (fn := Tryz.f33) (c := body_laws_eqHeldS) (out := out_bo) (y := y) (by kernel_rfl) (by kernel_rfl) (by kernel_rfl) (lpok_laws_eqHeldS fu) (fun d hd => out_bo_enc d _ hd) ((ev_laws_eqHeldS fu a_0 b_1).trans hy)
theorem good_laws_eqHeldS (fu : Nat) : ∀ xs o, S_laws_eqHeldS fu xs = some o → ∀ y, o.x = some y → Good E Tryz.prog 33 xs (o.g y) := by
  intro xs o h y hy
  unfold S_laws_eqHeldS at h
  split at h
  · rename_i za0_0 na0_0 fa0_0 za1_0 na1_0 fa1_0
    cases h
    exact goodv_laws_eqHeldS fu (⟨za0_0, na0_0, fa0_0⟩ : (Sl S_impl_Held)) (⟨za1_0, na1_0, fa1_0⟩ : (Sl S_impl_Held)) y hy
  · cases h

/-! laws.eqMux -/
def F_laws_eqMux (fu : Nat) (a_0 : S_impl_Mux) (b_1 : S_impl_Mux) : Option (Bool) :=
  (bif (a_0.Address != b_1.Address) then (some false) else (bif (a_0.Now != b_1.Now) then (some false) else ((F_laws_eqWatch fu a_0.Watch b_1.Watch).bind fun y357 => (bif (!y357) then
    (some false) else ((F_laws_eqInt64SS fu a_0.Tables b_1.Tables).bind fun y358 => (bif (!y358) then (some false) else ((F_laws_eqHeldS fu a_0.Cache b_1.Cache).bind fun y359 =>
    (bif (!y359) then (some false) else (some true)))))))))
def pcf_laws_eqMux (fu : Nat) (f : Nat) (xs : List (D RT den)) : Option (Out RT den) := match f with | 31 => S_laws_eqWatch fu xs | 32 => S_laws_eqInt64SS fu xs | 33 => S_laws_eqHeldS fu xs | _ => none
def pcx_laws_eqMux (fu : Nat) (f : Nat) (xs : List (D RT den)) (ins : List (Ob RT den)) : Option (OutX RT den) := none
def pc_laws_eqMux (fu : Nat) : Pc RT den := ⟨pcf_laws_eqMux fu, fun _ => false, fun _ => false, pcx_laws_eqMux fu⟩
def msk_laws_eqMux (b : Nat) : List Nat := []
def lp_laws_eqMux (fu : Nat) : Lp RT den (Bool) := fun b s k => none
theorem ev_laws_eqMux (fu : Nat) (a_0 : S_impl_Mux) (b_1 : S_impl_Mux) : evFun E (pc_laws_eqMux fu) msk_laws_eqMux (lp_laws_eqMux fu) out_bo 9 [(.agg [(.int .i64 a_0.Address), (.int .i64 a_0.Now), (.bool a_0.Watch.Ready), (.int .i64 a_0.Watch.Config.Version), (.rs a_0.Watch.Config.Backends.z .impl_Backend a_0.Watch.Config.Backends.n a_0.Watch.Config.Backends.f), (.rs a_0.Watch.Config.Vips.z .impl_Vip a_0.Watch.Config.Vips.n a_0.Watch.Config.Vips.f), (.rs a_0.Tables.z .sl_i64 a_0.Tables.n a_0.Tables.f), (.rs a_0.Cache.z .impl_Held a_0.Cache.n a_0.Cache.f)]), (.agg [(.int .i64 b_1.Address), (.int .i64 b_1.Now), (.bool b_1.Watch.Ready), (.int .i64 b_1.Watch.Config.Version), (.rs b_1.Watch.Config.Backends.z .impl_Backend b_1.Watch.Config.Backends.n b_1.Watch.Config.Backends.f), (.rs b_1.Watch.Config.Vips.z .impl_Vip b_1.Watch.Config.Vips.n b_1.Watch.Config.Vips.f), (.rs b_1.Tables.z .sl_i64 b_1.Tables.n b_1.Tables.f), (.rs b_1.Cache.z .impl_Held b_1.Cache.n b_1.Cache.f)])] = F_laws_eqMux fu a_0 b_1 := by kernel_rfl
noncomputable def body_laws_eqMux : Code := Tryz.f9.body.getD .skip
theorem lpok_laws_eqMux (fu : Nat) : LpOk E (pc_laws_eqMux fu) msk_laws_eqMux (lp_laws_eqMux fu) (loops 0 body_laws_eqMux) := by
  have h : loops 0 body_laws_eqMux = [] := by kernel_rfl
  rw [h]; intro p hp; cases hp
def S_laws_eqMux (fu : Nat) (xs : List (D RT den)) : Option (Out RT den) := match xs with | [.agg [.int .i64 a0_1, .int .i64 a0_2, .bool a0_4, .int .i64 a0_6, .rs za0_7 .impl_Backend na0_7 fa0_7, .rs za0_8 .impl_Vip na0_8 fa0_8, .rs za0_9 .sl_i64 na0_9 fa0_9, .rs za0_10 .impl_Held na0_10 fa0_10], .agg [.int .i64 a1_1, .int .i64 a1_2, .bool a1_4, .int .i64 a1_6, .rs za1_7 .impl_Backend na1_7 fa1_7, .rs za1_8 .impl_Vip na1_8 fa1_8, .rs za1_9 .sl_i64 na1_9 fa1_9, .rs za1_10 .impl_Held na1_10 fa1_10]] => some ⟨Bool, F_laws_eqMux fu (⟨a0_1, a0_2, (⟨a0_4, (⟨a0_6, (⟨za0_7, na0_7, fa0_7⟩ : (Sl S_impl_Backend)), (⟨za0_8, na0_8, fa0_8⟩ : (Sl S_impl_Vip))⟩ : S_impl_Config)⟩ : S_impl_Watch), (⟨za0_9, na0_9, fa0_9⟩ : (Sl (Sl Int))), (⟨za0_10, na0_10, fa0_10⟩ : (Sl S_impl_Held))⟩ : S_impl_Mux) (⟨a1_1, a1_2, (⟨a1_4, (⟨a1_6, (⟨za1_7, na1_7, fa1_7⟩ : (Sl S_impl_Backend)), (⟨za1_8, na1_8, fa1_8⟩ : (Sl S_impl_Vip))⟩ : S_impl_Config)⟩ : S_impl_Watch), (⟨za1_9, na1_9, fa1_9⟩ : (Sl (Sl Int))), (⟨za1_10, na1_10, fa1_10⟩ : (Sl S_impl_Held))⟩ : S_impl_Mux), enc_bo, fun _ => true⟩ | _ => none
theorem hpc_laws_eqMux (fu : Nat) : ∀ f xs o, pcf_laws_eqMux fu f xs = some o → ∀ y, o.x = some y → Good E Tryz.prog f xs (o.g y) := by
  intro f xs o h
  unfold pcf_laws_eqMux at h
  split at h
  · exact good_laws_eqWatch fu xs o h
  · exact good_laws_eqInt64SS fu xs o h
  · exact good_laws_eqHeldS fu xs o h
  · cases h
theorem hpx_laws_eqMux (fu : Nat) : ∀ f xs ins o, pcx_laws_eqMux fu f xs ins = some o → ∀ y, o.x = some y → GoodX E Tryz.prog f xs ins (o.g y).1 (o.g y).2 := by
  intro f xs ins o h
  cases h
theorem goodv_laws_eqMux (fu : Nat) (a_0 : S_impl_Mux) (b_1 : S_impl_Mux) (y : Bool) (hy : F_laws_eqMux fu a_0 b_1 = some y) : Good E Tryz.prog 9 [(.agg [(.int .i64 a_0.Address), (.int .i64 a_0.Now), (.bool a_0.Watch.Ready), (.int .i64 a_0.Watch.Config.Version), (.rs a_0.Watch.Config.Backends.z .impl_Backend a_0.Watch.Config.Backends.n a_0.Watch.Config.Backends.f), (.rs a_0.Watch.Config.Vips.z .impl_Vip a_0.Watch.Config.Vips.n a_0.Watch.Config.Vips.f), (.rs a_0.Tables.z .sl_i64 a_0.Tables.n a_0.Tables.f), (.rs a_0.Cache.z .impl_Held a_0.Cache.n a_0.Cache.f)]), (.agg [(.int .i64 b_1.Address), (.int .i64 b_1.Now), (.bool b_1.Watch.Ready), (.int .i64 b_1.Watch.Config.Version), (.rs b_1.Watch.Config.Backends.z .impl_Backend b_1.Watch.Config.Backends.n b_1.Watch.Config.Backends.f), (.rs b_1.Watch.Config.Vips.z .impl_Vip b_1.Watch.Config.Vips.n b_1.Watch.Config.Vips.f), (.rs b_1.Tables.z .sl_i64 b_1.Tables.n b_1.Tables.f), (.rs b_1.Cache.z .impl_Held b_1.Cache.n b_1.Cache.f)])] (enc_bo y) :=
  fun_good E_ok (pc_good (pc := pc_laws_eqMux fu) (hpc_laws_eqMux fu) (hpx_laws_eqMux fu)) (fn := Tryz.f9) (c := body_laws_eqMux) (out := out_bo) (y := y) (by kernel_rfl) (by kernel_rfl) (by kernel_rfl) (lpok_laws_eqMux fu) (fun d hd => out_bo_enc d _ hd) ((ev_laws_eqMux fu a_0 b_1).trans hy)
theorem good_laws_eqMux (fu : Nat) : ∀ xs o, S_laws_eqMux fu xs = some o → ∀ y, o.x = some y → Good E Tryz.prog 9 xs (o.g y) := by
  intro xs o h y hy
  unfold S_laws_eqMux at h
  split at h
  · rename_i a0_1 a0_2 a0_4 a0_6 za0_7 na0_7 fa0_7 za0_8 na0_8 fa0_8 za0_9 na0_9 fa0_9 za0_10 na0_10 fa0_10 a1_1 a1_2 a1_4 a1_6 za1_7 na1_7 fa1_7 za1_8 na1_8 fa1_8 za1_9 na1_9 fa1_9 za1_10 na1_10 fa1_10
    cases h
    exact goodv_laws_eqMux fu (⟨a0_1, a0_2, (⟨a0_4, (⟨a0_6, (⟨za0_7, na0_7, fa0_7⟩ : (Sl S_impl_Backend)), (⟨za0_8, na0_8, fa0_8⟩ : (Sl S_impl_Vip))⟩ : S_impl_Config)⟩ : S_impl_Watch), (⟨za0_9, na0_9, fa0_9⟩ : (Sl (Sl Int))), (⟨za0_10, na0_10, fa0_10⟩ : (Sl S_impl_Held))⟩ : S_impl_Mux) (⟨a1_1, a1_2, (⟨a1_4, (⟨a1_6, (⟨za1_7, na1_7, fa1_7⟩ : (Sl S_impl_Backend)), (⟨za1_8, na1_8, fa1_8⟩ : (Sl S_impl_Vip))⟩ : S_impl_Config)⟩ : S_impl_Watch), (⟨za1_9, na1_9, fa1_9⟩ : (Sl (Sl Int))), (⟨za1_10, na1_10, fa1_10⟩ : (Sl S_impl_Held))⟩ : S_impl_Mux) y hy
  · cases h

/-! laws.FnExactMuxFault -/
def F_laws_FnExactMuxFault (fu : Nat) (aM_0 : S_laws_Mux) : Option (Bool) :=
  ((F_laws_szMux fu aM_0 1048576).bind fun y1 => (bif (decide (y1 < 0)) then (some true) else ((F_laws_toMux fu aM_0).bind fun y31 => ((F_spec_MuxFault fu y31).bind fun y32 =>
    ((F_laws_toMux fu aM_0).bind fun y33 => ((F_impl_MuxFault fu y33).bind fun y34 => (bif (y34 != y32) then (some false) else ((F_laws_toMux fu aM_0).bind fun y35 => ((F_laws_eqMux fu y33 y35).bind fun y36 =>
    (bif (!y36) then (some false) else (some true)))))))))))
def pcf_laws_FnExactMuxFault (fu : Nat) (f : Nat) (xs : List (D RT den)) : Option (Out RT den) := match f with | 5 => S_laws_szMux fu xs | 6 => S_spec_MuxFault fu xs | 7 => S_laws_toMux fu xs | 8 => S_impl_MuxFault fu xs | 9 => S_laws_eqMux fu xs | _ => none
def pcx_laws_FnExactMuxFault (fu : Nat) (f : Nat) (xs : List (D RT den)) (ins : List (Ob RT den)) : Option (OutX RT den) := none
def pc_laws_FnExactMuxFault (fu : Nat) : Pc RT den := ⟨pcf_laws_FnExactMuxFault fu, fun _ => false, fun _ => false, pcx_laws_FnExactMuxFault fu⟩
def msk_laws_FnExactMuxFault (b : Nat) : List Nat := []
def lp_laws_FnExactMuxFault (fu : Nat) : Lp RT den (Bool) := fun b s k => none
theorem ev_laws_FnExactMuxFault (fu : Nat) (aM_0 : S_laws_Mux) : evFun E (pc_laws_FnExactMuxFault fu) msk_laws_FnExactMuxFault (lp_laws_FnExactMuxFault fu) out_bo 3 [(.agg [(.int .i64 aM_0.Address), (.int .i64 aM_0.Now), (.bool aM_0.Watch.Ready), (.int .i64 aM_0.Watch.Config.Version), (.rs aM_0.Watch.Config.Backends.z .impl_Backend aM_0.Watch.Config.Backends.n aM_0.Watch.Config.Backends.f), (.rs aM_0.Watch.Config.Vips.z .impl_Vip aM_0.Watch.Config.Vips.n aM_0.Watch.Config.Vips.f), (.rs aM_0.Tables.z .sl_i64 aM_0.Tables.n aM_0.Tables.f), (.rs aM_0.Cache.z .laws_Held aM_0.Cache.n aM_0.Cache.f)])] = F_laws_FnExactMuxFault fu aM_0 := by kernel_rfl
noncomputable def body_laws_FnExactMuxFault : Code := Tryz.f3.body.getD .skip
theorem lpok_laws_FnExactMuxFault (fu : Nat) : LpOk E (pc_laws_FnExactMuxFault fu) msk_laws_FnExactMuxFault (lp_laws_FnExactMuxFault fu) (loops 0 body_laws_FnExactMuxFault) := by
  have h : loops 0 body_laws_FnExactMuxFault = [] := by kernel_rfl
  rw [h]; intro p hp; cases hp
def S_laws_FnExactMuxFault (fu : Nat) (xs : List (D RT den)) : Option (Out RT den) := match xs with | [.agg [.int .i64 a0_1, .int .i64 a0_2, .bool a0_4, .int .i64 a0_6, .rs za0_7 .impl_Backend na0_7 fa0_7, .rs za0_8 .impl_Vip na0_8 fa0_8, .rs za0_9 .sl_i64 na0_9 fa0_9, .rs za0_10 .laws_Held na0_10 fa0_10]] => some ⟨Bool, F_laws_FnExactMuxFault fu (⟨a0_1, a0_2, (⟨a0_4, (⟨a0_6, (⟨za0_7, na0_7, fa0_7⟩ : (Sl S_impl_Backend)), (⟨za0_8, na0_8, fa0_8⟩ : (Sl S_impl_Vip))⟩ : S_laws_Config)⟩ : S_laws_Watch), (⟨za0_9, na0_9, fa0_9⟩ : (Sl (Sl Int))), (⟨za0_10, na0_10, fa0_10⟩ : (Sl S_laws_Held))⟩ : S_laws_Mux), enc_bo, fun _ => true⟩ | _ => none
theorem hpc_laws_FnExactMuxFault (fu : Nat) : ∀ f xs o, pcf_laws_FnExactMuxFault fu f xs = some o → ∀ y, o.x = some y → Good E Tryz.prog f xs (o.g y) := by
  intro f xs o h
  unfold pcf_laws_FnExactMuxFault at h
  split at h
  · exact good_laws_szMux fu xs o h
  · exact good_spec_MuxFault fu xs o h
  · exact good_laws_toMux fu xs o h
  · exact good_impl_MuxFault fu xs o h
  · exact good_laws_eqMux fu xs o h
  · cases h
theorem hpx_laws_FnExactMuxFault (fu : Nat) : ∀ f xs ins o, pcx_laws_FnExactMuxFault fu f xs ins = some o → ∀ y, o.x = some y → GoodX E Tryz.prog f xs ins (o.g y).1 (o.g y).2 := by
  intro f xs ins o h
  cases h
theorem goodv_laws_FnExactMuxFault (fu : Nat) (aM_0 : S_laws_Mux) (y : Bool) (hy : F_laws_FnExactMuxFault fu aM_0 = some y) : Good E Tryz.prog 3 [(.agg [(.int .i64 aM_0.Address), (.int .i64 aM_0.Now), (.bool aM_0.Watch.Ready), (.int .i64 aM_0.Watch.Config.Version), (.rs aM_0.Watch.Config.Backends.z .impl_Backend aM_0.Watch.Config.Backends.n aM_0.Watch.Config.Backends.f), (.rs aM_0.Watch.Config.Vips.z .impl_Vip aM_0.Watch.Config.Vips.n aM_0.Watch.Config.Vips.f), (.rs aM_0.Tables.z .sl_i64 aM_0.Tables.n aM_0.Tables.f), (.rs aM_0.Cache.z .laws_Held aM_0.Cache.n aM_0.Cache.f)])] (enc_bo y) :=
  fun_good E_ok (pc_good (pc := pc_laws_FnExactMuxFault fu) (hpc_laws_FnExactMuxFault fu) (hpx_laws_FnExactMuxFault fu)) (fn := Tryz.f3) (c := body_laws_FnExactMuxFault) (out := out_bo) (y := y) (by kernel_rfl) (by kernel_rfl) (by kernel_rfl) (lpok_laws_FnExactMuxFault fu) (fun d hd => out_bo_enc d _ hd) ((ev_laws_FnExactMuxFault fu aM_0).trans hy)
theorem good_laws_FnExactMuxFault (fu : Nat) : ∀ xs o, S_laws_FnExactMuxFault fu xs = some o → ∀ y, o.x = some y → Good E Tryz.prog 3 xs (o.g y) := by
  intro xs o h y hy
  unfold S_laws_FnExactMuxFault at h
  split at h
  · rename_i a0_1 a0_2 a0_4 a0_6 za0_7 na0_7 fa0_7 za0_8 na0_8 fa0_8 za0_9 na0_9 fa0_9 za0_10 na0_10 fa0_10
    cases h
    exact goodv_laws_FnExactMuxFault fu (⟨a0_1, a0_2, (⟨a0_4, (⟨a0_6, (⟨za0_7, na0_7, fa0_7⟩ : (Sl S_impl_Backend)), (⟨za0_8, na0_8, fa0_8⟩ : (Sl S_impl_Vip))⟩ : S_laws_Config)⟩ : S_laws_Watch), (⟨za0_9, na0_9, fa0_9⟩ : (Sl (Sl Int))), (⟨za0_10, na0_10, fa0_10⟩ : (Sl S_laws_Held))⟩ : S_laws_Mux) y hy
  · cases h
end Go.Proofs.YtmgndndkkeinfaaGreat.Pc
