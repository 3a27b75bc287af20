/- The functions' evaluated forms, each a proved summary. Conditions: none. -/
import Derived.Test.YtaghkcpgpjbdnaaPnF0
namespace Go.Proofs.Ytaghkcpgpjbdnaa.Pn
open Go Go.RowKit Go.Proofs Vm
set_option linter.unusedVariables false
set_option linter.unusedSimpArgs false
set_option maxRecDepth 100000
/-! laws.markFleet -/
def F_laws_markFleet_L (fu : Nat) (a_0_0 : Nat) (a_0_1 : Nat) (k_1_2 : Int) (rn0 : Nat) (rf0 : (Nat → S_impl_Entry)) (rn1 : Nat) (rf1 : (Nat → S_impl_Mux_0)) : Option (Int × (Nat × (Nat → S_impl_Entry)) × (Nat × (Nat → S_impl_Mux_0))) :=
  ((F_laws_markEntryS_L fu a_0_0 k_1_2 rn0 rf0).bind fun y39 => ((F_laws_markMuxS_L fu a_0_1 y39.1 rn1 rf1).bind fun y46 => (some (y46.1, (y39.2.1, y39.2.2), (y46.2.1, y46.2.2)))))
def pcf_laws_markFleet_L (fu : Nat) (f : Nat) (xs : List (D RT den)) : Option (Out RT den) := none
def pcx_laws_markFleet_L (fu : Nat) (f : Nat) (xs : List (D RT den)) (ins : List (Ob RT den)) : Option (OutX RT den) := match f with | 42 => S_laws_markEntryS_L fu xs ins | 43 => S_laws_markMuxS_L fu xs ins | _ => none
def pc_laws_markFleet_L (fu : Nat) : Pc RT den := ⟨pcf_laws_markFleet_L fu, fun f => match f with | 42 => true | 43 => true | _ => false, fun f => match f with | 42 => true | 43 => true | _ => false, pcx_laws_markFleet_L fu⟩
def msk_laws_markFleet_L (b : Nat) : List Nat := []
def lp_laws_markFleet_L (fu : Nat) : Lp RT den (Int × (Nat × (Nat → S_impl_Entry)) × (Nat × (Nat → S_impl_Mux_0))) := fun b s k => none
def out_laws_markFleet_L (d : D RT den) (os : List (Ob RT den)) : Option (Int × (Nat × (Nat → S_impl_Entry)) × (Nat × (Nat → S_impl_Mux_0))) := match d, os with | .int .i64 a0_0, [.row true .impl_Entry n0 f0, .row true .impl_Mux n1 f1] => some (a0_0, (n0, f0), (n1, f1)) | _, _ => none
def enc_laws_markFleet_L (y : Int × (Nat × (Nat → S_impl_Entry)) × (Nat × (Nat → S_impl_Mux_0))) : D RT den × List (Ob RT den) := ((.int .i64 y.1), [(.row true .impl_Entry y.2.1.1 y.2.1.2), (.row true .impl_Mux y.2.2.1 y.2.2.2)])
theorem out_laws_markFleet_L_enc (d : D RT den) (os : List (Ob RT den)) (y : Int × (Nat × (Nat → S_impl_Entry)) × (Nat × (Nat → S_impl_Mux_0))) (h : out_laws_markFleet_L d os = some y) : (unh 2 d).1 = (enc_laws_markFleet_L y).1 ∧ os ++ (unh 2 d).2 = (enc_laws_markFleet_L y).2 := by
  unfold out_laws_markFleet_L at h
  split at h
  · cases h; exact ⟨rfl, rfl⟩
  · cases h
theorem ev_laws_markFleet_L (fu : Nat) (a_0_0 : Nat) (a_0_1 : Nat) (k_1_2 : Int) (rn0 : Nat) (rf0 : (Nat → S_impl_Entry)) (rn1 : Nat) (rf1 : (Nat → S_impl_Mux_0)) : evFunX E false (pc_laws_markFleet_L fu) msk_laws_markFleet_L (lp_laws_markFleet_L fu) out_laws_markFleet_L 29 [(.agg [(.os 0 a_0_0), (.os 1 a_0_1)]), (.int .i64 k_1_2)] [(.row true .impl_Entry rn0 rf0), (.row true .impl_Mux rn1 rf1)] = F_laws_markFleet_L fu a_0_0 a_0_1 k_1_2 rn0 rf0 rn1 rf1 := by kernel_rfl
noncomputable def body_laws_markFleet_L : Code := Try.f29.body.getD .skip
theorem lpok_laws_markFleet_L (fu : Nat) : LpOk E (pc_laws_markFleet_L fu) msk_laws_markFleet_L (lp_laws_markFleet_L fu) (loops 0 body_laws_markFleet_L) := by
  have h : loops 0 body_laws_markFleet_L = [] := by kernel_rfl
  rw [h]; intro p hp; cases hp
def S_laws_markFleet_L (fu : Nat) (xs : List (D RT den)) (ins : List (Ob RT den)) : Option (OutX RT den) := match xs, ins with | [.agg [.os 0 a0_0, .os 1 a0_1], .int .i64 a1_0], [.row true .impl_Entry rn0 rf0, .row true .impl_Mux rn1 rf1] => some ⟨Int × (Nat × (Nat → S_impl_Entry)) × (Nat × (Nat → S_impl_Mux_0)), F_laws_markFleet_L fu a0_0 a0_1 a1_0 rn0 rf0 rn1 rf1, enc_laws_markFleet_L⟩ | _, _ => none
theorem hpc_laws_markFleet_L (fu : Nat) : ∀ f xs o, pcf_laws_markFleet_L fu f xs = some o → ∀ y, o.x = some y → Good E Try.prog f xs (o.g y) := by
  intro f xs o h
  cases h
theorem hpx_laws_markFleet_L (fu : Nat) : ∀ f xs ins o, pcx_laws_markFleet_L fu f xs ins = some o → ∀ y, o.x = some y → GoodX E Try.prog f xs ins (o.g y).1 (o.g y).2 := by
  intro f xs ins o h
  unfold pcx_laws_markFleet_L at h
  split at h
  · exact good_laws_markEntryS_L fu xs ins o h
  · exact good_laws_markMuxS_L fu xs ins o h
  · cases h
theorem goodv_laws_markFleet_L (fu : Nat) (a_0_0 : Nat) (a_0_1 : Nat) (k_1_2 : Int) (rn0 : Nat) (rf0 : (Nat → S_impl_Entry)) (rn1 : Nat) (rf1 : (Nat → S_impl_Mux_0)) (y : Int × (Nat × (Nat → S_impl_Entry)) × (Nat × (Nat → S_impl_Mux_0))) (hy : F_laws_markFleet_L fu a_0_0 a_0_1 k_1_2 rn0 rf0 rn1 rf1 = some y) : GoodX E Try.prog 29 [(.agg [(.os 0 a_0_0), (.os 1 a_0_1)]), (.int .i64 k_1_2)] [(.row true .impl_Entry rn0 rf0), (.row true .impl_Mux rn1 rf1)] (enc_laws_markFleet_L y).1 (enc_laws_markFleet_L y).2 :=
  funX_good (ke := false) E_ok (pc_good (pc := pc_laws_markFleet_L fu) (hpc_laws_markFleet_L fu) (hpx_laws_markFleet_L fu)) (fn := Try.f29) (c := body_laws_markFleet_L) (out := out_laws_markFleet_L) (y := y) (by kernel_rfl) (by kernel_rfl) (by kernel_rfl) (lpok_laws_markFleet_L fu) (by kernel_rfl) (Nat.le_refl _) (fun d os hd => out_laws_markFleet_L_enc d os _ hd) ((ev_laws_markFleet_L fu a_0_0 a_0_1 k_1_2 rn0 rf0 rn1 rf1).trans hy)
theorem good_laws_markFleet_L (fu : Nat) : ∀ xs ins o, S_laws_markFleet_L fu xs ins = some o → ∀ y, o.x = some y → GoodX E Try.prog 29 xs ins (o.g y).1 (o.g y).2 := by
  intro xs ins o h y hy
  unfold S_laws_markFleet_L at h
  split at h
  · rename_i a0_0 a0_1 a1_0 rn0 rf0 rn1 rf1
    cases h
    exact goodv_laws_markFleet_L fu a0_0 a0_1 a1_0 rn0 rf0 rn1 rf1 y hy
  · cases h

/-! laws.markFleetResult -/
def F_laws_markFleetResult_L (fu : Nat) (a_0_0 : Int) (a_0_1 : Int) (a_0_2 : Int) (a_0_3 : Nat) (a_0_4 : Nat) (a_0_5 : Nat) (k_1_6 : Int) (rn0 : Nat) (rf0 : (Nat → Int)) (rn1 : Nat) (rf1 : (Nat → S_impl_Entry)) (rn2 : Nat) (rf2 : (Nat → S_impl_Mux_0)) : Option (Int × (Nat × (Nat → Int)) × (Nat × (Nat → S_impl_Entry)) × (Nat × (Nat → S_impl_Mux_0))) :=
  ((F_laws_markByteS_L fu a_0_3 k_1_6 rn0 rf0).bind fun y36 => ((F_laws_markFleet_L fu a_0_4 a_0_5 y36.1 rn1 rf1 rn2 rf2).bind fun y47 => (some (y47.1, (y36.2.1, y36.2.2),
    (y47.2.1.1, y47.2.1.2), (y47.2.2.1, y47.2.2.2)))))
def pcf_laws_markFleetResult_L (fu : Nat) (f : Nat) (xs : List (D RT den)) : Option (Out RT den) := none
def pcx_laws_markFleetResult_L (fu : Nat) (f : Nat) (xs : List (D RT den)) (ins : List (Ob RT den)) : Option (OutX RT den) := match f with | 20 => S_laws_markByteS_L fu xs ins | 29 => S_laws_markFleet_L fu xs ins | _ => none
def pc_laws_markFleetResult_L (fu : Nat) : Pc RT den := ⟨pcf_laws_markFleetResult_L fu, fun f => match f with | 20 => true | 29 => true | _ => false, fun f => match f with | 20 => true | 29 => true | _ => false, pcx_laws_markFleetResult_L fu⟩
def msk_laws_markFleetResult_L (b : Nat) : List Nat := []
def lp_laws_markFleetResult_L (fu : Nat) : Lp RT den (Int × (Nat × (Nat → Int)) × (Nat × (Nat → S_impl_Entry)) × (Nat × (Nat → S_impl_Mux_0))) := fun b s k => none
def out_laws_markFleetResult_L (d : D RT den) (os : List (Ob RT den)) : Option (Int × (Nat × (Nat → Int)) × (Nat × (Nat → S_impl_Entry)) × (Nat × (Nat → S_impl_Mux_0))) := match d, os with | .int .i64 a0_0, [.row true .u8 n0 f0, .row true .impl_Entry n1 f1, .row true .impl_Mux n2 f2] => some (a0_0, (n0, f0), (n1, f1), (n2, f2)) | _, _ => none
def enc_laws_markFleetResult_L (y : Int × (Nat × (Nat → Int)) × (Nat × (Nat → S_impl_Entry)) × (Nat × (Nat → S_impl_Mux_0))) : D RT den × List (Ob RT den) := ((.int .i64 y.1), [(.row true .u8 y.2.1.1 y.2.1.2), (.row true .impl_Entry y.2.2.1.1 y.2.2.1.2), (.row true .impl_Mux y.2.2.2.1 y.2.2.2.2)])
theorem out_laws_markFleetResult_L_enc (d : D RT den) (os : List (Ob RT den)) (y : Int × (Nat × (Nat → Int)) × (Nat × (Nat → S_impl_Entry)) × (Nat × (Nat → S_impl_Mux_0))) (h : out_laws_markFleetResult_L d os = some y) : (unh 3 d).1 = (enc_laws_markFleetResult_L y).1 ∧ os ++ (unh 3 d).2 = (enc_laws_markFleetResult_L y).2 := by
  unfold out_laws_markFleetResult_L at h
  split at h
  · cases h; exact ⟨rfl, rfl⟩
  · cases h
theorem ev_laws_markFleetResult_L (fu : Nat) (a_0_0 : Int) (a_0_1 : Int) (a_0_2 : Int) (a_0_3 : Nat) (a_0_4 : Nat) (a_0_5 : Nat) (k_1_6 : Int) (rn0 : Nat) (rf0 : (Nat → Int)) (rn1 : Nat) (rf1 : (Nat → S_impl_Entry)) (rn2 : Nat) (rf2 : (Nat → S_impl_Mux_0)) : evFunX E false (pc_laws_markFleetResult_L fu) msk_laws_markFleetResult_L (lp_laws_markFleetResult_L fu) out_laws_markFleetResult_L 13 [(.agg [(.int .i64 a_0_0), (.int .i64 a_0_1), (.int .i64 a_0_2), (.os 0 a_0_3), (.os 1 a_0_4), (.os 2 a_0_5)]), (.int .i64 k_1_6)] [(.row true .u8 rn0 rf0), (.row true .impl_Entry rn1 rf1), (.row true .impl_Mux rn2 rf2)] = F_laws_markFleetResult_L fu a_0_0 a_0_1 a_0_2 a_0_3 a_0_4 a_0_5 k_1_6 rn0 rf0 rn1 rf1 rn2 rf2 := by kernel_rfl
noncomputable def body_laws_markFleetResult_L : Code := Try.f13.body.getD .skip
theorem lpok_laws_markFleetResult_L (fu : Nat) : LpOk E (pc_laws_markFleetResult_L fu) msk_laws_markFleetResult_L (lp_laws_markFleetResult_L fu) (loops 0 body_laws_markFleetResult_L) := by
  have h : loops 0 body_laws_markFleetResult_L = [] := by kernel_rfl
  rw [h]; intro p hp; cases hp
def S_laws_markFleetResult_L (fu : Nat) (xs : List (D RT den)) (ins : List (Ob RT den)) : Option (OutX RT den) := match xs, ins with | [.agg [.int .i64 a0_0, .int .i64 a0_1, .int .i64 a0_2, .os 0 a0_3, .os 1 a0_4, .os 2 a0_5], .int .i64 a1_0], [.row true .u8 rn0 rf0, .row true .impl_Entry rn1 rf1, .row true .impl_Mux rn2 rf2] => some ⟨Int × (Nat × (Nat → Int)) × (Nat × (Nat → S_impl_Entry)) × (Nat × (Nat → S_impl_Mux_0)), F_laws_markFleetResult_L fu a0_0 a0_1 a0_2 a0_3 a0_4 a0_5 a1_0 rn0 rf0 rn1 rf1 rn2 rf2, enc_laws_markFleetResult_L⟩ | _, _ => none
theorem hpc_laws_markFleetResult_L (fu : Nat) : ∀ f xs o, pcf_laws_markFleetResult_L fu f xs = some o → ∀ y, o.x = some y → Good E Try.prog f xs (o.g y) := by
  intro f xs o h
  cases h
theorem hpx_laws_markFleetResult_L (fu : Nat) : ∀ f xs ins o, pcx_laws_markFleetResult_L fu f xs ins = some o → ∀ y, o.x = some y → GoodX E Try.prog f xs ins (o.g y).1 (o.g y).2 := by
  intro f xs ins o h
  unfold pcx_laws_markFleetResult_L at h
  split at h
  · exact good_laws_markByteS_L fu xs ins o h
  · exact good_laws_markFleet_L fu xs ins o h
  · cases h
theorem goodv_laws_markFleetResult_L (fu : Nat) (a_0_0 : Int) (a_0_1 : Int) (a_0_2 : Int) (a_0_3 : Nat) (a_0_4 : Nat) (a_0_5 : Nat) (k_1_6 : Int) (rn0 : Nat) (rf0 : (Nat → Int)) (rn1 : Nat) (rf1 : (Nat → S_impl_Entry)) (rn2 : Nat) (rf2 : (Nat → S_impl_Mux_0)) (y : Int × (Nat × (Nat → Int)) × (Nat × (Nat → S_impl_Entry)) × (Nat × (Nat → S_impl_Mux_0))) (hy : F_laws_markFleetResult_L fu a_0_0 a_0_1 a_0_2 a_0_3 a_0_4 a_0_5 k_1_6 rn0 rf0 rn1 rf1 rn2 rf2 = some y) : GoodX E Try.prog 13 [(.agg [(.int .i64 a_0_0), (.int .i64 a_0_1), (.int .i64 a_0_2), (.os 0 a_0_3), (.os 1 a_0_4), (.os 2 a_0_5)]), (.int .i64 k_1_6)] [(.row true .u8 rn0 rf0), (.row true .impl_Entry rn1 rf1), (.row true .impl_Mux rn2 rf2)] (enc_laws_markFleetResult_L y).1 (enc_laws_markFleetResult_L y).2 :=
  funX_good (ke := false) E_ok (pc_good (pc := pc_laws_markFleetResult_L fu) (hpc_laws_markFleetResult_L fu) (hpx_laws_markFleetResult_L fu)) (fn := Try.f13) (c := body_laws_markFleetResult_L) (out := out_laws_markFleetResult_L) (y := y) (by kernel_rfl) (by kernel_rfl) (by kernel_rfl) (lpok_laws_markFleetResult_L fu) (by kernel_rfl) (Nat.le_refl _) (fun d os hd => out_laws_markFleetResult_L_enc d os _ hd) ((ev_laws_markFleetResult_L fu a_0_0 a_0_1 a_0_2 a_0_3 a_0_4 a_0_5 k_1_6 rn0 rf0 rn1 rf1 rn2 rf2).trans hy)
theorem good_laws_markFleetResult_L (fu : Nat) : ∀ xs ins o, S_laws_markFleetResult_L fu xs ins = some o → ∀ y, o.x = some y → GoodX E Try.prog 13 xs ins (o.g y).1 (o.g y).2 := by
  intro xs ins o h y hy
  unfold S_laws_markFleetResult_L at h
  split at h
  · rename_i a0_0 a0_1 a0_2 a0_3 a0_4 a0_5 a1_0 rn0 rf0 rn1 rf1 rn2 rf2
    cases h
    exact goodv_laws_markFleetResult_L fu a0_0 a0_1 a0_2 a0_3 a0_4 a0_5 a1_0 rn0 rf0 rn1 rf1 rn2 rf2 y hy
  · cases h

/-! laws.eqByteS -/
def F_laws_eqByteS_B0 {ρ : Type} (fu : Nat) (a0_0 : (Sl Int)) (b1_1 : (Sl Int)) (k0 : Option ρ) (k1 : Option ρ) (i5_2 : Int) (go : Int → Option ρ) : Option ρ :=
  (bif (decide (i5_2 < ((a0_0.n : Nat) : Int))) then ((bif (decide (0 ≤ i5_2) && decide ((Int.toNat i5_2) < a0_0.n)) then some () else none : Option Unit).bind fun _ => ((bif (decide (0 ≤ i5_2) &&
    decide ((Int.toNat i5_2) < b1_1.n)) then some () else none : Option Unit).bind fun _ => (bif ((a0_0.f (Int.toNat i5_2)) != (b1_1.f (Int.toNat i5_2))) then k0 else (go (IntKind.wrap .i64 (i5_2 + 1)))))) else
    k1)
def F_laws_eqByteS (fu : Nat) (a_0 : (Sl Int)) (b_1 : (Sl Int)) : Option (Bool) :=
  (bif (((a_0.n : Nat) : Int) != ((b_1.n : Nat) : Int)) then (some false) else (L (fun w0 go0 => F_laws_eqByteS_B0 fu a_0 b_1 (some false) (some true) w0 go0) fu (0 : Int)))
def pcf_laws_eqByteS (fu : Nat) (f : Nat) (xs : List (D RT den)) : Option (Out RT den) := none
def pcx_laws_eqByteS (fu : Nat) (f : Nat) (xs : List (D RT den)) (ins : List (Ob RT den)) : Option (OutX RT den) := none
def pc_laws_eqByteS (fu : Nat) : Pc RT den := ⟨pcf_laws_eqByteS fu, fun _ => false, fun _ => false, pcx_laws_eqByteS fu⟩
def msk_laws_eqByteS (b : Nat) : List Nat := match b with | 0 => [2, 3, 4, 6, 7, 8, 9, 10, 11, 12, 13, 14, 15, 16, 17, 18, 19, 20, 21, 22, 23, 24, 25] | 100000 => [0, 1, 2, 3, 5, 6, 7, 8, 9, 10, 11, 12, 13, 14, 15, 16, 17, 18, 19, 20, 21, 22, 23, 24, 25] | _ => []
def ps_laws_eqByteS_0 : List (Pat RT) := [.flat (.rs .u8), .flat (.rs .u8), .flat .dead, .flat .dead, .flat .dead, .flat (.int .i64), .flat .dead, .flat .dead, .flat .dead, .flat .dead, .flat .dead, .flat .dead, .flat .dead, .flat .dead, .flat .dead, .flat .dead, .flat .dead, .flat .dead, .flat .dead, .flat .dead, .flat .dead, .flat .dead, .flat .dead, .flat .dead, .flat .dead, .flat .dead]
def os_laws_eqByteS_0 : List (OP RT) := []
def conv_laws_eqByteS_0 (r : Raw den ps_laws_eqByteS_0 os_laws_eqByteS_0) : ((Sl Int) × (Sl Int)) × (Int) := ((r.1.1, r.1.2.1), r.1.2.2.2.2.2.1)
def back_laws_eqByteS_0 (c : (Sl Int) × (Sl Int)) (w : Int) : St RT den := ⟨[(.rs c.1.z .u8 c.1.n c.1.f), (.rs c.2.z .u8 c.2.n c.2.f), .dead, .dead, .dead, (.int .i64 w), .dead, .dead, .dead, .dead, .dead, .dead, .dead, .dead, .dead, .dead, .dead, .dead, .dead, .dead, .dead, .dead, .dead, .dead, .dead, .dead], []⟩
def Bk_laws_eqByteS_0 {ρ : Type} (fu : Nat) (c : (Sl Int) × (Sl Int)) (k : Ex → St RT den → Option ρ) (w : Int) (go : (Int) → Option ρ) : Option ρ := F_laws_eqByteS_B0 fu c.1 c.2 (k .ret ⟨[.dead, .dead, .dead, .dead, (.bool false), .dead, .dead, .dead, .dead, .dead, .dead, .dead, .dead, .dead, .dead, .dead, .dead, .dead, .dead, .dead, .dead, .dead, .dead, .dead, .dead, .dead], []⟩) (k (.exit 0) ⟨[.dead, .dead, .dead, .dead, .dead, .dead, .dead, .dead, .dead, .dead, .dead, .dead, .dead, .dead, .dead, .dead, .dead, .dead, .dead, .dead, .dead, .dead, .dead, .dead, .dead, .dead], []⟩) w go
def lp_laws_eqByteS (fu : Nat) : Lp RT den (Bool) := fun b s k => match b with | 0 => handle ps_laws_eqByteS_0 os_laws_eqByteS_0 conv_laws_eqByteS_0 (Bk_laws_eqByteS_0 fu) fu s k | _ => none
theorem ev_laws_eqByteS (fu : Nat) (a_0 : (Sl Int)) (b_1 : (Sl Int)) : evFun E (pc_laws_eqByteS fu) msk_laws_eqByteS (lp_laws_eqByteS fu) out_bo 18 [(.rs a_0.z .u8 a_0.n a_0.f), (.rs b_1.z .u8 b_1.n b_1.f)] = F_laws_eqByteS fu a_0 b_1 := by kernel_rfl
noncomputable def body_laws_eqByteS : Code := Try.f18.body.getD .skip
noncomputable def lc_laws_eqByteS_0 : Code := ((loops 0 body_laws_eqByteS).getD 0 (0, .skip)).2
theorem round_laws_eqByteS_0 (fu : Nat) (it : St RT den → Option (Bool)) (k : Ex → St RT den → Option (Bool)) c w : evCode E (pc_laws_eqByteS fu) msk_laws_eqByteS (lp_laws_eqByteS fu) 0 lc_laws_eqByteS_0 (back_laws_eqByteS_0 c w) (after (msk_laws_eqByteS 0) (msk_laws_eqByteS 100000) 0 it k) = Bk_laws_eqByteS_0 fu c k w (fun w => it (back_laws_eqByteS_0 c w)) := by kernel_rfl
theorem lpok_laws_eqByteS_0 (fu : Nat) : ∀ s k r, lp_laws_eqByteS fu 0 s k = some r → ∃ fuel, iter (msk_laws_eqByteS 0) (msk_laws_eqByteS 100000) s.objs.length (evCode E (pc_laws_eqByteS fu) msk_laws_eqByteS (lp_laws_eqByteS fu) 0 lc_laws_eqByteS_0) fuel s k = some r :=
  handle_ok (ps := ps_laws_eqByteS_0) (os := os_laws_eqByteS_0) (conv := conv_laws_eqByteS_0) (B := Bk_laws_eqByteS_0 fu) (fu := fu) back_laws_eqByteS_0 (fun raw => by kernel_rfl) 0 (fun c w => by kernel_rfl) (round_laws_eqByteS_0 fu)
theorem lpok_laws_eqByteS (fu : Nat) : LpOk E (pc_laws_eqByteS fu) msk_laws_eqByteS (lp_laws_eqByteS fu) (loops 0 body_laws_eqByteS) := loop_all 1 (by kernel_rfl) fun i hi => match i, hi with
  | 0, _ => by
    have h : (loops 0 body_laws_eqByteS).getD 0 (0, .skip) = (0, lc_laws_eqByteS_0) := by kernel_rfl
    rw [h]; exact lpok_laws_eqByteS_0 fu
  | i + 1, hi => absurd hi (by omega)
def S_laws_eqByteS (fu : Nat) (xs : List (D RT den)) : Option (Out RT den) := match xs with | [.rs za0_0 .u8 na0_0 fa0_0, .rs za1_0 .u8 na1_0 fa1_0] => some ⟨Bool, F_laws_eqByteS fu (⟨za0_0, na0_0, fa0_0⟩ : (Sl Int)) (⟨za1_0, na1_0, fa1_0⟩ : (Sl Int)), enc_bo, fun _ => true⟩ | _ => none
theorem hpc_laws_eqByteS (fu : Nat) : ∀ f xs o, pcf_laws_eqByteS fu f xs = some o → ∀ y, o.x = some y → Good E Try.prog f xs (o.g y) := by
  intro f xs o h
  cases h
theorem hpx_laws_eqByteS (fu : Nat) : ∀ f xs ins o, pcx_laws_eqByteS fu f xs ins = some o → ∀ y, o.x = some y → GoodX E Try.prog f xs ins (o.g y).1 (o.g y).2 := by
  intro f xs ins o h
  cases h
theorem goodv_laws_eqByteS (fu : Nat) (a_0 : (Sl Int)) (b_1 : (Sl Int)) (y : Bool) (hy : F_laws_eqByteS fu a_0 b_1 = some y) : Good E Try.prog 18 [(.rs a_0.z .u8 a_0.n a_0.f), (.rs b_1.z .u8 b_1.n b_1.f)] (enc_bo y) :=
  fun_good E_ok (pc_good (pc := pc_laws_eqByteS fu) (hpc_laws_eqByteS fu) (hpx_laws_eqByteS fu)) (fn := Try.f18) (c := body_laws_eqByteS) (out := out_bo) (y := y) (by kernel_rfl) (by kernel_rfl) (by kernel_rfl) (lpok_laws_eqByteS fu) (fun d hd => out_bo_enc d _ hd) ((ev_laws_eqByteS fu a_0 b_1).trans hy)
theorem good_laws_eqByteS (fu : Nat) : ∀ xs o, S_laws_eqByteS fu xs = some o → ∀ y, o.x = some y → Good E Try.prog 18 xs (o.g y) := by
  intro xs o h y hy
  unfold S_laws_eqByteS at h
  split at h
  · rename_i za0_0 na0_0 fa0_0 za1_0 na1_0 fa1_0
    cases h
    exact goodv_laws_eqByteS fu (⟨za0_0, na0_0, fa0_0⟩ : (Sl Int)) (⟨za1_0, na1_0, fa1_0⟩ : (Sl Int)) y hy
  · cases h

/-! laws.eqCmd -/
def F_laws_eqCmd (fu : Nat) (a_0 : S_impl_Cmd) (b_1 : S_impl_Cmd) : Option (Bool) :=
  (bif (a_0.Kind != b_1.Kind) then (some false) else (bif (a_0.Expect != b_1.Expect) then (some false) else (bif (a_0.Name != b_1.Name) then (some false) else (bif (a_0.Addr != b_1.Addr) then
    (some false) else (bif (a_0.Number != b_1.Number) then (some false) else (bif (a_0.Proto != b_1.Proto) then (some false) else (some true)))))))
def pcf_laws_eqCmd (fu : Nat) (f : Nat) (xs : List (D RT den)) : Option (Out RT den) := none
def pcx_laws_eqCmd (fu : Nat) (f : Nat) (xs : List (D RT den)) (ins : List (Ob RT den)) : Option (OutX RT den) := none
def pc_laws_eqCmd (fu : Nat) : Pc RT den := ⟨pcf_laws_eqCmd fu, fun _ => false, fun _ => false, pcx_laws_eqCmd fu⟩
def msk_laws_eqCmd (b : Nat) : List Nat := []
def lp_laws_eqCmd (fu : Nat) : Lp RT den (Bool) := fun b s k => none
theorem ev_laws_eqCmd (fu : Nat) (a_0 : S_impl_Cmd) (b_1 : S_impl_Cmd) : evFun E (pc_laws_eqCmd fu) msk_laws_eqCmd (lp_laws_eqCmd fu) out_bo 61 [(.agg [(.int .i64 a_0.Kind), (.int .i64 a_0.Expect), (.int .i64 a_0.Name), (.int .i64 a_0.Addr), (.int .i64 a_0.Number), (.int .i64 a_0.Proto)]), (.agg [(.int .i64 b_1.Kind), (.int .i64 b_1.Expect), (.int .i64 b_1.Name), (.int .i64 b_1.Addr), (.int .i64 b_1.Number), (.int .i64 b_1.Proto)])] = F_laws_eqCmd fu a_0 b_1 := by kernel_rfl
noncomputable def body_laws_eqCmd : Code := Try.f61.body.getD .skip
theorem lpok_laws_eqCmd (fu : Nat) : LpOk E (pc_laws_eqCmd fu) msk_laws_eqCmd (lp_laws_eqCmd fu) (loops 0 body_laws_eqCmd) := by
  have h : loops 0 body_laws_eqCmd = [] := by kernel_rfl
  rw [h]; intro p hp; cases hp
def S_laws_eqCmd (fu : Nat) (xs : List (D RT den)) : Option (Out RT den) := match xs with | [.agg [.int .i64 a0_1, .int .i64 a0_2, .int .i64 a0_3, .int .i64 a0_4, .int .i64 a0_5, .int .i64 a0_6], .agg [.int .i64 a1_1, .int .i64 a1_2, .int .i64 a1_3, .int .i64 a1_4, .int .i64 a1_5, .int .i64 a1_6]] => some ⟨Bool, F_laws_eqCmd fu (⟨a0_1, a0_2, a0_3, a0_4, a0_5, a0_6⟩ : S_impl_Cmd) (⟨a1_1, a1_2, a1_3, a1_4, a1_5, a1_6⟩ : S_impl_Cmd), enc_bo, fun _ => true⟩ | _ => none
theorem hpc_laws_eqCmd (fu : Nat) : ∀ f xs o, pcf_laws_eqCmd fu f xs = some o → ∀ y, o.x = some y → Good E Try.prog f xs (o.g y) := by
  intro f xs o h
  cases h
theorem hpx_laws_eqCmd (fu : Nat) : ∀ f xs ins o, pcx_laws_eqCmd fu f xs ins = some o → ∀ y, o.x = some y → GoodX E Try.prog f xs ins (o.g y).1 (o.g y).2 := by
  intro f xs ins o h
  cases h
theorem goodv_laws_eqCmd (fu : Nat) (a_0 : S_impl_Cmd) (b_1 : S_impl_Cmd) (y : Bool) (hy : F_laws_eqCmd fu a_0 b_1 = some y) : Good E Try.prog 61 [(.agg [(.int .i64 a_0.Kind), (.int .i64 a_0.Expect), (.int .i64 a_0.Name), (.int .i64 a_0.Addr), (.int .i64 a_0.Number), (.int .i64 a_0.Proto)]), (.agg [(.int .i64 b_1.Kind), (.int .i64 b_1.Expect), (.int .i64 b_1.Name), (.int .i64 b_1.Addr), (.int .i64 b_1.Number), (.int .i64 b_1.Proto)])] (enc_bo y) :=
  fun_good E_ok (pc_good (pc := pc_laws_eqCmd fu) (hpc_laws_eqCmd fu) (hpx_laws_eqCmd fu)) (fn := Try.f61) (c := body_laws_eqCmd) (out := out_bo) (y := y) (by kernel_rfl) (by kernel_rfl) (by kernel_rfl) (lpok_laws_eqCmd fu) (fun d hd => out_bo_enc d _ hd) ((ev_laws_eqCmd fu a_0 b_1).trans hy)
theorem good_laws_eqCmd (fu : Nat) : ∀ xs o, S_laws_eqCmd fu xs = some o → ∀ y, o.x = some y → Good E Try.prog 61 xs (o.g y) := by
  intro xs o h y hy
  unfold S_laws_eqCmd at h
  split at h
  · rename_i a0_1 a0_2 a0_3 a0_4 a0_5 a0_6 a1_1 a1_2 a1_3 a1_4 a1_5 a1_6
    cases h
    exact goodv_laws_eqCmd fu (⟨a0_1, a0_2, a0_3, a0_4, a0_5, a0_6⟩ : S_impl_Cmd) (⟨a1_1, a1_2, a1_3, a1_4, a1_5, a1_6⟩ : S_impl_Cmd) y hy
  · cases h

/-! laws.eqEntry -/
def F_laws_eqEntry (fu : Nat) (a_0 : S_impl_Entry) (b_1 : S_impl_Entry) : Option (Bool) :=
  (bif (a_0.Term != b_1.Term) then (some false) else (bif (a_0.Client != b_1.Client) then (some false) else (bif (a_0.Seq != b_1.Seq) then (some false) else ((F_laws_eqCmd fu a_0.Cmd b_1.Cmd).bind fun y58 =>
    (bif (!y58) then (some false) else (some true))))))
def pcf_laws_eqEntry (fu : Nat) (f : Nat) (xs : List (D RT den)) : Option (Out RT den) := match f with | 61 => S_laws_eqCmd fu xs | _ => none
def pcx_laws_eqEntry (fu : Nat) (f : Nat) (xs : List (D RT den)) (ins : List (Ob RT den)) : Option (OutX RT den) := none
def pc_laws_eqEntry (fu : Nat) : Pc RT den := ⟨pcf_laws_eqEntry fu, fun _ => false, fun _ => false, pcx_laws_eqEntry fu⟩
def msk_laws_eqEntry (b : Nat) : List Nat := []
def lp_laws_eqEntry (fu : Nat) : Lp RT den (Bool) := fun b s k => none
theorem ev_laws_eqEntry (fu : Nat) (a_0 : S_impl_Entry) (b_1 : S_impl_Entry) : evFun E (pc_laws_eqEntry fu) msk_laws_eqEntry (lp_laws_eqEntry fu) out_bo 53 [(.agg [(.int .i64 a_0.Term), (.int .i64 a_0.Client), (.int .i64 a_0.Seq), (.int .i64 a_0.Cmd.Kind), (.int .i64 a_0.Cmd.Expect), (.int .i64 a_0.Cmd.Name), (.int .i64 a_0.Cmd.Addr), (.int .i64 a_0.Cmd.Number), (.int .i64 a_0.Cmd.Proto)]), (.agg [(.int .i64 b_1.Term), (.int .i64 b_1.Client), (.int .i64 b_1.Seq), (.int .i64 b_1.Cmd.Kind), (.int .i64 b_1.Cmd.Expect), (.int .i64 b_1.Cmd.Name), (.int .i64 b_1.Cmd.Addr), (.int .i64 b_1.Cmd.Number), (.int .i64 b_1.Cmd.Proto)])] = F_laws_eqEntry fu a_0 b_1 := by kernel_rfl
noncomputable def body_laws_eqEntry : Code := Try.f53.body.getD .skip
theorem lpok_laws_eqEntry (fu : Nat) : LpOk E (pc_laws_eqEntry fu) msk_laws_eqEntry (lp_laws_eqEntry fu) (loops 0 body_laws_eqEntry) := by
  have h : loops 0 body_laws_eqEntry = [] := by kernel_rfl
  rw [h]; intro p hp; cases hp
def S_laws_eqEntry (fu : Nat) (xs : List (D RT den)) : Option (Out RT den) := match xs with | [.agg [.int .i64 a0_1, .int .i64 a0_2, .int .i64 a0_3, .int .i64 a0_5, .int .i64 a0_6, .int .i64 a0_7, .int .i64 a0_8, .int .i64 a0_9, .int .i64 a0_10], .agg [.int .i64 a1_1, .int .i64 a1_2, .int .i64 a1_3, .int .i64 a1_5, .int .i64 a1_6, .int .i64 a1_7, .int .i64 a1_8, .int .i64 a1_9, .int .i64 a1_10]] => some ⟨Bool, F_laws_eqEntry fu (⟨a0_1, a0_2, a0_3, (⟨a0_5, a0_6, a0_7, a0_8, a0_9, a0_10⟩ : S_impl_Cmd)⟩ : S_impl_Entry) (⟨a1_1, a1_2, a1_3, (⟨a1_5, a1_6, a1_7, a1_8, a1_9, a1_10⟩ : S_impl_Cmd)⟩ : S_impl_Entry), enc_bo, fun _ => true⟩ | _ => none
theorem hpc_laws_eqEntry (fu : Nat) : ∀ f xs o, pcf_laws_eqEntry fu f xs = some o → ∀ y, o.x = some y → Good E Try.prog f xs (o.g y) := by
  intro f xs o h
  unfold pcf_laws_eqEntry at h
  split at h
  · exact good_laws_eqCmd fu xs o h
  · cases h
theorem hpx_laws_eqEntry (fu : Nat) : ∀ f xs ins o, pcx_laws_eqEntry fu f xs ins = some o → ∀ y, o.x = some y → GoodX E Try.prog f xs ins (o.g y).1 (o.g y).2 := by
  intro f xs ins o h
  cases h
theorem goodv_laws_eqEntry (fu : Nat) (a_0 : S_impl_Entry) (b_1 : S_impl_Entry) (y : Bool) (hy : F_laws_eqEntry fu a_0 b_1 = some y) : Good E Try.prog 53 [(.agg [(.int .i64 a_0.Term), (.int .i64 a_0.Client), (.int .i64 a_0.Seq), (.int .i64 a_0.Cmd.Kind), (.int .i64 a_0.Cmd.Expect), (.int .i64 a_0.Cmd.Name), (.int .i64 a_0.Cmd.Addr), (.int .i64 a_0.Cmd.Number), (.int .i64 a_0.Cmd.Proto)]), (.agg [(.int .i64 b_1.Term), (.int .i64 b_1.Client), (.int .i64 b_1.Seq), (.int .i64 b_1.Cmd.Kind), (.int .i64 b_1.Cmd.Expect), (.int .i64 b_1.Cmd.Name), (.int .i64 b_1.Cmd.Addr), (.int .i64 b_1.Cmd.Number), (.int .i64 b_1.Cmd.Proto)])] (enc_bo y) :=
  fun_good E_ok (pc_good (pc := pc_laws_eqEntry fu) (hpc_laws_eqEntry fu) (hpx_laws_eqEntry fu)) (fn := Try.f53) (c := body_laws_eqEntry) (out := out_bo) (y := y) (by kernel_rfl) (by kernel_rfl) (by kernel_rfl) (lpok_laws_eqEntry fu) (fun d hd => out_bo_enc d _ hd) ((ev_laws_eqEntry fu a_0 b_1).trans hy)
theorem good_laws_eqEntry (fu : Nat) : ∀ xs o, S_laws_eqEntry fu xs = some o → ∀ y, o.x = some y → Good E Try.prog 53 xs (o.g y) := by
  intro xs o h y hy
  unfold S_laws_eqEntry at h
  split at h
  · rename_i a0_1 a0_2 a0_3 a0_5 a0_6 a0_7 a0_8 a0_9 a0_10 a1_1 a1_2 a1_3 a1_5 a1_6 a1_7 a1_8 a1_9 a1_10
    cases h
    exact goodv_laws_eqEntry fu (⟨a0_1, a0_2, a0_3, (⟨a0_5, a0_6, a0_7, a0_8, a0_9, a0_10⟩ : S_impl_Cmd)⟩ : S_impl_Entry) (⟨a1_1, a1_2, a1_3, (⟨a1_5, a1_6, a1_7, a1_8, a1_9, a1_10⟩ : S_impl_Cmd)⟩ : S_impl_Entry) y hy
  · cases h

/-! laws.eqEntryS -/
def F_laws_eqEntryS_B0 {ρ : Type} (fu : Nat) (a0_0 : (Sl S_impl_Entry)) (b1_1 : (Sl S_impl_Entry)) (k0 : Option ρ) (k1 : Option ρ) (i5_2 : Int) (go : Int → Option ρ) : Option ρ :=
  (bif (decide (i5_2 < ((a0_0.n : Nat) : Int))) then ((bif (decide (0 ≤ i5_2) && decide ((Int.toNat i5_2) < a0_0.n)) then some () else none : Option Unit).bind fun _ => ((bif (decide (0 ≤ i5_2) &&
    decide ((Int.toNat i5_2) < b1_1.n)) then some () else none : Option Unit).bind fun _ => ((F_laws_eqEntry fu (a0_0.f (Int.toNat i5_2)) (b1_1.f (Int.toNat i5_2))).bind fun y57 =>
    (bif (!y57) then k0 else (go (IntKind.wrap .i64 (i5_2 + 1))))))) else k1)
def F_laws_eqEntryS (fu : Nat) (a_0 : (Sl S_impl_Entry)) (b_1 : (Sl S_impl_Entry)) : Option (Bool) :=
  (bif (((a_0.n : Nat) : Int) != ((b_1.n : Nat) : Int)) then (some false) else (L (fun w0 go0 => F_laws_eqEntryS_B0 fu a_0 b_1 (some false) (some true) w0 go0) fu (0 : Int)))
def pcf_laws_eqEntryS (fu : Nat) (f : Nat) (xs : List (D RT den)) : Option (Out RT den) := match f with | 53 => S_laws_eqEntry fu xs | _ => none
def pcx_laws_eqEntryS (fu : Nat) (f : Nat) (xs : List (D RT den)) (ins : List (Ob RT den)) : Option (OutX RT den) := none
def pc_laws_eqEntryS (fu : Nat) : Pc RT den := ⟨pcf_laws_eqEntryS fu, fun _ => false, fun _ => false, pcx_laws_eqEntryS fu⟩
def msk_laws_eqEntryS (b : Nat) : List Nat := match b with | 0 => [2, 3, 4, 6, 7, 8, 9, 10, 11, 12, 13, 14, 15, 16, 17, 18, 19, 20, 21, 22, 23, 24, 25, 26] | 100000 => [0, 1, 2, 3, 5, 6, 7, 8, 9, 10, 11, 12, 13, 14, 15, 16, 17, 18, 19, 20, 21, 22, 23, 24, 25, 26] | _ => []
def ps_laws_eqEntryS_0 : List (Pat RT) := [.flat (.rs .impl_Entry), .flat (.rs .impl_Entry), .flat .dead, .flat .dead, .flat .dead, .flat (.int .i64), .flat .dead, .flat .dead, .flat .dead, .flat .dead, .flat .dead, .flat .dead, .flat .dead, .flat .dead, .flat .dead, .flat .dead, .flat .dead, .flat .dead, .flat .dead, .flat .dead, .flat .dead, .flat .dead, .flat .dead, .flat .dead, .flat .dead, .flat .dead, .flat .dead]
def os_laws_eqEntryS_0 : List (OP RT) := []
def conv_laws_eqEntryS_0 (r : Raw den ps_laws_eqEntryS_0 os_laws_eqEntryS_0) : ((Sl S_impl_Entry) × (Sl S_impl_Entry)) × (Int) := ((r.1.1, r.1.2.1), r.1.2.2.2.2.2.1)
def back_laws_eqEntryS_0 (c : (Sl S_impl_Entry) × (Sl S_impl_Entry)) (w : Int) : St RT den := ⟨[(.rs c.1.z .impl_Entry c.1.n c.1.f), (.rs c.2.z .impl_Entry c.2.n c.2.f), .dead, .dead, .dead, (.int .i64 w), .dead, .dead, .dead, .dead, .dead, .dead, .dead, .dead, .dead, .dead, .dead, .dead, .dead, .dead, .dead, .dead, .dead, .dead, .dead, .dead, .dead], []⟩
def Bk_laws_eqEntryS_0 {ρ : Type} (fu : Nat) (c : (Sl S_impl_Entry) × (Sl S_impl_Entry)) (k : Ex → St RT den → Option ρ) (w : Int) (go : (Int) → Option ρ) : Option ρ := F_laws_eqEntryS_B0 fu c.1 c.2 (k .ret ⟨[.dead, .dead, .dead, .dead, (.bool false), .dead, .dead, .dead, .dead, .dead, .dead, .dead, .dead, .dead, .dead, .dead, .dead, .dead, .dead, .dead, .dead, .dead, .dead, .dead, .dead, .dead, .dead], []⟩) (k (.exit 0) ⟨[.dead, .dead, .dead, .dead, .dead, .dead, .dead, .dead, .dead, .dead, .dead, .dead, .dead, .dead, .dead, .dead, .dead, .dead, .dead, .dead, .dead, .dead, .dead, .dead, .dead, .dead, .dead], []⟩) w go
def lp_laws_eqEntryS (fu : Nat) : Lp RT den (Bool) := fun b s k => match b with | 0 => handle ps_laws_eqEntryS_0 os_laws_eqEntryS_0 conv_laws_eqEntryS_0 (Bk_laws_eqEntryS_0 fu) fu s k | _ => none
theorem ev_laws_eqEntryS (fu : Nat) (a_0 : (Sl S_impl_Entry)) (b_1 : (Sl S_impl_Entry)) : evFun E (pc_laws_eqEntryS fu) msk_laws_eqEntryS (lp_laws_eqEntryS fu) out_bo 40 [(.rs a_0.z .impl_Entry a_0.n a_0.f), (.rs b_1.z .impl_Entry b_1.n b_1.f)] = F_laws_eqEntryS fu a_0 b_1 := by kernel_rfl
noncomputable def body_laws_eqEntryS : Code := Try.f40.body.getD .skip
noncomputable def lc_laws_eqEntryS_0 : Code := ((loops 0 body_laws_eqEntryS).getD 0 (0, .skip)).2
theorem round_laws_eqEntryS_0 (fu : Nat) (it : St RT den → Option (Bool)) (k : Ex → St RT den → Option (Bool)) c w : evCode E (pc_laws_eqEntryS fu) msk_laws_eqEntryS (lp_laws_eqEntryS fu) 0 lc_laws_eqEntryS_0 (back_laws_eqEntryS_0 c w) (after (msk_laws_eqEntryS 0) (msk_laws_eqEntryS 100000) 0 it k) = Bk_laws_eqEntryS_0 fu c k w (fun w => it (back_laws_eqEntryS_0 c w)) := by kernel_rfl
theorem lpok_laws_eqEntryS_0 (fu : Nat) : ∀ s k r, lp_laws_eqEntryS fu 0 s k = some r → ∃ fuel, iter (msk_laws_eqEntryS 0) (msk_laws_eqEntryS 100000) s.objs.length (evCode E (pc_laws_eqEntryS fu) msk_laws_eqEntryS (lp_laws_eqEntryS fu) 0 lc_laws_eqEntryS_0) fuel s k = some r :=
  handle_ok (ps := ps_laws_eqEntryS_0) (os := os_laws_eqEntryS_0) (conv := conv_laws_eqEntryS_0) (B := Bk_laws_eqEntryS_0 fu) (fu := fu) back_laws_eqEntryS_0 (fun raw => by kernel_rfl) 0 (fun c w => by kernel_rfl) (round_laws_eqEntryS_0 fu)
theorem lpok_laws_eqEntryS (fu : Nat) : LpOk E (pc_laws_eqEntryS fu) msk_laws_eqEntryS (lp_laws_eqEntryS fu) (loops 0 body_laws_eqEntryS) := loop_all 1 (by kernel_rfl) fun i hi => match i, hi with
  | 0, _ => by
    have h : (loops 0 body_laws_eqEntryS).getD 0 (0, .skip) = (0, lc_laws_eqEntryS_0) := by kernel_rfl
    rw [h]; exact lpok_laws_eqEntryS_0 fu
  | i + 1, hi => absurd hi (by omega)
def S_laws_eqEntryS (fu : Nat) (xs : List (D RT den)) : Option (Out RT den) := match xs with | [.rs za0_0 .impl_Entry na0_0 fa0_0, .rs za1_0 .impl_Entry na1_0 fa1_0] => some ⟨Bool, F_laws_eqEntryS fu (⟨za0_0, na0_0, fa0_0⟩ : (Sl S_impl_Entry)) (⟨za1_0, na1_0, fa1_0⟩ : (Sl S_impl_Entry)), enc_bo, fun _ => true⟩ | _ => none
theorem hpc_laws_eqEntryS (fu : Nat) : ∀ f xs o, pcf_laws_eqEntryS fu f xs = some o → ∀ y, o.x = some y → Good E Try.prog f xs (o.g y) := by
  intro f xs o h
  unfold pcf_laws_eqEntryS at h
  split at h
  · exact good_laws_eqEntry fu xs o h
  · cases h
theorem hpx_laws_eqEntryS (fu : Nat) : ∀ f xs ins o, pcx_laws_eqEntryS fu f xs ins = some o → ∀ y, o.x = some y → GoodX E Try.prog f xs ins (o.g y).1 (o.g y).2 := by
  intro f xs ins o h
  cases h
theorem goodv_laws_eqEntryS (fu : Nat) (a_0 : (Sl S_impl_Entry)) (b_1 : (Sl S_impl_Entry)) (y : Bool) (hy : F_laws_eqEntryS fu a_0 b_1 = some y) : Good E Try.prog 40 [(.rs a_0.z .impl_Entry a_0.n a_0.f), (.rs b_1.z .impl_Entry b_1.n b_1.f)] (enc_bo y) :=
  fun_good E_ok (pc_good (pc := pc_laws_eqEntryS fu) (hpc_laws_eqEntryS fu) (hpx_laws_eqEntryS fu)) (fn := Try.f40) (c := body_laws_eqEntryS) (out := out_bo) (y := y) (by kernel_rfl) (by kernel_rfl) (by kernel_rfl) (lpok_laws_eqEntryS fu) (fun d hd => out_bo_enc d _ hd) ((ev_laws_eqEntryS fu a_0 b_1).trans hy)
theorem good_laws_eqEntryS (fu : Nat) : ∀ xs o, S_laws_eqEntryS fu xs = some o → ∀ y, o.x = some y → Good E Try.prog 40 xs (o.g y) := by
  intro xs o h y hy
  unfold S_laws_eqEntryS at h
  split at h
  · rename_i za0_0 na0_0 fa0_0 za1_0 na1_0 fa1_0
    cases h
    exact goodv_laws_eqEntryS fu (⟨za0_0, na0_0, fa0_0⟩ : (Sl S_impl_Entry)) (⟨za1_0, na1_0, fa1_0⟩ : (Sl S_impl_Entry)) y hy
  · cases h

/-! laws.eqBackend -/
def F_laws_eqBackend (fu : Nat) (a_0 : S_impl_Backend) (b_1 : S_impl_Backend) : Option (Bool) :=
  (bif (a_0.Name != b_1.Name) then (some false) else (bif (a_0.Address != b_1.Address) then (some false) else (bif (a_0.Weight != b_1.Weight) then (some false) else (bif (a_0.Stage != b_1.Stage) then
    (some false) else (bif (!(a_0.Up == b_1.Up)) then (some false) else (some true))))))
def pcf_laws_eqBackend (fu : Nat) (f : Nat) (xs : List (D RT den)) : Option (Out RT den) := none
def pcx_laws_eqBackend (fu : Nat) (f : Nat) (xs : List (D RT den)) (ins : List (Ob RT den)) : Option (OutX RT den) := none
def pc_laws_eqBackend (fu : Nat) : Pc RT den := ⟨pcf_laws_eqBackend fu, fun _ => false, fun _ => false, pcx_laws_eqBackend fu⟩
def msk_laws_eqBackend (b : Nat) : List Nat := []
def lp_laws_eqBackend (fu : Nat) : Lp RT den (Bool) := fun b s k => none
theorem ev_laws_eqBackend (fu : Nat) (a_0 : S_impl_Backend) (b_1 : S_impl_Backend) : evFun E (pc_laws_eqBackend fu) msk_laws_eqBackend (lp_laws_eqBackend fu) out_bo 62 [(.agg [(.int .i64 a_0.Name), (.int .i64 a_0.Address), (.int .i64 a_0.Weight), (.int .i64 a_0.Stage), (.bool a_0.Up)]), (.agg [(.int .i64 b_1.Name), (.int .i64 b_1.Address), (.int .i64 b_1.Weight), (.int .i64 b_1.Stage), (.bool b_1.Up)])] = F_laws_eqBackend fu a_0 b_1 := by kernel_rfl
noncomputable def body_laws_eqBackend : Code := Try.f62.body.getD .skip
theorem lpok_laws_eqBackend (fu : Nat) : LpOk E (pc_laws_eqBackend fu) msk_laws_eqBackend (lp_laws_eqBackend fu) (loops 0 body_laws_eqBackend) := by
  have h : loops 0 body_laws_eqBackend = [] := by kernel_rfl
  rw [h]; intro p hp; cases hp
def S_laws_eqBackend (fu : Nat) (xs : List (D RT den)) : Option (Out RT den) := match xs with | [.agg [.int .i64 a0_1, .int .i64 a0_2, .int .i64 a0_3, .int .i64 a0_4, .bool a0_5], .agg [.int .i64 a1_1, .int .i64 a1_2, .int .i64 a1_3, .int .i64 a1_4, .bool a1_5]] => some ⟨Bool, F_laws_eqBackend fu (⟨a0_1, a0_2, a0_3, a0_4, a0_5⟩ : S_impl_Backend) (⟨a1_1, a1_2, a1_3, a1_4, a1_5⟩ : S_impl_Backend), enc_bo, fun _ => true⟩ | _ => none
theorem hpc_laws_eqBackend (fu : Nat) : ∀ f xs o, pcf_laws_eqBackend fu f xs = some o → ∀ y, o.x = some y → Good E Try.prog f xs (o.g y) := by
  intro f xs o h
  cases h
theorem hpx_laws_eqBackend (fu : Nat) : ∀ f xs ins o, pcx_laws_eqBackend fu f xs ins = some o → ∀ y, o.x = some y → GoodX E Try.prog f xs ins (o.g y).1 (o.g y).2 := by
  intro f xs ins o h
  cases h
theorem goodv_laws_eqBackend (fu : Nat) (a_0 : S_impl_Backend) (b_1 : S_impl_Backend) (y : Bool) (hy : F_laws_eqBackend fu a_0 b_1 = some y) : Good E Try.prog 62 [(.agg [(.int .i64 a_0.Name), (.int .i64 a_0.Address), (.int .i64 a_0.Weight), (.int .i64 a_0.Stage), (.bool a_0.Up)]), (.agg [(.int .i64 b_1.Name), (.int .i64 b_1.Address), (.int .i64 b_1.Weight), (.int .i64 b_1.Stage), (.bool b_1.Up)])] (enc_bo y) :=
  fun_good E_ok (pc_good (pc := pc_laws_eqBackend fu) (hpc_laws_eqBackend fu) (hpx_laws_eqBackend fu)) (fn := Try.f62) (c := body_laws_eqBackend) (out := out_bo) (y := y) (by kernel_rfl) (by kernel_rfl) (by kernel_rfl) (lpok_laws_eqBackend fu) (fun d hd => out_bo_enc d _ hd) ((ev_laws_eqBackend fu a_0 b_1).trans hy)
theorem good_laws_eqBackend (fu : Nat) : ∀ xs o, S_laws_eqBackend fu xs = some o → ∀ y, o.x = some y → Good E Try.prog 62 xs (o.g y) := by
  intro xs o h y hy
  unfold S_laws_eqBackend at h
  split at h
  · rename_i a0_1 a0_2 a0_3 a0_4 a0_5 a1_1 a1_2 a1_3 a1_4 a1_5
    cases h
    exact goodv_laws_eqBackend fu (⟨a0_1, a0_2, a0_3, a0_4, a0_5⟩ : S_impl_Backend) (⟨a1_1, a1_2, a1_3, a1_4, a1_5⟩ : S_impl_Backend) y hy
  · cases h

/-! laws.eqBackendS -/
def F_laws_eqBackendS_B0 {ρ : Type} (fu : Nat) (a0_0 : (Sl S_impl_Backend)) (b1_1 : (Sl S_impl_Backend)) (k0 : Option ρ) (k1 : Option ρ) (i5_2 : Int) (go : Int → Option ρ) : Option ρ :=
  (bif (decide (i5_2 < ((a0_0.n : Nat) : Int))) then ((bif (decide (0 ≤ i5_2) && decide ((Int.toNat i5_2) < a0_0.n)) then some () else none : Option Unit).bind fun _ => ((bif (decide (0 ≤ i5_2) &&
    decide ((Int.toNat i5_2) < b1_1.n)) then some () else none : Option Unit).bind fun _ => ((F_laws_eqBackend fu (a0_0.f (Int.toNat i5_2)) (b1_1.f (Int.toNat i5_2))).bind fun y66 =>
    (bif (!y66) then k0 else (go (IntKind.wrap .i64 (i5_2 + 1))))))) else k1)
def F_laws_eqBackendS (fu : Nat) (a_0 : (Sl S_impl_Backend)) (b_1 : (Sl S_impl_Backend)) : Option (Bool) :=
  (bif (((a_0.n : Nat) : Int) != ((b_1.n : Nat) : Int)) then (some false) else (L (fun w0 go0 => F_laws_eqBackendS_B0 fu a_0 b_1 (some false) (some true) w0 go0) fu (0 : Int)))
def pcf_laws_eqBackendS (fu : Nat) (f : Nat) (xs : List (D RT den)) : Option (Out RT den) := match f with | 62 => S_laws_eqBackend fu xs | _ => none
def pcx_laws_eqBackendS (fu : Nat) (f : Nat) (xs : List (D RT den)) (ins : List (Ob RT den)) : Option (OutX RT den) := none
def pc_laws_eqBackendS (fu : Nat) : Pc RT den := ⟨pcf_laws_eqBackendS fu, fun _ => false, fun _ => false, pcx_laws_eqBackendS fu⟩
def msk_laws_eqBackendS (b : Nat) : List Nat := match b with | 0 => [2, 3, 4, 6, 7, 8, 9, 10, 11, 12, 13, 14, 15, 16, 17, 18, 19, 20, 21, 22, 23, 24, 25, 26] | 100000 => [0, 1, 2, 3, 5, 6, 7, 8, 9, 10, 11, 12, 13, 14, 15, 16, 17, 18, 19, 20, 21, 22, 23, 24, 25, 26] | _ => []
def ps_laws_eqBackendS_0 : List (Pat RT) := [.flat (.rs .impl_Backend), .flat (.rs .impl_Backend), .flat .dead, .flat .dead, .flat .dead, .flat (.int .i64), .flat .dead, .flat .dead, .flat .dead, .flat .dead, .flat .dead, .flat .dead, .flat .dead, .flat .dead, .flat .dead, .flat .dead, .flat .dead, .flat .dead, .flat .dead, .flat .dead, .flat .dead, .flat .dead, .flat .dead, .flat .dead, .flat .dead, .flat .dead, .flat .dead]
def os_laws_eqBackendS_0 : List (OP RT) := []
def conv_laws_eqBackendS_0 (r : Raw den ps_laws_eqBackendS_0 os_laws_eqBackendS_0) : ((Sl S_impl_Backend) × (Sl S_impl_Backend)) × (Int) := ((r.1.1, r.1.2.1), r.1.2.2.2.2.2.1)
def back_laws_eqBackendS_0 (c : (Sl S_impl_Backend) × (Sl S_impl_Backend)) (w : Int) : St RT den := ⟨[(.rs c.1.z .impl_Backend c.1.n c.1.f), (.rs c.2.z .impl_Backend c.2.n c.2.f), .dead, .dead, .dead, (.int .i64 w), .dead, .dead, .dead, .dead, .dead, .dead, .dead, .dead, .dead, .dead, .dead, .dead, .dead, .dead, .dead, .dead, .dead, .dead, .dead, .dead, .dead], []⟩
def Bk_laws_eqBackendS_0 {ρ : Type} (fu : Nat) (c : (Sl S_impl_Backend) × (Sl S_impl_Backend)) (k : Ex → St RT den → Option ρ) (w : Int) (go : (Int) → Option ρ) : Option ρ := F_laws_eqBackendS_B0 fu c.1 c.2 (k .ret ⟨[.dead, .dead, .dead, .dead, (.bool false), .dead, .dead, .dead, .dead, .dead, .dead, .dead, .dead, .dead, .dead, .dead, .dead, .dead, .dead, .dead, .dead, .dead, .dead, .dead, .dead, .dead, .dead], []⟩) (k (.exit 0) ⟨[.dead, .dead, .dead, .dead, .dead, .dead, .dead, .dead, .dead, .dead, .dead, .dead, .dead, .dead, .dead, .dead, .dead, .dead, .dead, .dead, .dead, .dead, .dead, .dead, .dead, .dead, .dead], []⟩) w go
def lp_laws_eqBackendS (fu : Nat) : Lp RT den (Bool) := fun b s k => match b with | 0 => handle ps_laws_eqBackendS_0 os_laws_eqBackendS_0 conv_laws_eqBackendS_0 (Bk_laws_eqBackendS_0 fu) fu s k | _ => none
theorem ev_laws_eqBackendS (fu : Nat) (a_0 : (Sl S_impl_Backend)) (b_1 : (Sl S_impl_Backend)) : evFun E (pc_laws_eqBackendS fu) msk_laws_eqBackendS (lp_laws_eqBackendS fu) out_bo 58 [(.rs a_0.z .impl_Backend a_0.n a_0.f), (.rs b_1.z .impl_Backend b_1.n b_1.f)] = F_laws_eqBackendS fu a_0 b_1 := by kernel_rfl
noncomputable def body_laws_eqBackendS : Code := Try.f58.body.getD .skip
noncomputable def lc_laws_eqBackendS_0 : Code := ((loops 0 body_laws_eqBackendS).getD 0 (0, .skip)).2
theorem round_laws_eqBackendS_0 (fu : Nat) (it : St RT den → Option (Bool)) (k : Ex → St RT den → Option (Bool)) c w : evCode E (pc_laws_eqBackendS fu) msk_laws_eqBackendS (lp_laws_eqBackendS fu) 0 lc_laws_eqBackendS_0 (back_laws_eqBackendS_0 c w) (after (msk_laws_eqBackendS 0) (msk_laws_eqBackendS 100000) 0 it k) = Bk_laws_eqBackendS_0 fu c k w (fun w => it (back_laws_eqBackendS_0 c w)) := by kernel_rfl
theorem lpok_laws_eqBackendS_0 (fu : Nat) : ∀ s k r, lp_laws_eqBackendS fu 0 s k = some r → ∃ fuel, iter (msk_laws_eqBackendS 0) (msk_laws_eqBackendS 100000) s.objs.length (evCode E (pc_laws_eqBackendS fu) msk_laws_eqBackendS (lp_laws_eqBackendS fu) 0 lc_laws_eqBackendS_0) fuel s k = some r :=
  handle_ok (ps := ps_laws_eqBackendS_0) (os := os_laws_eqBackendS_0) (conv := conv_laws_eqBackendS_0) (B := Bk_laws_eqBackendS_0 fu) (fu := fu) back_laws_eqBackendS_0 (fun raw => by kernel_rfl) 0 (fun c w => by kernel_rfl) (round_laws_eqBackendS_0 fu)
theorem lpok_laws_eqBackendS (fu : Nat) : LpOk E (pc_laws_eqBackendS fu) msk_laws_eqBackendS (lp_laws_eqBackendS fu) (loops 0 body_laws_eqBackendS) := loop_all 1 (by kernel_rfl) fun i hi => match i, hi with
  | 0, _ => by
    have h : (loops 0 body_laws_eqBackendS).getD 0 (0, .skip) = (0, lc_laws_eqBackendS_0) := by kernel_rfl
    rw [h]; exact lpok_laws_eqBackendS_0 fu
  | i + 1, hi => absurd hi (by omega)
def S_laws_eqBackendS (fu : Nat) (xs : List (D RT den)) : Option (Out RT den) := match xs with | [.rs za0_0 .impl_Backend na0_0 fa0_0, .rs za1_0 .impl_Backend na1_0 fa1_0] => some ⟨Bool, F_laws_eqBackendS fu (⟨za0_0, na0_0, fa0_0⟩ : (Sl S_impl_Backend)) (⟨za1_0, na1_0, fa1_0⟩ : (Sl S_impl_Backend)), enc_bo, fun _ => true⟩ | _ => none
theorem hpc_laws_eqBackendS (fu : Nat) : ∀ f xs o, pcf_laws_eqBackendS fu f xs = some o → ∀ y, o.x = some y → Good E Try.prog f xs (o.g y) := by
  intro f xs o h
  unfold pcf_laws_eqBackendS at h
  split at h
  · exact good_laws_eqBackend fu xs o h
  · cases h
theorem hpx_laws_eqBackendS (fu : Nat) : ∀ f xs ins o, pcx_laws_eqBackendS fu f xs ins = some o → ∀ y, o.x = some y → GoodX E Try.prog f xs ins (o.g y).1 (o.g y).2 := by
  intro f xs ins o h
  cases h
theorem goodv_laws_eqBackendS (fu : Nat) (a_0 : (Sl S_impl_Backend)) (b_1 : (Sl S_impl_Backend)) (y : Bool) (hy : F_laws_eqBackendS fu a_0 b_1 = some y) : Good E Try.prog 58 [(.rs a_0.z .impl_Backend a_0.n a_0.f), (.rs b_1.z .impl_Backend b_1.n b_1.f)] (enc_bo y) :=
  fun_good E_ok (pc_good (pc := pc_laws_eqBackendS fu) (hpc_laws_eqBackendS fu) (hpx_laws_eqBackendS fu)) (fn := Try.f58) (c := body_laws_eqBackendS) (out := out_bo) (y := y) (by kernel_rfl) (by kernel_rfl) (by kernel_rfl) (lpok_laws_eqBackendS fu) (fun d hd => out_bo_enc d _ hd) ((ev_laws_eqBackendS fu a_0 b_1).trans hy)
theorem good_laws_eqBackendS (fu : Nat) : ∀ xs o, S_laws_eqBackendS fu xs = some o → ∀ y, o.x = some y → Good E Try.prog 58 xs (o.g y) := by
  intro xs o h y hy
  unfold S_laws_eqBackendS at h
  split at h
  · rename_i za0_0 na0_0 fa0_0 za1_0 na1_0 fa1_0
    cases h
    exact goodv_laws_eqBackendS fu (⟨za0_0, na0_0, fa0_0⟩ : (Sl S_impl_Backend)) (⟨za1_0, na1_0, fa1_0⟩ : (Sl S_impl_Backend)) y hy
  · cases h

/-! laws.eqInt64S -/
def F_laws_eqInt64S_B0 {ρ : Type} (fu : Nat) (a0_0 : (Sl Int)) (b1_1 : (Sl Int)) (k0 : Option ρ) (k1 : Option ρ) (i5_2 : Int) (go : Int → Option ρ) : Option ρ :=
  (bif (decide (i5_2 < ((a0_0.n : Nat) : Int))) then ((bif (decide (0 ≤ i5_2) && decide ((Int.toNat i5_2) < a0_0.n)) then some () else none : Option Unit).bind fun _ => ((bif (decide (0 ≤ i5_2) &&
    decide ((Int.toNat i5_2) < b1_1.n)) then some () else none : Option Unit).bind fun _ => (bif ((a0_0.f (Int.toNat i5_2)) != (b1_1.f (Int.toNat i5_2))) then k0 else (go (IntKind.wrap .i64 (i5_2 + 1)))))) else
    k1)
def F_laws_eqInt64S (fu : Nat) (a_0 : (Sl Int)) (b_1 : (Sl Int)) : Option (Bool) :=
  (bif (((a_0.n : Nat) : Int) != ((b_1.n : Nat) : Int)) then (some false) else (L (fun w0 go0 => F_laws_eqInt64S_B0 fu a_0 b_1 (some false) (some true) w0 go0) fu (0 : Int)))
def pcf_laws_eqInt64S (fu : Nat) (f : Nat) (xs : List (D RT den)) : Option (Out RT den) := none
def pcx_laws_eqInt64S (fu : Nat) (f : Nat) (xs : List (D RT den)) (ins : List (Ob RT den)) : Option (OutX RT den) := none
def pc_laws_eqInt64S (fu : Nat) : Pc RT den := ⟨pcf_laws_eqInt64S fu, fun _ => false, fun _ => false, pcx_laws_eqInt64S fu⟩
def msk_laws_eqInt64S (b : Nat) : List Nat := match b with | 0 => [2, 3, 4, 6, 7, 8, 9, 10, 11, 12, 13, 14, 15, 16, 17, 18, 19, 20, 21, 22, 23, 24, 25] | 100000 => [0, 1, 2, 3, 5, 6, 7, 8, 9, 10, 11, 12, 13, 14, 15, 16, 17, 18, 19, 20, 21, 22, 23, 24, 25] | _ => []
def ps_laws_eqInt64S_0 : List (Pat RT) := [.flat (.rs .i64), .flat (.rs .i64), .flat .dead, .flat .dead, .flat .dead, .flat (.int .i64), .flat .dead, .flat .dead, .flat .dead, .flat .dead, .flat .dead, .flat .dead, .flat .dead, .flat .dead, .flat .dead, .flat .dead, .flat .dead, .flat .dead, .flat .dead, .flat .dead, .flat .dead, .flat .dead, .flat .dead, .flat .dead, .flat .dead, .flat .dead]
def os_laws_eqInt64S_0 : List (OP RT) := []
def conv_laws_eqInt64S_0 (r : Raw den ps_laws_eqInt64S_0 os_laws_eqInt64S_0) : ((Sl Int) × (Sl Int)) × (Int) := ((r.1.1, r.1.2.1), r.1.2.2.2.2.2.1)
def back_laws_eqInt64S_0 (c : (Sl Int) × (Sl Int)) (w : Int) : St RT den := ⟨[(.rs c.1.z .i64 c.1.n c.1.f), (.rs c.2.z .i64 c.2.n c.2.f), .dead, .dead, .dead, (.int .i64 w), .dead, .dead, .dead, .dead, .dead, .dead, .dead, .dead, .dead, .dead, .dead, .dead, .dead, .dead, .dead, .dead, .dead, .dead, .dead, .dead], []⟩
def Bk_laws_eqInt64S_0 {ρ : Type} (fu : Nat) (c : (Sl Int) × (Sl Int)) (k : Ex → St RT den → Option ρ) (w : Int) (go : (Int) → Option ρ) : Option ρ := F_laws_eqInt64S_B0 fu c.1 c.2 (k .ret ⟨[.dead, .dead, .dead, .dead, (.bool false), .dead, .dead, .dead, .dead, .dead, .dead, .dead, .dead, .dead, .dead, .dead, .dead, .dead, .dead, .dead, .dead, .dead, .dead, .dead, .dead, .dead], []⟩) (k (.exit 0) ⟨[.dead, .dead, .dead, .dead, .dead, .dead, .dead, .dead, .dead, .dead, .dead, .dead, .dead, .dead, .dead, .dead, .dead, .dead, .dead, .dead, .dead, .dead, .dead, .dead, .dead, .dead], []⟩) w go
def lp_laws_eqInt64S (fu : Nat) : Lp RT den (Bool) := fun b s k => match b with | 0 => handle ps_laws_eqInt64S_0 os_laws_eqInt64S_0 conv_laws_eqInt64S_0 (Bk_laws_eqInt64S_0 fu) fu s k | _ => none
theorem ev_laws_eqInt64S (fu : Nat) (a_0 : (Sl Int)) (b_1 : (Sl Int)) : evFun E (pc_laws_eqInt64S fu) msk_laws_eqInt64S (lp_laws_eqInt64S fu) out_bo 47 [(.rs a_0.z .i64 a_0.n a_0.f), (.rs b_1.z .i64 b_1.n b_1.f)] = F_laws_eqInt64S fu a_0 b_1 := by kernel_rfl
noncomputable def body_laws_eqInt64S : Code := Try.f47.body.getD .skip
noncomputable def lc_laws_eqInt64S_0 : Code := ((loops 0 body_laws_eqInt64S).getD 0 (0, .skip)).2
theorem round_laws_eqInt64S_0 (fu : Nat) (it : St RT den → Option (Bool)) (k : Ex → St RT den → Option (Bool)) c w : evCode E (pc_laws_eqInt64S fu) msk_laws_eqInt64S (lp_laws_eqInt64S fu) 0 lc_laws_eqInt64S_0 (back_laws_eqInt64S_0 c w) (after (msk_laws_eqInt64S 0) (msk_laws_eqInt64S 100000) 0 it k) = Bk_laws_eqInt64S_0 fu c k w (fun w => it (back_laws_eqInt64S_0 c w)) := by kernel_rfl
theorem lpok_laws_eqInt64S_0 (fu : Nat) : ∀ s k r, lp_laws_eqInt64S fu 0 s k = some r → ∃ fuel, iter (msk_laws_eqInt64S 0) (msk_laws_eqInt64S 100000) s.objs.length (evCode E (pc_laws_eqInt64S fu) msk_laws_eqInt64S (lp_laws_eqInt64S fu) 0 lc_laws_eqInt64S_0) fuel s k = some r :=
  handle_ok (ps := ps_laws_eqInt64S_0) (os := os_laws_eqInt64S_0) (conv := conv_laws_eqInt64S_0) (B := Bk_laws_eqInt64S_0 fu) (fu := fu) back_laws_eqInt64S_0 (fun raw => by kernel_rfl) 0 (fun c w => by kernel_rfl) (round_laws_eqInt64S_0 fu)
theorem lpok_laws_eqInt64S (fu : Nat) : LpOk E (pc_laws_eqInt64S fu) msk_laws_eqInt64S (lp_laws_eqInt64S fu) (loops 0 body_laws_eqInt64S) := loop_all 1 (by kernel_rfl) fun i hi => match i, hi with
  | 0, _ => by
    have h : (loops 0 body_laws_eqInt64S).getD 0 (0, .skip) = (0, lc_laws_eqInt64S_0) := by kernel_rfl
    rw [h]; exact lpok_laws_eqInt64S_0 fu
  | i + 1, hi => absurd hi (by omega)
def S_laws_eqInt64S (fu : Nat) (xs : List (D RT den)) : Option (Out RT den) := match xs with | [.rs za0_0 .i64 na0_0 fa0_0, .rs za1_0 .i64 na1_0 fa1_0] => some ⟨Bool, F_laws_eqInt64S fu (⟨za0_0, na0_0, fa0_0⟩ : (Sl Int)) (⟨za1_0, na1_0, fa1_0⟩ : (Sl Int)), enc_bo, fun _ => true⟩ | _ => none
theorem hpc_laws_eqInt64S (fu : Nat) : ∀ f xs o, pcf_laws_eqInt64S fu f xs = some o → ∀ y, o.x = some y → Good E Try.prog f xs (o.g y) := by
  intro f xs o h
  cases h
theorem hpx_laws_eqInt64S (fu : Nat) : ∀ f xs ins o, pcx_laws_eqInt64S fu f xs ins = some o → ∀ y, o.x = some y → GoodX E Try.prog f xs ins (o.g y).1 (o.g y).2 := by
  intro f xs ins o h
  cases h
theorem goodv_laws_eqInt64S (fu : Nat) (a_0 : (Sl Int)) (b_1 : (Sl Int)) (y : Bool) (hy : F_laws_eqInt64S fu a_0 b_1 = some y) : Good E Try.prog 47 [(.rs a_0.z .i64 a_0.n a_0.f), (.rs b_1.z .i64 b_1.n b_1.f)] (enc_bo y) :=
  fun_good E_ok (pc_good (pc := pc_laws_eqInt64S fu) (hpc_laws_eqInt64S fu) (hpx_laws_eqInt64S fu)) (fn := Try.f47) (c := body_laws_eqInt64S) (out := out_bo) (y := y) (by kernel_rfl) (by kernel_rfl) (by kernel_rfl) (lpok_laws_eqInt64S fu) (fun d hd => out_bo_enc d _ hd) ((ev_laws_eqInt64S fu a_0 b_1).trans hy)
theorem good_laws_eqInt64S (fu : Nat) : ∀ xs o, S_laws_eqInt64S fu xs = some o → ∀ y, o.x = some y → Good E Try.prog 47 xs (o.g y) := by
  intro xs o h y hy
  unfold S_laws_eqInt64S at h
  split at h
  · rename_i za0_0 na0_0 fa0_0 za1_0 na1_0 fa1_0
    cases h
    exact goodv_laws_eqInt64S fu (⟨za0_0, na0_0, fa0_0⟩ : (Sl Int)) (⟨za1_0, na1_0, fa1_0⟩ : (Sl Int)) y hy
  · cases h

/-! laws.eqVip -/
def F_laws_eqVip (fu : Nat) (a_0 : S_impl_Vip) (b_1 : S_impl_Vip) : Option (Bool) :=
  (bif (a_0.Address != b_1.Address) then (some false) else (bif (a_0.Port != b_1.Port) then (some false) else (bif (a_0.Proto != b_1.Proto) then (some false) else ((F_laws_eqInt64S fu a_0.Names b_1.Names).bind fun y68 =>
    (bif (!y68) then (some false) else (some true))))))
def pcf_laws_eqVip (fu : Nat) (f : Nat) (xs : List (D RT den)) : Option (Out RT den) := match f with | 47 => S_laws_eqInt64S fu xs | _ => none
def pcx_laws_eqVip (fu : Nat) (f : Nat) (xs : List (D RT den)) (ins : List (Ob RT den)) : Option (OutX RT den) := none
def pc_laws_eqVip (fu : Nat) : Pc RT den := ⟨pcf_laws_eqVip fu, fun _ => false, fun _ => false, pcx_laws_eqVip fu⟩
def msk_laws_eqVip (b : Nat) : List Nat := []
def lp_laws_eqVip (fu : Nat) : Lp RT den (Bool) := fun b s k => none
theorem ev_laws_eqVip (fu : Nat) (a_0 : S_impl_Vip) (b_1 : S_impl_Vip) : evFun E (pc_laws_eqVip fu) msk_laws_eqVip (lp_laws_eqVip fu) out_bo 63 [(.agg [(.int .i64 a_0.Address), (.int .i64 a_0.Port), (.int .i64 a_0.Proto), (.rs a_0.Names.z .i64 a_0.Names.n a_0.Names.f)]), (.agg [(.int .i64 b_1.Address), (.int .i64 b_1.Port), (.int .i64 b_1.Proto), (.rs b_1.Names.z .i64 b_1.Names.n b_1.Names.f)])] = F_laws_eqVip fu a_0 b_1 := by kernel_rfl
noncomputable def body_laws_eqVip : Code := Try.f63.body.getD .skip
theorem lpok_laws_eqVip (fu : Nat) : LpOk E (pc_laws_eqVip fu) msk_laws_eqVip (lp_laws_eqVip fu) (loops 0 body_laws_eqVip) := by
  have h : loops 0 body_laws_eqVip = [] := by kernel_rfl
  rw [h]; intro p hp; cases hp
def S_laws_eqVip (fu : Nat) (xs : List (D RT den)) : Option (Out RT den) := match xs with | [.agg [.int .i64 a0_1, .int .i64 a0_2, .int .i64 a0_3, .rs za0_4 .i64 na0_4 fa0_4], .agg [.int .i64 a1_1, .int .i64 a1_2, .int .i64 a1_3, .rs za1_4 .i64 na1_4 fa1_4]] => some ⟨Bool, F_laws_eqVip fu (⟨a0_1, a0_2, a0_3, (⟨za0_4, na0_4, fa0_4⟩ : (Sl Int))⟩ : S_impl_Vip) (⟨a1_1, a1_2, a1_3, (⟨za1_4, na1_4, fa1_4⟩ : (Sl Int))⟩ : S_impl_Vip), enc_bo, fun _ => true⟩ | _ => none
theorem hpc_laws_eqVip (fu : Nat) : ∀ f xs o, pcf_laws_eqVip fu f xs = some o → ∀ y, o.x = some y → Good E Try.prog f xs (o.g y) := by
  intro f xs o h
  unfold pcf_laws_eqVip at h
  split at h
  · exact good_laws_eqInt64S fu xs o h
  · cases h
theorem hpx_laws_eqVip (fu : Nat) : ∀ f xs ins o, pcx_laws_eqVip fu f xs ins = some o → ∀ y, o.x = some y → GoodX E Try.prog f xs ins (o.g y).1 (o.g y).2 := by
  intro f xs ins o h
  cases h
theorem goodv_laws_eqVip (fu : Nat) (a_0 : S_impl_Vip) (b_1 : S_impl_Vip) (y : Bool) (hy : F_laws_eqVip fu a_0 b_1 = some y) : Good E Try.prog 63 [(.agg [(.int .i64 a_0.Address), (.int .i64 a_0.Port), (.int .i64 a_0.Proto), (.rs a_0.Names.z .i64 a_0.Names.n a_0.Names.f)]), (.agg [(.int .i64 b_1.Address), (.int .i64 b_1.Port), (.int .i64 b_1.Proto), (.rs b_1.Names.z .i64 b_1.Names.n b_1.Names.f)])] (enc_bo y) :=
  fun_good E_ok (pc_good (pc := pc_laws_eqVip fu) (hpc_laws_eqVip fu) (hpx_laws_eqVip fu)) (fn := Try.f63) (c := body_laws_eqVip) (out := out_bo) (y := y) (by kernel_rfl) (by kernel_rfl) (by kernel_rfl) (lpok_laws_eqVip fu) (fun d hd => out_bo_enc d _ hd) ((ev_laws_eqVip fu a_0 b_1).trans hy)
theorem good_laws_eqVip (fu : Nat) : ∀ xs o, S_laws_eqVip fu xs = some o → ∀ y, o.x = some y → Good E Try.prog 63 xs (o.g y) := by
  intro xs o h y hy
  unfold S_laws_eqVip at h
  split at h
  · rename_i a0_1 a0_2 a0_3 za0_4 na0_4 fa0_4 a1_1 a1_2 a1_3 za1_4 na1_4 fa1_4
    cases h
    exact goodv_laws_eqVip fu (⟨a0_1, a0_2, a0_3, (⟨za0_4, na0_4, fa0_4⟩ : (Sl Int))⟩ : S_impl_Vip) (⟨a1_1, a1_2, a1_3, (⟨za1_4, na1_4, fa1_4⟩ : (Sl Int))⟩ : S_impl_Vip) y hy
  · cases h

/-! laws.eqVipS -/
def F_laws_eqVipS_B0 {ρ : Type} (fu : Nat) (a0_0 : (Sl S_impl_Vip)) (b1_1 : (Sl S_impl_Vip)) (k0 : Option ρ) (k1 : Option ρ) (i5_2 : Int) (go : Int → Option ρ) : Option ρ :=
  (bif (decide (i5_2 < ((a0_0.n : Nat) : Int))) then ((bif (decide (0 ≤ i5_2) && decide ((Int.toNat i5_2) < a0_0.n)) then some () else none : Option Unit).bind fun _ => ((bif (decide (0 ≤ i5_2) &&
    decide ((Int.toNat i5_2) < b1_1.n)) then some () else none : Option Unit).bind fun _ => ((F_laws_eqVip fu (a0_0.f (Int.toNat i5_2)) (b1_1.f (Int.toNat i5_2))).bind fun y67 =>
    (bif (!y67) then k0 else (go (IntKind.wrap .i64 (i5_2 + 1))))))) else k1)
def F_laws_eqVipS (fu : Nat) (a_0 : (Sl S_impl_Vip)) (b_1 : (Sl S_impl_Vip)) : Option (Bool) :=
  (bif (((a_0.n : Nat) : Int) != ((b_1.n : Nat) : Int)) then (some false) else (L (fun w0 go0 => F_laws_eqVipS_B0 fu a_0 b_1 (some false) (some true) w0 go0) fu (0 : Int)))
def pcf_laws_eqVipS (fu : Nat) (f : Nat) (xs : List (D RT den)) : Option (Out RT den) := match f with | 63 => S_laws_eqVip fu xs | _ => none
def pcx_laws_eqVipS (fu : Nat) (f : Nat) (xs : List (D RT den)) (ins : List (Ob RT den)) : Option (OutX RT den) := none
def pc_laws_eqVipS (fu : Nat) : Pc RT den := ⟨pcf_laws_eqVipS fu, fun _ => false, fun _ => false, pcx_laws_eqVipS fu⟩
def msk_laws_eqVipS (b : Nat) : List Nat := match b with | 0 => [2, 3, 4, 6, 7, 8, 9, 10, 11, 12, 13, 14, 15, 16, 17, 18, 19, 20, 21, 22, 23, 24, 25, 26] | 100000 => [0, 1, 2, 3, 5, 6, 7, 8, 9, 10, 11, 12, 13, 14, 15, 16, 17, 18, 19, 20, 21, 22, 23, 24, 25, 26] | _ => []
def ps_laws_eqVipS_0 : List (Pat RT) := [.flat (.rs .impl_Vip), .flat (.rs .impl_Vip), .flat .dead, .flat .dead, .flat .dead, .flat (.int .i64), .flat .dead, .flat .dead, .flat .dead, .flat .dead, .flat .dead, .flat .dead, .flat .dead, .flat .dead, .flat .dead, .flat .dead, .flat .dead, .flat .dead, .flat .dead, .flat .dead, .flat .dead, .flat .dead, .flat .dead, .flat .dead, .flat .dead, .flat .dead, .flat .dead]
def os_laws_eqVipS_0 : List (OP RT) := []
def conv_laws_eqVipS_0 (r : Raw den ps_laws_eqVipS_0 os_laws_eqVipS_0) : ((Sl S_impl_Vip) × (Sl S_impl_Vip)) × (Int) := ((r.1.1, r.1.2.1), r.1.2.2.2.2.2.1)
def back_laws_eqVipS_0 (c : (Sl S_impl_Vip) × (Sl S_impl_Vip)) (w : Int) : St RT den := ⟨[(.rs c.1.z .impl_Vip c.1.n c.1.f), (.rs c.2.z .impl_Vip c.2.n c.2.f), .dead, .dead, .dead, (.int .i64 w), .dead, .dead, .dead, .dead, .dead, .dead, .dead, .dead, .dead, .dead, .dead, .dead, .dead, .dead, .dead, .dead, .dead, .dead, .dead, .dead, .dead], []⟩
def Bk_laws_eqVipS_0 {ρ : Type} (fu : Nat) (c : (Sl S_impl_Vip) × (Sl S_impl_Vip)) (k : Ex → St RT den → Option ρ) (w : Int) (go : (Int) → Option ρ) : Option ρ := F_laws_eqVipS_B0 fu c.1 c.2 (k .ret ⟨[.dead, .dead, .dead, .dead, (.bool false), .dead, .dead, .dead, .dead, .dead, .dead, .dead, .dead, .dead, .dead, .dead, .dead, .dead, .dead, .dead, .dead, .dead, .dead, .dead, .dead, .dead, .dead], []⟩) (k (.exit 0) ⟨[.dead, .dead, .dead, .dead, .dead, .dead, .dead, .dead, .dead, .dead, .dead, .dead, .dead, .dead, .dead, .dead, .dead, .dead, .dead, .dead, .dead, .dead, .dead, .dead, .dead, .dead, .dead], []⟩) w go
def lp_laws_eqVipS (fu : Nat) : Lp RT den (Bool) := fun b s k => match b with | 0 => handle ps_laws_eqVipS_0 os_laws_eqVipS_0 conv_laws_eqVipS_0 (Bk_laws_eqVipS_0 fu) fu s k | _ => none
theorem ev_laws_eqVipS (fu : Nat) (a_0 : (Sl S_impl_Vip)) (b_1 : (Sl S_impl_Vip)) : evFun E (pc_laws_eqVipS fu) msk_laws_eqVipS (lp_laws_eqVipS fu) out_bo 59 [(.rs a_0.z .impl_Vip a_0.n a_0.f), (.rs b_1.z .impl_Vip b_1.n b_1.f)] = F_laws_eqVipS fu a_0 b_1 := by kernel_rfl
noncomputable def body_laws_eqVipS : Code := Try.f59.body.getD .skip
noncomputable def lc_laws_eqVipS_0 : Code := ((loops 0 body_laws_eqVipS).getD 0 (0, .skip)).2
theorem round_laws_eqVipS_0 (fu : Nat) (it : St RT den → Option (Bool)) (k : Ex → St RT den → Option (Bool)) c w : evCode E (pc_laws_eqVipS fu) msk_laws_eqVipS (lp_laws_eqVipS fu) 0 lc_laws_eqVipS_0 (back_laws_eqVipS_0 c w) (after (msk_laws_eqVipS 0) (msk_laws_eqVipS 100000) 0 it k) = Bk_laws_eqVipS_0 fu c k w (fun w => it (back_laws_eqVipS_0 c w)) := by kernel_rfl
theorem lpok_laws_eqVipS_0 (fu : Nat) : ∀ s k r, lp_laws_eqVipS fu 0 s k = some r → ∃ fuel, iter (msk_laws_eqVipS 0) (msk_laws_eqVipS 100000) s.objs.length (evCode E (pc_laws_eqVipS fu) msk_laws_eqVipS (lp_laws_eqVipS fu) 0 lc_laws_eqVipS_0) fuel s k = some r :=
  handle_ok (ps := ps_laws_eqVipS_0) (os := os_laws_eqVipS_0) (conv := conv_laws_eqVipS_0) (B := Bk_laws_eqVipS_0 fu) (fu := fu) back_laws_eqVipS_0 (fun raw => by kernel_rfl) 0 (fun c w => by kernel_rfl) (round_laws_eqVipS_0 fu)
theorem lpok_laws_eqVipS (fu : Nat) : LpOk E (pc_laws_eqVipS fu) msk_laws_eqVipS (lp_laws_eqVipS fu) (loops 0 body_laws_eqVipS) := loop_all 1 (by kernel_rfl) fun i hi => match i, hi with
  | 0, _ => by
    have h : (loops 0 body_laws_eqVipS).getD 0 (0, .skip) = (0, lc_laws_eqVipS_0) := by kernel_rfl
    rw [h]; exact lpok_laws_eqVipS_0 fu
  | i + 1, hi => absurd hi (by omega)
def S_laws_eqVipS (fu : Nat) (xs : List (D RT den)) : Option (Out RT den) := match xs with | [.rs za0_0 .impl_Vip na0_0 fa0_0, .rs za1_0 .impl_Vip na1_0 fa1_0] => some ⟨Bool, F_laws_eqVipS fu (⟨za0_0, na0_0, fa0_0⟩ : (Sl S_impl_Vip)) (⟨za1_0, na1_0, fa1_0⟩ : (Sl S_impl_Vip)), enc_bo, fun _ => true⟩ | _ => none
theorem hpc_laws_eqVipS (fu : Nat) : ∀ f xs o, pcf_laws_eqVipS fu f xs = some o → ∀ y, o.x = some y → Good E Try.prog f xs (o.g y) := by
  intro f xs o h
  unfold pcf_laws_eqVipS at h
  split at h
  · exact good_laws_eqVip fu xs o h
  · cases h
theorem hpx_laws_eqVipS (fu : Nat) : ∀ f xs ins o, pcx_laws_eqVipS fu f xs ins = some o → ∀ y, o.x = some y → GoodX E Try.prog f xs ins (o.g y).1 (o.g y).2 := by
  intro f xs ins o h
  cases h
theorem goodv_laws_eqVipS (fu : Nat) (a_0 : (Sl S_impl_Vip)) (b_1 : (Sl S_impl_Vip)) (y : Bool) (hy : F_laws_eqVipS fu a_0 b_1 = some y) : Good E Try.prog 59 [(.rs a_0.z .impl_Vip a_0.n a_0.f), (.rs b_1.z .impl_Vip b_1.n b_1.f)] (enc_bo y) :=
  fun_good E_ok (pc_good (pc := pc_laws_eqVipS fu) (hpc_laws_eqVipS fu) (hpx_laws_eqVipS fu)) (fn := Try.f59) (c := body_laws_eqVipS) (out := out_bo) (y := y) (by kernel_rfl) (by kernel_rfl) (by kernel_rfl) (lpok_laws_eqVipS fu) (fun d hd => out_bo_enc d _ hd) ((ev_laws_eqVipS fu a_0 b_1).trans hy)
theorem good_laws_eqVipS (fu : Nat) : ∀ xs o, S_laws_eqVipS fu xs = some o → ∀ y, o.x = some y → Good E Try.prog 59 xs (o.g y) := by
  intro xs o h y hy
  unfold S_laws_eqVipS at h
  split at h
  · rename_i za0_0 na0_0 fa0_0 za1_0 na1_0 fa1_0
    cases h
    exact goodv_laws_eqVipS fu (⟨za0_0, na0_0, fa0_0⟩ : (Sl S_impl_Vip)) (⟨za1_0, na1_0, fa1_0⟩ : (Sl S_impl_Vip)) y hy
  · cases h

/-! laws.eqConfig -/
def F_laws_eqConfig (fu : Nat) (a_0 : S_impl_Config) (b_1 : S_impl_Config) : Option (Bool) :=
  (bif (a_0.Version != b_1.Version) then (some false) else ((F_laws_eqBackendS fu a_0.Backends b_1.Backends).bind fun y64 => (bif (!y64) then (some false) else ((F_laws_eqVipS fu a_0.Vips b_1.Vips).bind fun y65 =>
    (bif (!y65) then (some false) else (some true))))))
def pcf_laws_eqConfig (fu : Nat) (f : Nat) (xs : List (D RT den)) : Option (Out RT den) := match f with | 58 => S_laws_eqBackendS fu xs | 59 => S_laws_eqVipS fu xs | _ => none
def pcx_laws_eqConfig (fu : Nat) (f : Nat) (xs : List (D RT den)) (ins : List (Ob RT den)) : Option (OutX RT den) := none
def pc_laws_eqConfig (fu : Nat) : Pc RT den := ⟨pcf_laws_eqConfig fu, fun _ => false, fun _ => false, pcx_laws_eqConfig fu⟩
def msk_laws_eqConfig (b : Nat) : List Nat := []
def lp_laws_eqConfig (fu : Nat) : Lp RT den (Bool) := fun b s k => none
theorem ev_laws_eqConfig (fu : Nat) (a_0 : S_impl_Config) (b_1 : S_impl_Config) : evFun E (pc_laws_eqConfig fu) msk_laws_eqConfig (lp_laws_eqConfig fu) out_bo 46 [(.agg [(.int .i64 a_0.Version), (.rs a_0.Backends.z .impl_Backend a_0.Backends.n a_0.Backends.f), (.rs a_0.Vips.z .impl_Vip a_0.Vips.n a_0.Vips.f)]), (.agg [(.int .i64 b_1.Version), (.rs b_1.Backends.z .impl_Backend b_1.Backends.n b_1.Backends.f), (.rs b_1.Vips.z .impl_Vip b_1.Vips.n b_1.Vips.f)])] = F_laws_eqConfig fu a_0 b_1 := by kernel_rfl
noncomputable def body_laws_eqConfig : Code := Try.f46.body.getD .skip
theorem lpok_laws_eqConfig (fu : Nat) : LpOk E (pc_laws_eqConfig fu) msk_laws_eqConfig (lp_laws_eqConfig fu) (loops 0 body_laws_eqConfig) := by
  have h : loops 0 body_laws_eqConfig = [] := by kernel_rfl
  rw [h]; intro p hp; cases hp
def S_laws_eqConfig (fu : Nat) (xs : List (D RT den)) : Option (Out RT den) := match xs with | [.agg [.int .i64 a0_1, .rs za0_2 .impl_Backend na0_2 fa0_2, .rs za0_3 .impl_Vip na0_3 fa0_3], .agg [.int .i64 a1_1, .rs za1_2 .impl_Backend na1_2 fa1_2, .rs za1_3 .impl_Vip na1_3 fa1_3]] => some ⟨Bool, F_laws_eqConfig fu (⟨a0_1, (⟨za0_2, na0_2, fa0_2⟩ : (Sl S_impl_Backend)), (⟨za0_3, na0_3, fa0_3⟩ : (Sl S_impl_Vip))⟩ : S_impl_Config) (⟨a1_1, (⟨za1_2, na1_2, fa1_2⟩ : (Sl S_impl_Backend)), (⟨za1_3, na1_3, fa1_3⟩ : (Sl S_impl_Vip))⟩ : S_impl_Config), enc_bo, fun _ => true⟩ | _ => none
theorem hpc_laws_eqConfig (fu : Nat) : ∀ f xs o, pcf_laws_eqConfig fu f xs = some o → ∀ y, o.x = some y → Good E Try.prog f xs (o.g y) := by
  intro f xs o h
  unfold pcf_laws_eqConfig at h
  split at h
  · exact good_laws_eqBackendS fu xs o h
  · exact good_laws_eqVipS fu xs o h
  · cases h
theorem hpx_laws_eqConfig (fu : Nat) : ∀ f xs ins o, pcx_laws_eqConfig fu f xs ins = some o → ∀ y, o.x = some y → GoodX E Try.prog f xs ins (o.g y).1 (o.g y).2 := by
  intro f xs ins o h
  cases h
theorem goodv_laws_eqConfig (fu : Nat) (a_0 : S_impl_Config) (b_1 : S_impl_Config) (y : Bool) (hy : F_laws_eqConfig fu a_0 b_1 = some y) : Good E Try.prog 46 [(.agg [(.int .i64 a_0.Version), (.rs a_0.Backends.z .impl_Backend a_0.Backends.n a_0.Backends.f), (.rs a_0.Vips.z .impl_Vip a_0.Vips.n a_0.Vips.f)]), (.agg [(.int .i64 b_1.Version), (.rs b_1.Backends.z .impl_Backend b_1.Backends.n b_1.Backends.f), (.rs b_1.Vips.z .impl_Vip b_1.Vips.n b_1.Vips.f)])] (enc_bo y) :=
  fun_good E_ok (pc_good (pc := pc_laws_eqConfig fu) (hpc_laws_eqConfig fu) (hpx_laws_eqConfig fu)) (fn := Try.f46) (c := body_laws_eqConfig) (out := out_bo) (y := y) (by kernel_rfl) (by kernel_rfl) (by kernel_rfl) (lpok_laws_eqConfig fu) (fun d hd => out_bo_enc d _ hd) ((ev_laws_eqConfig fu a_0 b_1).trans hy)
theorem good_laws_eqConfig (fu : Nat) : ∀ xs o, S_laws_eqConfig fu xs = some o → ∀ y, o.x = some y → Good E Try.prog 46 xs (o.g y) := by
  intro xs o h y hy
  unfold S_laws_eqConfig at h
  split at h
  · rename_i a0_1 za0_2 na0_2 fa0_2 za0_3 na0_3 fa0_3 a1_1 za1_2 na1_2 fa1_2 za1_3 na1_3 fa1_3
    cases h
    exact goodv_laws_eqConfig fu (⟨a0_1, (⟨za0_2, na0_2, fa0_2⟩ : (Sl S_impl_Backend)), (⟨za0_3, na0_3, fa0_3⟩ : (Sl S_impl_Vip))⟩ : S_impl_Config) (⟨a1_1, (⟨za1_2, na1_2, fa1_2⟩ : (Sl S_impl_Backend)), (⟨za1_3, na1_3, fa1_3⟩ : (Sl S_impl_Vip))⟩ : S_impl_Config) y hy
  · cases h

/-! laws.eqWatch -/
def F_laws_eqWatch (fu : Nat) (a_0 : S_impl_Watch) (b_1 : S_impl_Watch) : Option (Bool) :=
  (bif (!(a_0.Ready == b_1.Ready)) then (some false) else ((F_laws_eqConfig fu a_0.Config b_1.Config).bind fun y63 => (bif (!y63) then (some false) else (some true))))
def pcf_laws_eqWatch (fu : Nat) (f : Nat) (xs : List (D RT den)) : Option (Out RT den) := match f with | 46 => S_laws_eqConfig fu xs | _ => none
def pcx_laws_eqWatch (fu : Nat) (f : Nat) (xs : List (D RT den)) (ins : List (Ob RT den)) : Option (OutX RT den) := none
def pc_laws_eqWatch (fu : Nat) : Pc RT den := ⟨pcf_laws_eqWatch fu, fun _ => false, fun _ => false, pcx_laws_eqWatch fu⟩
def msk_laws_eqWatch (b : Nat) : List Nat := []
def lp_laws_eqWatch (fu : Nat) : Lp RT den (Bool) := fun b s k => none
theorem ev_laws_eqWatch (fu : Nat) (a_0 : S_impl_Watch) (b_1 : S_impl_Watch) : evFun E (pc_laws_eqWatch fu) msk_laws_eqWatch (lp_laws_eqWatch fu) out_bo 31 [(.agg [(.bool a_0.Ready), (.int .i64 a_0.Config.Version), (.rs a_0.Config.Backends.z .impl_Backend a_0.Config.Backends.n a_0.Config.Backends.f), (.rs a_0.Config.Vips.z .impl_Vip a_0.Config.Vips.n a_0.Config.Vips.f)]), (.agg [(.bool b_1.Ready), (.int .i64 b_1.Config.Version), (.rs b_1.Config.Backends.z .impl_Backend b_1.Config.Backends.n b_1.Config.Backends.f), (.rs b_1.Config.Vips.z .impl_Vip b_1.Config.Vips.n b_1.Config.Vips.f)])] = F_laws_eqWatch fu a_0 b_1 := by kernel_rfl
noncomputable def body_laws_eqWatch : Code := Try.f31.body.getD .skip
theorem lpok_laws_eqWatch (fu : Nat) : LpOk E (pc_laws_eqWatch fu) msk_laws_eqWatch (lp_laws_eqWatch fu) (loops 0 body_laws_eqWatch) := by
  have h : loops 0 body_laws_eqWatch = [] := by kernel_rfl
  rw [h]; intro p hp; cases hp
def S_laws_eqWatch (fu : Nat) (xs : List (D RT den)) : Option (Out RT den) := match xs with | [.agg [.bool a0_1, .int .i64 a0_3, .rs za0_4 .impl_Backend na0_4 fa0_4, .rs za0_5 .impl_Vip na0_5 fa0_5], .agg [.bool a1_1, .int .i64 a1_3, .rs za1_4 .impl_Backend na1_4 fa1_4, .rs za1_5 .impl_Vip na1_5 fa1_5]] => some ⟨Bool, F_laws_eqWatch fu (⟨a0_1, (⟨a0_3, (⟨za0_4, na0_4, fa0_4⟩ : (Sl S_impl_Backend)), (⟨za0_5, na0_5, fa0_5⟩ : (Sl S_impl_Vip))⟩ : S_impl_Config)⟩ : S_impl_Watch) (⟨a1_1, (⟨a1_3, (⟨za1_4, na1_4, fa1_4⟩ : (Sl S_impl_Backend)), (⟨za1_5, na1_5, fa1_5⟩ : (Sl S_impl_Vip))⟩ : S_impl_Config)⟩ : S_impl_Watch), enc_bo, fun _ => true⟩ | _ => none
theorem hpc_laws_eqWatch (fu : Nat) : ∀ f xs o, pcf_laws_eqWatch fu f xs = some o → ∀ y, o.x = some y → Good E Try.prog f xs (o.g y) := by
  intro f xs o h
  unfold pcf_laws_eqWatch at h
  split at h
  · exact good_laws_eqConfig fu xs o h
  · cases h
theorem hpx_laws_eqWatch (fu : Nat) : ∀ f xs ins o, pcx_laws_eqWatch fu f xs ins = some o → ∀ y, o.x = some y → GoodX E Try.prog f xs ins (o.g y).1 (o.g y).2 := by
  intro f xs ins o h
  cases h
theorem goodv_laws_eqWatch (fu : Nat) (a_0 : S_impl_Watch) (b_1 : S_impl_Watch) (y : Bool) (hy : F_laws_eqWatch fu a_0 b_1 = some y) : Good E Try.prog 31 [(.agg [(.bool a_0.Ready), (.int .i64 a_0.Config.Version), (.rs a_0.Config.Backends.z .impl_Backend a_0.Config.Backends.n a_0.Config.Backends.f), (.rs a_0.Config.Vips.z .impl_Vip a_0.Config.Vips.n a_0.Config.Vips.f)]), (.agg [(.bool b_1.Ready), (.int .i64 b_1.Config.Version), (.rs b_1.Config.Backends.z .impl_Backend b_1.Config.Backends.n b_1.Config.Backends.f), (.rs b_1.Config.Vips.z .impl_Vip b_1.Config.Vips.n b_1.Config.Vips.f)])] (enc_bo y) :=
  fun_good E_ok (pc_good (pc := pc_laws_eqWatch fu) (hpc_laws_eqWatch fu) (hpx_laws_eqWatch fu)) (fn := Try.f31) (c := body_laws_eqWatch) (out := out_bo) (y := y) (by kernel_rfl) (by kernel_rfl) (by kernel_rfl) (lpok_laws_eqWatch fu) (fun d hd => out_bo_enc d _ hd) ((ev_laws_eqWatch fu a_0 b_1).trans hy)
theorem good_laws_eqWatch (fu : Nat) : ∀ xs o, S_laws_eqWatch fu xs = some o → ∀ y, o.x = some y → Good E Try.prog 31 xs (o.g y) := by
  intro xs o h y hy
  unfold S_laws_eqWatch at h
  split at h
  · rename_i a0_1 a0_3 za0_4 na0_4 fa0_4 za0_5 na0_5 fa0_5 a1_1 a1_3 za1_4 na1_4 fa1_4 za1_5 na1_5 fa1_5
    cases h
    exact goodv_laws_eqWatch fu (⟨a0_1, (⟨a0_3, (⟨za0_4, na0_4, fa0_4⟩ : (Sl S_impl_Backend)), (⟨za0_5, na0_5, fa0_5⟩ : (Sl S_impl_Vip))⟩ : S_impl_Config)⟩ : S_impl_Watch) (⟨a1_1, (⟨a1_3, (⟨za1_4, na1_4, fa1_4⟩ : (Sl S_impl_Backend)), (⟨za1_5, na1_5, fa1_5⟩ : (Sl S_impl_Vip))⟩ : S_impl_Config)⟩ : S_impl_Watch) y hy
  · cases h

/-! laws.eqInt64SS -/
def F_laws_eqInt64SS_B0 {ρ : Type} (fu : Nat) (a0_0 : (Sl (Sl Int))) (b1_1 : (Sl (Sl Int))) (k0 : Option ρ) (k1 : Option ρ) (i5_2 : Int) (go : Int → Option ρ) : Option ρ :=
  (bif (decide (i5_2 < ((a0_0.n : Nat) : Int))) then ((bif (decide (0 ≤ i5_2) && decide ((Int.toNat i5_2) < a0_0.n)) then some () else none : Option Unit).bind fun _ => ((bif (decide (0 ≤ i5_2) &&
    decide ((Int.toNat i5_2) < b1_1.n)) then some () else none : Option Unit).bind fun _ => ((F_laws_eqInt64S fu (a0_0.f (Int.toNat i5_2)) (b1_1.f (Int.toNat i5_2))).bind fun y69 =>
    (bif (!y69) then k0 else (go (IntKind.wrap .i64 (i5_2 + 1))))))) else k1)
def F_laws_eqInt64SS (fu : Nat) (a_0 : (Sl (Sl Int))) (b_1 : (Sl (Sl Int))) : Option (Bool) :=
  (bif (((a_0.n : Nat) : Int) != ((b_1.n : Nat) : Int)) then (some false) else (L (fun w0 go0 => F_laws_eqInt64SS_B0 fu a_0 b_1 (some false) (some true) w0 go0) fu (0 : Int)))
def pcf_laws_eqInt64SS (fu : Nat) (f : Nat) (xs : List (D RT den)) : Option (Out RT den) := match f with | 47 => S_laws_eqInt64S fu xs | _ => none
def pcx_laws_eqInt64SS (fu : Nat) (f : Nat) (xs : List (D RT den)) (ins : List (Ob RT den)) : Option (OutX RT den) := none
def pc_laws_eqInt64SS (fu : Nat) : Pc RT den := ⟨pcf_laws_eqInt64SS fu, fun _ => false, fun _ => false, pcx_laws_eqInt64SS fu⟩
def msk_laws_eqInt64SS (b : Nat) : List Nat := match b with | 0 => [2, 3, 4, 6, 7, 8, 9, 10, 11, 12, 13, 14, 15, 16, 17, 18, 19, 20, 21, 22, 23, 24, 25, 26] | 100000 => [0, 1, 2, 3, 5, 6, 7, 8, 9, 10, 11, 12, 13, 14, 15, 16, 17, 18, 19, 20, 21, 22, 23, 24, 25, 26] | _ => []
def ps_laws_eqInt64SS_0 : List (Pat RT) := [.flat (.rs .sl_i64), .flat (.rs .sl_i64), .flat .dead, .flat .dead, .flat .dead, .flat (.int .i64), .flat .dead, .flat .dead, .flat .dead, .flat .dead, .flat .dead, .flat .dead, .flat .dead, .flat .dead, .flat .dead, .flat .dead, .flat .dead, .flat .dead, .flat .dead, .flat .dead, .flat .dead, .flat .dead, .flat .dead, .flat .dead, .flat .dead, .flat .dead, .flat .dead]
def os_laws_eqInt64SS_0 : List (OP RT) := []
def conv_laws_eqInt64SS_0 (r : Raw den ps_laws_eqInt64SS_0 os_laws_eqInt64SS_0) : ((Sl (Sl Int)) × (Sl (Sl Int))) × (Int) := ((r.1.1, r.1.2.1), r.1.2.2.2.2.2.1)
def back_laws_eqInt64SS_0 (c : (Sl (Sl Int)) × (Sl (Sl Int))) (w : Int) : St RT den := ⟨[(.rs c.1.z .sl_i64 c.1.n c.1.f), (.rs c.2.z .sl_i64 c.2.n c.2.f), .dead, .dead, .dead, (.int .i64 w), .dead, .dead, .dead, .dead, .dead, .dead, .dead, .dead, .dead, .dead, .dead, .dead, .dead, .dead, .dead, .dead, .dead, .dead, .dead, .dead, .dead], []⟩
def Bk_laws_eqInt64SS_0 {ρ : Type} (fu : Nat) (c : (Sl (Sl Int)) × (Sl (Sl Int))) (k : Ex → St RT den → Option ρ) (w : Int) (go : (Int) → Option ρ) : Option ρ := F_laws_eqInt64SS_B0 fu c.1 c.2 (k .ret ⟨[.dead, .dead, .dead, .dead, (.bool false), .dead, .dead, .dead, .dead, .dead, .dead, .dead, .dead, .dead, .dead, .dead, .dead, .dead, .dead, .dead, .dead, .dead, .dead, .dead, .dead, .dead, .dead], []⟩) (k (.exit 0) ⟨[.dead, .dead, .dead, .dead, .dead, .dead, .dead, .dead, .dead, .dead, .dead, .dead, .dead, .dead, .dead, .dead, .dead, .dead, .dead, .dead, .dead, .dead, .dead, .dead, .dead, .dead, .dead], []⟩) w go
def lp_laws_eqInt64SS (fu : Nat) : Lp RT den (Bool) := fun b s k => match b with | 0 => handle ps_laws_eqInt64SS_0 os_laws_eqInt64SS_0 conv_laws_eqInt64SS_0 (Bk_laws_eqInt64SS_0 fu) fu s k | _ => none
theorem ev_laws_eqInt64SS (fu : Nat) (a_0 : (Sl (Sl Int))) (b_1 : (Sl (Sl Int))) : evFun E (pc_laws_eqInt64SS fu) msk_laws_eqInt64SS (lp_laws_eqInt64SS fu) out_bo 32 [(.rs a_0.z .sl_i64 a_0.n a_0.f), (.rs b_1.z .sl_i64 b_1.n b_1.f)] = F_laws_eqInt64SS fu a_0 b_1 := by kernel_rfl
noncomputable def body_laws_eqInt64SS : Code := Try.f32.body.getD .skip
noncomputable def lc_laws_eqInt64SS_0 : Code := ((loops 0 body_laws_eqInt64SS).getD 0 (0, .skip)).2
theorem round_laws_eqInt64SS_0 (fu : Nat) (it : St RT den → Option (Bool)) (k : Ex → St RT den → Option (Bool)) c w : evCode E (pc_laws_eqInt64SS fu) msk_laws_eqInt64SS (lp_laws_eqInt64SS fu) 0 lc_laws_eqInt64SS_0 (back_laws_eqInt64SS_0 c w) (after (msk_laws_eqInt64SS 0) (msk_laws_eqInt64SS 100000) 0 it k) = Bk_laws_eqInt64SS_0 fu c k w (fun w => it (back_laws_eqInt64SS_0 c w)) := by kernel_rfl
theorem lpok_laws_eqInt64SS_0 (fu : Nat) : ∀ s k r, lp_laws_eqInt64SS fu 0 s k = some r → ∃ fuel, iter (msk_laws_eqInt64SS 0) (msk_laws_eqInt64SS 100000) s.objs.length (evCode E (pc_laws_eqInt64SS fu) msk_laws_eqInt64SS (lp_laws_eqInt64SS fu) 0 lc_laws_eqInt64SS_0) fuel s k = some r :=
  handle_ok (ps := ps_laws_eqInt64SS_0) (os := os_laws_eqInt64SS_0) (conv := conv_laws_eqInt64SS_0) (B := Bk_laws_eqInt64SS_0 fu) (fu := fu) back_laws_eqInt64SS_0 (fun raw => by kernel_rfl) 0 (fun c w => by kernel_rfl) (round_laws_eqInt64SS_0 fu)
theorem lpok_laws_eqInt64SS (fu : Nat) : LpOk E (pc_laws_eqInt64SS fu) msk_laws_eqInt64SS (lp_laws_eqInt64SS fu) (loops 0 body_laws_eqInt64SS) := loop_all 1 (by kernel_rfl) fun i hi => match i, hi with
  | 0, _ => by
    have h : (loops 0 body_laws_eqInt64SS).getD 0 (0, .skip) = (0, lc_laws_eqInt64SS_0) := by kernel_rfl
    rw [h]; exact lpok_laws_eqInt64SS_0 fu
  | i + 1, hi => absurd hi (by omega)
def S_laws_eqInt64SS (fu : Nat) (xs : List (D RT den)) : Option (Out RT den) := match xs with | [.rs za0_0 .sl_i64 na0_0 fa0_0, .rs za1_0 .sl_i64 na1_0 fa1_0] => some ⟨Bool, F_laws_eqInt64SS fu (⟨za0_0, na0_0, fa0_0⟩ : (Sl (Sl Int))) (⟨za1_0, na1_0, fa1_0⟩ : (Sl (Sl Int))), enc_bo, fun _ => true⟩ | _ => none
theorem hpc_laws_eqInt64SS (fu : Nat) : ∀ f xs o, pcf_laws_eqInt64SS fu f xs = some o → ∀ y, o.x = some y → Good E Try.prog f xs (o.g y) := by
  intro f xs o h
  unfold pcf_laws_eqInt64SS at h
  split at h
  · exact good_laws_eqInt64S fu xs o h
  · cases h
theorem hpx_laws_eqInt64SS (fu : Nat) : ∀ f xs ins o, pcx_laws_eqInt64SS fu f xs ins = some o → ∀ y, o.x = some y → GoodX E Try.prog f xs ins (o.g y).1 (o.g y).2 := by
  intro f xs ins o h
  cases h
theorem goodv_laws_eqInt64SS (fu : Nat) (a_0 : (Sl (Sl Int))) (b_1 : (Sl (Sl Int))) (y : Bool) (hy : F_laws_eqInt64SS fu a_0 b_1 = some y) : Good E Try.prog 32 [(.rs a_0.z .sl_i64 a_0.n a_0.f), (.rs b_1.z .sl_i64 b_1.n b_1.f)] (enc_bo y) :=
  fun_good E_ok (pc_good (pc := pc_laws_eqInt64SS fu) (hpc_laws_eqInt64SS fu) (hpx_laws_eqInt64SS fu)) (fn := Try.f32) (c := body_laws_eqInt64SS) (out := out_bo) (y := y) (by kernel_rfl) (by kernel_rfl) (by kernel_rfl) (lpok_laws_eqInt64SS fu) (fun d hd => out_bo_enc d _ hd) ((ev_laws_eqInt64SS fu a_0 b_1).trans hy)
theorem good_laws_eqInt64SS (fu : Nat) : ∀ xs o, S_laws_eqInt64SS fu xs = some o → ∀ y, o.x = some y → Good E Try.prog 32 xs (o.g y) := by
  intro xs o h y hy
  unfold S_laws_eqInt64SS at h
  split at h
  · rename_i za0_0 na0_0 fa0_0 za1_0 na1_0 fa1_0
    cases h
    exact goodv_laws_eqInt64SS fu (⟨za0_0, na0_0, fa0_0⟩ : (Sl (Sl Int))) (⟨za1_0, na1_0, fa1_0⟩ : (Sl (Sl Int))) y hy
  · cases h

/-! laws.eqFlow -/
def F_laws_eqFlow (fu : Nat) (a_0 : S_impl_Flow) (b_1 : S_impl_Flow) : Option (Bool) :=
  (bif (a_0.From != b_1.From) then (some false) else (bif (a_0.To != b_1.To) then (some false) else (bif (a_0.Proto != b_1.Proto) then (some false) else (bif (a_0.FromP != b_1.FromP) then
    (some false) else (bif (a_0.ToP != b_1.ToP) then (some false) else (some true))))))
def pcf_laws_eqFlow (fu : Nat) (f : Nat) (xs : List (D RT den)) : Option (Out RT den) := none
def pcx_laws_eqFlow (fu : Nat) (f : Nat) (xs : List (D RT den)) (ins : List (Ob RT den)) : Option (OutX RT den) := none
def pc_laws_eqFlow (fu : Nat) : Pc RT den := ⟨pcf_laws_eqFlow fu, fun _ => false, fun _ => false, pcx_laws_eqFlow fu⟩
def msk_laws_eqFlow (b : Nat) : List Nat := []
def lp_laws_eqFlow (fu : Nat) : Lp RT den (Bool) := fun b s k => none
theorem ev_laws_eqFlow (fu : Nat) (a_0 : S_impl_Flow) (b_1 : S_impl_Flow) : evFun E (pc_laws_eqFlow fu) msk_laws_eqFlow (lp_laws_eqFlow fu) out_bo 60 [(.agg [(.int .i64 a_0.From), (.int .i64 a_0.To), (.int .i64 a_0.Proto), (.int .i64 a_0.FromP), (.int .i64 a_0.ToP)]), (.agg [(.int .i64 b_1.From), (.int .i64 b_1.To), (.int .i64 b_1.Proto), (.int .i64 b_1.FromP), (.int .i64 b_1.ToP)])] = F_laws_eqFlow fu a_0 b_1 := by kernel_rfl
noncomputable def body_laws_eqFlow : Code := Try.f60.body.getD .skip
theorem lpok_laws_eqFlow (fu : Nat) : LpOk E (pc_laws_eqFlow fu) msk_laws_eqFlow (lp_laws_eqFlow fu) (loops 0 body_laws_eqFlow) := by
  have h : loops 0 body_laws_eqFlow = [] := by kernel_rfl
  rw [h]; intro p hp; cases hp
def S_laws_eqFlow (fu : Nat) (xs : List (D RT den)) : Option (Out RT den) := match xs with | [.agg [.int .i64 a0_1, .int .i64 a0_2, .int .i64 a0_3, .int .i64 a0_4, .int .i64 a0_5], .agg [.int .i64 a1_1, .int .i64 a1_2, .int .i64 a1_3, .int .i64 a1_4, .int .i64 a1_5]] => some ⟨Bool, F_laws_eqFlow fu (⟨a0_1, a0_2, a0_3, a0_4, a0_5⟩ : S_impl_Flow) (⟨a1_1, a1_2, a1_3, a1_4, a1_5⟩ : S_impl_Flow), enc_bo, fun _ => true⟩ | _ => none
theorem hpc_laws_eqFlow (fu : Nat) : ∀ f xs o, pcf_laws_eqFlow fu f xs = some o → ∀ y, o.x = some y → Good E Try.prog f xs (o.g y) := by
  intro f xs o h
  cases h
theorem hpx_laws_eqFlow (fu : Nat) : ∀ f xs ins o, pcx_laws_eqFlow fu f xs ins = some o → ∀ y, o.x = some y → GoodX E Try.prog f xs ins (o.g y).1 (o.g y).2 := by
  intro f xs ins o h
  cases h
theorem goodv_laws_eqFlow (fu : Nat) (a_0 : S_impl_Flow) (b_1 : S_impl_Flow) (y : Bool) (hy : F_laws_eqFlow fu a_0 b_1 = some y) : Good E Try.prog 60 [(.agg [(.int .i64 a_0.From), (.int .i64 a_0.To), (.int .i64 a_0.Proto), (.int .i64 a_0.FromP), (.int .i64 a_0.ToP)]), (.agg [(.int .i64 b_1.From), (.int .i64 b_1.To), (.int .i64 b_1.Proto), (.int .i64 b_1.FromP), (.int .i64 b_1.ToP)])] (enc_bo y) :=
  fun_good E_ok (pc_good (pc := pc_laws_eqFlow fu) (hpc_laws_eqFlow fu) (hpx_laws_eqFlow fu)) (fn := Try.f60) (c := body_laws_eqFlow) (out := out_bo) (y := y) (by kernel_rfl) (by kernel_rfl) (by kernel_rfl) (lpok_laws_eqFlow fu) (fun d hd => out_bo_enc d _ hd) ((ev_laws_eqFlow fu a_0 b_1).trans hy)
theorem good_laws_eqFlow (fu : Nat) : ∀ xs o, S_laws_eqFlow fu xs = some o → ∀ y, o.x = some y → Good E Try.prog 60 xs (o.g y) := by
  intro xs o h y hy
  unfold S_laws_eqFlow at h
  split at h
  · rename_i a0_1 a0_2 a0_3 a0_4 a0_5 a1_1 a1_2 a1_3 a1_4 a1_5
    cases h
    exact goodv_laws_eqFlow fu (⟨a0_1, a0_2, a0_3, a0_4, a0_5⟩ : S_impl_Flow) (⟨a1_1, a1_2, a1_3, a1_4, a1_5⟩ : S_impl_Flow) y hy
  · cases h

/-! laws.eqHeld -/
def F_laws_eqHeld (fu : Nat) (a_0 : S_impl_Held) (b_1 : S_impl_Held) : Option (Bool) :=
  ((F_laws_eqFlow fu a_0.Flow b_1.Flow).bind fun y71 => (bif (!y71) then (some false) else (bif (a_0.Name != b_1.Name) then (some false) else (bif (a_0.Seen != b_1.Seen) then (some false) else
    (some true)))))
def pcf_laws_eqHeld (fu : Nat) (f : Nat) (xs : List (D RT den)) : Option (Out RT den) := match f with | 60 => S_laws_eqFlow fu xs | _ => none
def pcx_laws_eqHeld (fu : Nat) (f : Nat) (xs : List (D RT den)) (ins : List (Ob RT den)) : Option (OutX RT den) := none
def pc_laws_eqHeld (fu : Nat) : Pc RT den := ⟨pcf_laws_eqHeld fu, fun _ => false, fun _ => false, pcx_laws_eqHeld fu⟩
def msk_laws_eqHeld (b : Nat) : List Nat := []
def lp_laws_eqHeld (fu : Nat) : Lp RT den (Bool) := fun b s k => none
theorem ev_laws_eqHeld (fu : Nat) (a_0 : S_impl_Held) (b_1 : S_impl_Held) : evFun E (pc_laws_eqHeld fu) msk_laws_eqHeld (lp_laws_eqHeld fu) out_bo 48 [(.agg [(.int .i64 a_0.Flow.From), (.int .i64 a_0.Flow.To), (.int .i64 a_0.Flow.Proto), (.int .i64 a_0.Flow.FromP), (.int .i64 a_0.Flow.ToP), (.int .i64 a_0.Name), (.int .i64 a_0.Seen)]), (.agg [(.int .i64 b_1.Flow.From), (.int .i64 b_1.Flow.To), (.int .i64 b_1.Flow.Proto), (.int .i64 b_1.Flow.FromP), (.int .i64 b_1.Flow.ToP), (.int .i64 b_1.Name), (.int .i64 b_1.Seen)])] = F_laws_eqHeld fu a_0 b_1 := by kernel_rfl
noncomputable def body_laws_eqHeld : Code := Try.f48.body.getD .skip
theorem lpok_laws_eqHeld (fu : Nat) : LpOk E (pc_laws_eqHeld fu) msk_laws_eqHeld (lp_laws_eqHeld fu) (loops 0 body_laws_eqHeld) := by
  have h : loops 0 body_laws_eqHeld = [] := by kernel_rfl
  rw [h]; intro p hp; cases hp
def S_laws_eqHeld (fu : Nat) (xs : List (D RT den)) : Option (Out RT den) := match xs with | [.agg [.int .i64 a0_2, .int .i64 a0_3, .int .i64 a0_4, .int .i64 a0_5, .int .i64 a0_6, .int .i64 a0_7, .int .i64 a0_8], .agg [.int .i64 a1_2, .int .i64 a1_3, .int .i64 a1_4, .int .i64 a1_5, .int .i64 a1_6, .int .i64 a1_7, .int .i64 a1_8]] => some ⟨Bool, F_laws_eqHeld fu (⟨(⟨a0_2, a0_3, a0_4, a0_5, a0_6⟩ : S_impl_Flow), a0_7, a0_8⟩ : S_impl_Held) (⟨(⟨a1_2, a1_3, a1_4, a1_5, a1_6⟩ : S_impl_Flow), a1_7, a1_8⟩ : S_impl_Held), enc_bo, fun _ => true⟩ | _ => none
theorem hpc_laws_eqHeld (fu : Nat) : ∀ f xs o, pcf_laws_eqHeld fu f xs = some o → ∀ y, o.x = some y → Good E Try.prog f xs (o.g y) := by
  intro f xs o h
  unfold pcf_laws_eqHeld at h
  split at h
  · exact good_laws_eqFlow fu xs o h
  · cases h
theorem hpx_laws_eqHeld (fu : Nat) : ∀ f xs ins o, pcx_laws_eqHeld fu f xs ins = some o → ∀ y, o.x = some y → GoodX E Try.prog f xs ins (o.g y).1 (o.g y).2 := by
  intro f xs ins o h
  cases h
theorem goodv_laws_eqHeld (fu : Nat) (a_0 : S_impl_Held) (b_1 : S_impl_Held) (y : Bool) (hy : F_laws_eqHeld fu a_0 b_1 = some y) : Good E Try.prog 48 [(.agg [(.int .i64 a_0.Flow.From), (.int .i64 a_0.Flow.To), (.int .i64 a_0.Flow.Proto), (.int .i64 a_0.Flow.FromP), (.int .i64 a_0.Flow.ToP), (.int .i64 a_0.Name), (.int .i64 a_0.Seen)]), (.agg [(.int .i64 b_1.Flow.From), (.int .i64 b_1.Flow.To), (.int .i64 b_1.Flow.Proto), (.int .i64 b_1.Flow.FromP), (.int .i64 b_1.Flow.ToP), (.int .i64 b_1.Name), (.int .i64 b_1.Seen)])] (enc_bo y) :=
  fun_good E_ok (pc_good (pc := pc_laws_eqHeld fu) (hpc_laws_eqHeld fu) (hpx_laws_eqHeld fu)) (fn := Try.f48) (c := body_laws_eqHeld) (out := out_bo) (y := y) (by kernel_rfl) (by kernel_rfl) (by kernel_rfl) (lpok_laws_eqHeld fu) (fun d hd => out_bo_enc d _ hd) ((ev_laws_eqHeld fu a_0 b_1).trans hy)
theorem good_laws_eqHeld (fu : Nat) : ∀ xs o, S_laws_eqHeld fu xs = some o → ∀ y, o.x = some y → Good E Try.prog 48 xs (o.g y) := by
  intro xs o h y hy
  unfold S_laws_eqHeld at h
  split at h
  · rename_i a0_2 a0_3 a0_4 a0_5 a0_6 a0_7 a0_8 a1_2 a1_3 a1_4 a1_5 a1_6 a1_7 a1_8
    cases h
    exact goodv_laws_eqHeld fu (⟨(⟨a0_2, a0_3, a0_4, a0_5, a0_6⟩ : S_impl_Flow), a0_7, a0_8⟩ : S_impl_Held) (⟨(⟨a1_2, a1_3, a1_4, a1_5, a1_6⟩ : S_impl_Flow), a1_7, a1_8⟩ : S_impl_Held) y hy
  · cases h
end Go.Proofs.Ytaghkcpgpjbdnaa.Pn
