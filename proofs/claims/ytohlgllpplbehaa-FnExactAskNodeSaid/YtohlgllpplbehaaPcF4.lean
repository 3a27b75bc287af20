/- The functions' evaluated forms, each a proved summary. Conditions: none. -/
import Derived.Test.YtohlgllpplbehaaPcF3
namespace Go.Proofs.Ytohlgllpplbehaa.Pc
open Go Go.RowKit Go.Proofs Vm
set_option linter.unusedVariables false
set_option linter.unusedSimpArgs false
set_option maxRecDepth 100000
/-! laws.markInt64S -/
def F_laws_markInt64S_L_B0 {ρ : Type} (fu : Nat) (a0_0 : Nat) (on0_3 : Nat) (k0 : Int → (Nat → Int) → Option ρ) (k1_1 : Int) (i5_2 : Int) (of0_4 : (Nat → Int)) (go : Int → Int → (Nat → Int) → Option ρ) : Option ρ :=
  (bif (decide (i5_2 < ((a0_0 : Nat) : Int))) then ((bif (decide (0 ≤ i5_2) && decide ((Int.toNat i5_2) < a0_0)) then some () else none : Option Unit).bind fun _ => (go (IntKind.wrap .i64 (k1_1 + 1)) (IntKind.wrap .i64 (i5_2 + 1)) (fun j =>
    if j = (Int.toNat i5_2) then k1_1 else of0_4 j))) else (k0 k1_1 of0_4))
def F_laws_markInt64S_L (fu : Nat) (a_0_0 : Nat) (k_1_1 : Int) (rn0 : Nat) (rf0 : (Nat → Int)) : Option (Int × (Nat × (Nat → Int))) :=
  (L (fun w0 go0 => F_laws_markInt64S_L_B0 fu a_0_0 rn0 (fun z273 z274 => (some (z273, (rn0, z274)))) w0.1 w0.2.1 w0.2.2 (fun q0 q1 q2 => go0 (q0, q1, q2))) fu ((k_1_1, 0, rf0) : Int × Int × (Nat → Int)))
def pcf_laws_markInt64S_L (fu : Nat) (f : Nat) (xs : List (D RT den)) : Option (Out RT den) := none
def pcx_laws_markInt64S_L (fu : Nat) (f : Nat) (xs : List (D RT den)) (ins : List (Ob RT den)) : Option (OutX RT den) := none
def pc_laws_markInt64S_L (fu : Nat) : Pc RT den := ⟨pcf_laws_markInt64S_L fu, fun _ => false, fun _ => false, pcx_laws_markInt64S_L fu⟩
def msk_laws_markInt64S_L (b : Nat) : List Nat := match b with | 0 => [2, 3, 4, 6, 7, 8, 9, 10, 11, 12, 13, 14, 15, 16, 17, 18] | 100000 => [0, 2, 3, 5, 6, 7, 8, 9, 10, 11, 12, 13, 14, 15, 16, 17, 18] | _ => []
def ps_laws_markInt64S_L_0 : List (Pat RT) := [.flat (.os 0), .flat (.int .i64), .flat .dead, .flat .dead, .flat .dead, .flat (.int .i64), .flat .dead, .flat .dead, .flat .dead, .flat .dead, .flat .dead, .flat .dead, .flat .dead, .flat .dead, .flat .dead, .flat .dead, .flat .dead, .flat .dead, .flat .dead]
def os_laws_markInt64S_L_0 : List (OP RT) := [.row true .i64]
def conv_laws_markInt64S_L_0 (r : Raw den ps_laws_markInt64S_L_0 os_laws_markInt64S_L_0) : (Nat × Nat) × (Int × Int × (Nat → Int)) := ((r.1.1, r.2.1.1), (r.1.2.1, r.1.2.2.2.2.2.1, r.2.1.2))
def back_laws_markInt64S_L_0 (c : Nat × Nat) (w : Int × Int × (Nat → Int)) : St RT den := ⟨[(.os 0 c.1), (.int .i64 w.1), .dead, .dead, .dead, (.int .i64 w.2.1), .dead, .dead, .dead, .dead, .dead, .dead, .dead, .dead, .dead, .dead, .dead, .dead, .dead], [(.row true .i64 c.2 w.2.2)]⟩
def Bk_laws_markInt64S_L_0 {ρ : Type} (fu : Nat) (c : Nat × Nat) (k : Ex → St RT den → Option ρ) (w : Int × Int × (Nat → Int)) (go : (Int × Int × (Nat → Int)) → Option ρ) : Option ρ := F_laws_markInt64S_L_B0 fu c.1 c.2 (fun a0 a1 => k (.exit 0) ⟨[.dead, (.int .i64 a0), .dead, .dead, .dead, .dead, .dead, .dead, .dead, .dead, .dead, .dead, .dead, .dead, .dead, .dead, .dead, .dead, .dead], [(.row true .i64 c.2 a1)]⟩) w.1 w.2.1 w.2.2 (fun q0 q1 q2 => go (q0, q1, q2))
def lp_laws_markInt64S_L (fu : Nat) : Lp RT den (Int × (Nat × (Nat → Int))) := fun b s k => match b with | 0 => handle ps_laws_markInt64S_L_0 os_laws_markInt64S_L_0 conv_laws_markInt64S_L_0 (Bk_laws_markInt64S_L_0 fu) fu s k | _ => none
def out_laws_markInt64S_L (d : D RT den) (os : List (Ob RT den)) : Option (Int × (Nat × (Nat → Int))) := match d, os with | .int .i64 a0_0, [.row true .i64 n0 f0] => some (a0_0, (n0, f0)) | _, _ => none
def enc_laws_markInt64S_L (y : Int × (Nat × (Nat → Int))) : D RT den × List (Ob RT den) := ((.int .i64 y.1), [(.row true .i64 y.2.1 y.2.2)])
theorem out_laws_markInt64S_L_enc (d : D RT den) (os : List (Ob RT den)) (y : Int × (Nat × (Nat → Int))) (h : out_laws_markInt64S_L d os = some y) : (unh 1 d).1 = (enc_laws_markInt64S_L y).1 ∧ os ++ (unh 1 d).2 = (enc_laws_markInt64S_L y).2 := by
  unfold out_laws_markInt64S_L at h
  split at h
  · cases h; exact ⟨rfl, rfl⟩
  · cases h
theorem ev_laws_markInt64S_L (fu : Nat) (a_0_0 : Nat) (k_1_1 : Int) (rn0 : Nat) (rf0 : (Nat → Int)) : evFunX E false (pc_laws_markInt64S_L fu) msk_laws_markInt64S_L (lp_laws_markInt64S_L fu) out_laws_markInt64S_L 53 [(.os 0 a_0_0), (.int .i64 k_1_1)] [(.row true .i64 rn0 rf0)] = F_laws_markInt64S_L fu a_0_0 k_1_1 rn0 rf0 := by kernel_rfl
noncomputable def body_laws_markInt64S_L : Code := Try.f53.body.getD .skip
noncomputable def lc_laws_markInt64S_L_0 : Code := ((loops 0 body_laws_markInt64S_L).getD 0 (0, .skip)).2
theorem round_laws_markInt64S_L_0 (fu : Nat) (it : St RT den → Option (Int × (Nat × (Nat → Int)))) (k : Ex → St RT den → Option (Int × (Nat × (Nat → Int)))) c w : evCode E (pc_laws_markInt64S_L fu) msk_laws_markInt64S_L (lp_laws_markInt64S_L fu) 0 lc_laws_markInt64S_L_0 (back_laws_markInt64S_L_0 c w) (after (msk_laws_markInt64S_L 0) (msk_laws_markInt64S_L 100000) 1 it k) = Bk_laws_markInt64S_L_0 fu c k w (fun w => it (back_laws_markInt64S_L_0 c w)) := by kernel_rfl
theorem lpok_laws_markInt64S_L_0 (fu : Nat) : ∀ s k r, lp_laws_markInt64S_L fu 0 s k = some r → ∃ fuel, iter (msk_laws_markInt64S_L 0) (msk_laws_markInt64S_L 100000) s.objs.length (evCode E (pc_laws_markInt64S_L fu) msk_laws_markInt64S_L (lp_laws_markInt64S_L fu) 0 lc_laws_markInt64S_L_0) fuel s k = some r :=
  handle_ok (ps := ps_laws_markInt64S_L_0) (os := os_laws_markInt64S_L_0) (conv := conv_laws_markInt64S_L_0) (B := Bk_laws_markInt64S_L_0 fu) (fu := fu) back_laws_markInt64S_L_0 (fun raw => by kernel_rfl) 1 (fun c w => by kernel_rfl) (round_laws_markInt64S_L_0 fu)
theorem lpok_laws_markInt64S_L (fu : Nat) : LpOk E (pc_laws_markInt64S_L fu) msk_laws_markInt64S_L (lp_laws_markInt64S_L fu) (loops 0 body_laws_markInt64S_L) := loop_all 1 (by kernel_rfl) fun i hi => match i, hi with
  | 0, _ => by
    have h : (loops 0 body_laws_markInt64S_L).getD 0 (0, .skip) = (0, lc_laws_markInt64S_L_0) := by kernel_rfl
    rw [h]; exact lpok_laws_markInt64S_L_0 fu
  | i + 1, hi => absurd hi (by omega)
def S_laws_markInt64S_L (fu : Nat) (xs : List (D RT den)) (ins : List (Ob RT den)) : Option (OutX RT den) := match xs, ins with | [.os 0 a0_0, .int .i64 a1_0], [.row true .i64 rn0 rf0] => some ⟨Int × (Nat × (Nat → Int)), F_laws_markInt64S_L fu a0_0 a1_0 rn0 rf0, enc_laws_markInt64S_L⟩ | _, _ => none
theorem hpc_laws_markInt64S_L (fu : Nat) : ∀ f xs o, pcf_laws_markInt64S_L fu f xs = some o → ∀ y, o.x = some y → Good E Try.prog f xs (o.g y) := by
  intro f xs o h
  cases h
theorem hpx_laws_markInt64S_L (fu : Nat) : ∀ f xs ins o, pcx_laws_markInt64S_L fu f xs ins = some o → ∀ y, o.x = some y → GoodX E Try.prog f xs ins (o.g y).1 (o.g y).2 := by
  intro f xs ins o h
  cases h
theorem goodv_laws_markInt64S_L (fu : Nat) (a_0_0 : Nat) (k_1_1 : Int) (rn0 : Nat) (rf0 : (Nat → Int)) (y : Int × (Nat × (Nat → Int))) (hy : F_laws_markInt64S_L fu a_0_0 k_1_1 rn0 rf0 = some y) : GoodX E Try.prog 53 [(.os 0 a_0_0), (.int .i64 k_1_1)] [(.row true .i64 rn0 rf0)] (enc_laws_markInt64S_L y).1 (enc_laws_markInt64S_L y).2 :=
  funX_good (ke := false) E_ok (pc_good (pc := pc_laws_markInt64S_L fu) (hpc_laws_markInt64S_L fu) (hpx_laws_markInt64S_L fu)) (fn := Try.f53) (c := body_laws_markInt64S_L) (out := out_laws_markInt64S_L) (y := y) (by kernel_rfl) (by kernel_rfl) (by kernel_rfl) (lpok_laws_markInt64S_L fu) (by kernel_rfl) (Nat.le_refl _) (fun d os hd => out_laws_markInt64S_L_enc d os _ hd) ((ev_laws_markInt64S_L fu a_0_0 k_1_1 rn0 rf0).trans hy)
theorem good_laws_markInt64S_L (fu : Nat) : ∀ xs ins o, S_laws_markInt64S_L fu xs ins = some o → ∀ y, o.x = some y → GoodX E Try.prog 53 xs ins (o.g y).1 (o.g y).2 := by
  intro xs ins o h y hy
  unfold S_laws_markInt64S_L at h
  split at h
  · rename_i a0_0 a1_0 rn0 rf0
    cases h
    exact goodv_laws_markInt64S_L fu a0_0 a1_0 rn0 rf0 y hy
  · cases h

/-! laws.markNode -/
def F_laws_markNode_L (fu : Nat) (a_0_0 : Int) (a_0_1 : Int) (a_0_2 : Int) (a_0_3 : Int) (a_0_4 : Nat) (a_0_5 : Int) (a_0_6 : Int) (a_0_7 : Nat) (a_0_8 : Nat) (a_0_9 : Nat) (k_1_10 : Int) (rn0 : Nat) (rf0 : (Nat → S_impl_Entry)) (rn1 : Nat) (rf1 : (Nat → Int)) (rn2 : Nat) (rf2 : (Nat → Int)) (rn3 : Nat) (rf3 : (Nat → Int)) : Option (Int × (Nat × (Nat → S_impl_Entry)) × (Nat × (Nat → Int)) × (Nat × (Nat → Int)) × (Nat × (Nat → Int))) :=
  ((F_laws_markEntryS_L fu a_0_4 k_1_10 rn0 rf0).bind fun y272 => ((F_laws_markInt64S_L fu a_0_7 y272.1 rn1 rf1).bind fun y275 => ((F_laws_markInt64S_L fu a_0_8 y275.1 rn2 rf2).bind fun y276 =>
    ((F_laws_markInt64S_L fu a_0_9 y276.1 rn3 rf3).bind fun y277 => (some (y277.1, (y272.2.1, y272.2.2), (y275.2.1, y275.2.2), (y276.2.1, y276.2.2), (y277.2.1, y277.2.2)))))))
def pcf_laws_markNode_L (fu : Nat) (f : Nat) (xs : List (D RT den)) : Option (Out RT den) := none
def pcx_laws_markNode_L (fu : Nat) (f : Nat) (xs : List (D RT den)) (ins : List (Ob RT den)) : Option (OutX RT den) := match f with | 52 => S_laws_markEntryS_L fu xs ins | 53 => S_laws_markInt64S_L fu xs ins | _ => none
def pc_laws_markNode_L (fu : Nat) : Pc RT den := ⟨pcf_laws_markNode_L fu, fun f => match f with | 52 => true | 53 => true | _ => false, fun f => match f with | 52 => true | 53 => true | _ => false, pcx_laws_markNode_L fu⟩
def msk_laws_markNode_L (b : Nat) : List Nat := []
def lp_laws_markNode_L (fu : Nat) : Lp RT den (Int × (Nat × (Nat → S_impl_Entry)) × (Nat × (Nat → Int)) × (Nat × (Nat → Int)) × (Nat × (Nat → Int))) := fun b s k => none
def out_laws_markNode_L (d : D RT den) (os : List (Ob RT den)) : Option (Int × (Nat × (Nat → S_impl_Entry)) × (Nat × (Nat → Int)) × (Nat × (Nat → Int)) × (Nat × (Nat → Int))) := match d, os with | .int .i64 a0_0, [.row true .impl_Entry n0 f0, .row true .i64 n1 f1, .row true .i64 n2 f2, .row true .i64 n3 f3] => some (a0_0, (n0, f0), (n1, f1), (n2, f2), (n3, f3)) | _, _ => none
def enc_laws_markNode_L (y : Int × (Nat × (Nat → S_impl_Entry)) × (Nat × (Nat → Int)) × (Nat × (Nat → Int)) × (Nat × (Nat → Int))) : D RT den × List (Ob RT den) := ((.int .i64 y.1), [(.row true .impl_Entry y.2.1.1 y.2.1.2), (.row true .i64 y.2.2.1.1 y.2.2.1.2), (.row true .i64 y.2.2.2.1.1 y.2.2.2.1.2), (.row true .i64 y.2.2.2.2.1 y.2.2.2.2.2)])
theorem out_laws_markNode_L_enc (d : D RT den) (os : List (Ob RT den)) (y : Int × (Nat × (Nat → S_impl_Entry)) × (Nat × (Nat → Int)) × (Nat × (Nat → Int)) × (Nat × (Nat → Int))) (h : out_laws_markNode_L d os = some y) : (unh 4 d).1 = (enc_laws_markNode_L y).1 ∧ os ++ (unh 4 d).2 = (enc_laws_markNode_L y).2 := by
  unfold out_laws_markNode_L at h
  split at h
  · cases h; exact ⟨rfl, rfl⟩
  · cases h
theorem ev_laws_markNode_L (fu : Nat) (a_0_0 : Int) (a_0_1 : Int) (a_0_2 : Int) (a_0_3 : Int) (a_0_4 : Nat) (a_0_5 : Int) (a_0_6 : Int) (a_0_7 : Nat) (a_0_8 : Nat) (a_0_9 : Nat) (k_1_10 : Int) (rn0 : Nat) (rf0 : (Nat → S_impl_Entry)) (rn1 : Nat) (rf1 : (Nat → Int)) (rn2 : Nat) (rf2 : (Nat → Int)) (rn3 : Nat) (rf3 : (Nat → Int)) : evFunX E false (pc_laws_markNode_L fu) msk_laws_markNode_L (lp_laws_markNode_L fu) out_laws_markNode_L 14 [(.agg [(.int .i64 a_0_0), (.int .i64 a_0_1), (.int .i64 a_0_2), (.int .i64 a_0_3), (.os 0 a_0_4), (.int .i64 a_0_5), (.int .i64 a_0_6), (.os 1 a_0_7), (.os 2 a_0_8), (.os 3 a_0_9)]), (.int .i64 k_1_10)] [(.row true .impl_Entry rn0 rf0), (.row true .i64 rn1 rf1), (.row true .i64 rn2 rf2), (.row true .i64 rn3 rf3)] = F_laws_markNode_L fu a_0_0 a_0_1 a_0_2 a_0_3 a_0_4 a_0_5 a_0_6 a_0_7 a_0_8 a_0_9 k_1_10 rn0 rf0 rn1 rf1 rn2 rf2 rn3 rf3 := by kernel_rfl
noncomputable def body_laws_markNode_L : Code := Try.f14.body.getD .skip
theorem lpok_laws_markNode_L (fu : Nat) : LpOk E (pc_laws_markNode_L fu) msk_laws_markNode_L (lp_laws_markNode_L fu) (loops 0 body_laws_markNode_L) := by
  have h : loops 0 body_laws_markNode_L = [] := by kernel_rfl
  rw [h]; intro p hp; cases hp
def S_laws_markNode_L (fu : Nat) (xs : List (D RT den)) (ins : List (Ob RT den)) : Option (OutX RT den) := match xs, ins with | [.agg [.int .i64 a0_0, .int .i64 a0_1, .int .i64 a0_2, .int .i64 a0_3, .os 0 a0_4, .int .i64 a0_5, .int .i64 a0_6, .os 1 a0_7, .os 2 a0_8, .os 3 a0_9], .int .i64 a1_0], [.row true .impl_Entry rn0 rf0, .row true .i64 rn1 rf1, .row true .i64 rn2 rf2, .row true .i64 rn3 rf3] => some ⟨Int × (Nat × (Nat → S_impl_Entry)) × (Nat × (Nat → Int)) × (Nat × (Nat → Int)) × (Nat × (Nat → Int)), F_laws_markNode_L fu a0_0 a0_1 a0_2 a0_3 a0_4 a0_5 a0_6 a0_7 a0_8 a0_9 a1_0 rn0 rf0 rn1 rf1 rn2 rf2 rn3 rf3, enc_laws_markNode_L⟩ | _, _ => none
theorem hpc_laws_markNode_L (fu : Nat) : ∀ f xs o, pcf_laws_markNode_L fu f xs = some o → ∀ y, o.x = some y → Good E Try.prog f xs (o.g y) := by
  intro f xs o h
  cases h
theorem hpx_laws_markNode_L (fu : Nat) : ∀ f xs ins o, pcx_laws_markNode_L fu f xs ins = some o → ∀ y, o.x = some y → GoodX E Try.prog f xs ins (o.g y).1 (o.g y).2 := by
  intro f xs ins o h
  unfold pcx_laws_markNode_L at h
  split at h
  · exact good_laws_markEntryS_L fu xs ins o h
  · exact good_laws_markInt64S_L fu xs ins o h
  · cases h
theorem goodv_laws_markNode_L (fu : Nat) (a_0_0 : Int) (a_0_1 : Int) (a_0_2 : Int) (a_0_3 : Int) (a_0_4 : Nat) (a_0_5 : Int) (a_0_6 : Int) (a_0_7 : Nat) (a_0_8 : Nat) (a_0_9 : Nat) (k_1_10 : Int) (rn0 : Nat) (rf0 : (Nat → S_impl_Entry)) (rn1 : Nat) (rf1 : (Nat → Int)) (rn2 : Nat) (rf2 : (Nat → Int)) (rn3 : Nat) (rf3 : (Nat → Int)) (y : Int × (Nat × (Nat → S_impl_Entry)) × (Nat × (Nat → Int)) × (Nat × (Nat → Int)) × (Nat × (Nat → Int))) (hy : F_laws_markNode_L fu a_0_0 a_0_1 a_0_2 a_0_3 a_0_4 a_0_5 a_0_6 a_0_7 a_0_8 a_0_9 k_1_10 rn0 rf0 rn1 rf1 rn2 rf2 rn3 rf3 = some y) : GoodX E Try.prog 14 [(.agg [(.int .i64 a_0_0), (.int .i64 a_0_1), (.int .i64 a_0_2), (.int .i64 a_0_3), (.os 0 a_0_4), (.int .i64 a_0_5), (.int .i64 a_0_6), (.os 1 a_0_7), (.os 2 a_0_8), (.os 3 a_0_9)]), (.int .i64 k_1_10)] [(.row true .impl_Entry rn0 rf0), (.row true .i64 rn1 rf1), (.row true .i64 rn2 rf2), (.row true .i64 rn3 rf3)] (enc_laws_markNode_L y).1 (enc_laws_markNode_L y).2 :=
  funX_good (ke := false) E_ok (pc_good (pc := pc_laws_markNode_L fu) (hpc_laws_markNode_L fu) (hpx_laws_markNode_L fu)) (fn := Try.f14) (c := body_laws_markNode_L) (out := out_laws_markNode_L) (y := y) (by kernel_rfl) (by kernel_rfl) (by kernel_rfl) (lpok_laws_markNode_L fu) (by kernel_rfl) (Nat.le_refl _) (fun d os hd => out_laws_markNode_L_enc d os _ hd) ((ev_laws_markNode_L fu a_0_0 a_0_1 a_0_2 a_0_3 a_0_4 a_0_5 a_0_6 a_0_7 a_0_8 a_0_9 k_1_10 rn0 rf0 rn1 rf1 rn2 rf2 rn3 rf3).trans hy)
theorem good_laws_markNode_L (fu : Nat) : ∀ xs ins o, S_laws_markNode_L fu xs ins = some o → ∀ y, o.x = some y → GoodX E Try.prog 14 xs ins (o.g y).1 (o.g y).2 := by
  intro xs ins o h y hy
  unfold S_laws_markNode_L at h
  split at h
  · rename_i a0_0 a0_1 a0_2 a0_3 a0_4 a0_5 a0_6 a0_7 a0_8 a0_9 a1_0 rn0 rf0 rn1 rf1 rn2 rf2 rn3 rf3
    cases h
    exact goodv_laws_markNode_L fu a0_0 a0_1 a0_2 a0_3 a0_4 a0_5 a0_6 a0_7 a0_8 a0_9 a1_0 rn0 rf0 rn1 rf1 rn2 rf2 rn3 rf3 y hy
  · cases h

/-! laws.markMailS -/
def F_laws_markMailS_L_B0 {ρ : Type} (fu : Nat) (k1_0 : Int) (i5_1 : Int) (k0 : Option ρ) (go : Unit → Option ρ) : Option ρ :=
  (bif (decide (i5_1 < 0)) then none else k0)
def F_laws_markMailS_L (fu : Nat) (k_1_0 : Int) : Option (Int) :=
  (L (fun w0 go0 => F_laws_markMailS_L_B0 fu k_1_0 0 (some (k_1_0))  go0) fu (() : Unit))
def pcf_laws_markMailS_L (fu : Nat) (f : Nat) (xs : List (D RT den)) : Option (Out RT den) := none
def pcx_laws_markMailS_L (fu : Nat) (f : Nat) (xs : List (D RT den)) (ins : List (Ob RT den)) : Option (OutX RT den) := none
def pc_laws_markMailS_L (fu : Nat) : Pc RT den := ⟨pcf_laws_markMailS_L fu, fun _ => false, fun _ => false, pcx_laws_markMailS_L fu⟩
def msk_laws_markMailS_L (b : Nat) : List Nat := match b with | 0 => [2, 3, 4, 6, 7, 8, 9, 10, 11, 12, 13, 14, 15, 16, 17, 18, 19, 20, 21, 22, 23, 24, 25, 26, 27, 28, 29, 30, 31, 32, 33, 34, 35, 36, 37, 38, 39, 40, 41, 42, 43, 44, 45, 46, 47, 48, 49, 50, 51, 52, 53, 54, 55, 56, 57, 58, 59, 60, 61, 62, 63, 64, 65, 66, 67, 68, 69, 70, 71, 72, 73, 74, 75, 76, 77] | 100000 => [0, 2, 3, 5, 6, 7, 8, 9, 10, 11, 12, 13, 14, 15, 16, 17, 18, 19, 20, 21, 22, 23, 24, 25, 26, 27, 28, 29, 30, 31, 32, 33, 34, 35, 36, 37, 38, 39, 40, 41, 42, 43, 44, 45, 46, 47, 48, 49, 50, 51, 52, 53, 54, 55, 56, 57, 58, 59, 60, 61, 62, 63, 64, 65, 66, 67, 68, 69, 70, 71, 72, 73, 74, 75, 76, 77] | _ => []
def ps_laws_markMailS_L_0 : List (Pat RT) := [.flat (.emp true .impl_Mail), .flat (.int .i64), .flat .dead, .flat .dead, .flat .dead, .flat (.int .i64), .flat .dead, .flat .dead, .flat .dead, .flat .dead, .flat .dead, .flat .dead, .flat .dead, .flat .dead, .flat .dead, .flat .dead, .flat .dead, .flat .dead, .flat .dead, .flat .dead, .flat .dead, .flat .dead, .flat .dead, .flat .dead, .flat .dead, .flat .dead, .flat .dead, .flat .dead, .flat .dead, .flat .dead, .flat .dead, .flat .dead, .flat .dead, .flat .dead, .flat .dead, .flat .dead, .flat .dead, .flat .dead, .flat .dead, .flat .dead, .flat .dead, .flat .dead, .flat .dead, .flat .dead, .flat .dead, .flat .dead, .flat .dead, .flat .dead, .flat .dead, .flat .dead, .flat .dead, .flat .dead, .flat .dead, .flat .dead, .flat .dead, .flat .dead, .flat .dead, .flat .dead, .flat .dead, .flat .dead, .flat .dead, .flat .dead, .flat .dead, .flat .dead, .flat .dead, .flat .dead, .flat .dead, .flat .dead, .flat .dead, .flat .dead, .flat .dead, .flat .dead, .flat .dead, .flat .dead, .flat .dead, .flat .dead, .flat .dead, .flat .dead]
def os_laws_markMailS_L_0 : List (OP RT) := []
def conv_laws_markMailS_L_0 (r : Raw den ps_laws_markMailS_L_0 os_laws_markMailS_L_0) : (Int × Int) × (Unit) := ((r.1.2.1, r.1.2.2.2.2.2.1), ())
def back_laws_markMailS_L_0 (c : Int × Int) (w : Unit) : St RT den := ⟨[(.emp true .impl_Mail), (.int .i64 c.1), .dead, .dead, .dead, (.int .i64 c.2), .dead, .dead, .dead, .dead, .dead, .dead, .dead, .dead, .dead, .dead, .dead, .dead, .dead, .dead, .dead, .dead, .dead, .dead, .dead, .dead, .dead, .dead, .dead, .dead, .dead, .dead, .dead, .dead, .dead, .dead, .dead, .dead, .dead, .dead, .dead, .dead, .dead, .dead, .dead, .dead, .dead, .dead, .dead, .dead, .dead, .dead, .dead, .dead, .dead, .dead, .dead, .dead, .dead, .dead, .dead, .dead, .dead, .dead, .dead, .dead, .dead, .dead, .dead, .dead, .dead, .dead, .dead, .dead, .dead, .dead, .dead, .dead], []⟩
def Bk_laws_markMailS_L_0 {ρ : Type} (fu : Nat) (c : Int × Int) (k : Ex → St RT den → Option ρ) (w : Unit) (go : (Unit) → Option ρ) : Option ρ := F_laws_markMailS_L_B0 fu c.1 c.2 (k (.exit 0) ⟨[.dead, (.int .i64 c.1), .dead, .dead, .dead, .dead, .dead, .dead, .dead, .dead, .dead, .dead, .dead, .dead, .dead, .dead, .dead, .dead, .dead, .dead, .dead, .dead, .dead, .dead, .dead, .dead, .dead, .dead, .dead, .dead, .dead, .dead, .dead, .dead, .dead, .dead, .dead, .dead, .dead, .dead, .dead, .dead, .dead, .dead, .dead, .dead, .dead, .dead, .dead, .dead, .dead, .dead, .dead, .dead, .dead, .dead, .dead, .dead, .dead, .dead, .dead, .dead, .dead, .dead, .dead, .dead, .dead, .dead, .dead, .dead, .dead, .dead, .dead, .dead, .dead, .dead, .dead, .dead], []⟩)  go
def lp_laws_markMailS_L (fu : Nat) : Lp RT den (Int) := fun b s k => match b with | 0 => handle ps_laws_markMailS_L_0 os_laws_markMailS_L_0 conv_laws_markMailS_L_0 (Bk_laws_markMailS_L_0 fu) fu s k | _ => none
def out_laws_markMailS_L (d : D RT den) (os : List (Ob RT den)) : Option (Int) := match d, os with | .int .i64 a0_0, [] => some (a0_0) | _, _ => none
def enc_laws_markMailS_L (y : Int) : D RT den × List (Ob RT den) := ((.int .i64 y), [])
theorem out_laws_markMailS_L_enc (d : D RT den) (os : List (Ob RT den)) (y : Int) (h : out_laws_markMailS_L d os = some y) : (unh 0 d).1 = (enc_laws_markMailS_L y).1 ∧ os ++ (unh 0 d).2 = (enc_laws_markMailS_L y).2 := by
  unfold out_laws_markMailS_L at h
  split at h
  · cases h; exact ⟨rfl, rfl⟩
  · cases h
theorem ev_laws_markMailS_L (fu : Nat) (k_1_0 : Int) : evFunX E false (pc_laws_markMailS_L fu) msk_laws_markMailS_L (lp_laws_markMailS_L fu) out_laws_markMailS_L 54 [(.emp true .impl_Mail), (.int .i64 k_1_0)] [] = F_laws_markMailS_L fu k_1_0 := by kernel_rfl
noncomputable def body_laws_markMailS_L : Code := Try.f54.body.getD .skip
noncomputable def lc_laws_markMailS_L_0 : Code := ((loops 0 body_laws_markMailS_L).getD 0 (0, .skip)).2
theorem round_laws_markMailS_L_0 (fu : Nat) (it : St RT den → Option (Int)) (k : Ex → St RT den → Option (Int)) c w : evCode E (pc_laws_markMailS_L fu) msk_laws_markMailS_L (lp_laws_markMailS_L fu) 0 lc_laws_markMailS_L_0 (back_laws_markMailS_L_0 c w) (after (msk_laws_markMailS_L 0) (msk_laws_markMailS_L 100000) 0 it k) = Bk_laws_markMailS_L_0 fu c k w (fun w => it (back_laws_markMailS_L_0 c w)) := by kernel_rfl
theorem lpok_laws_markMailS_L_0 (fu : Nat) : ∀ s k r, lp_laws_markMailS_L fu 0 s k = some r → ∃ fuel, iter (msk_laws_markMailS_L 0) (msk_laws_markMailS_L 100000) s.objs.length (evCode E (pc_laws_markMailS_L fu) msk_laws_markMailS_L (lp_laws_markMailS_L fu) 0 lc_laws_markMailS_L_0) fuel s k = some r :=
  handle_ok (ps := ps_laws_markMailS_L_0) (os := os_laws_markMailS_L_0) (conv := conv_laws_markMailS_L_0) (B := Bk_laws_markMailS_L_0 fu) (fu := fu) back_laws_markMailS_L_0 (fun raw => by kernel_rfl) 0 (fun c w => by kernel_rfl) (round_laws_markMailS_L_0 fu)
theorem lpok_laws_markMailS_L (fu : Nat) : LpOk E (pc_laws_markMailS_L fu) msk_laws_markMailS_L (lp_laws_markMailS_L fu) (loops 0 body_laws_markMailS_L) := loop_all 1 (by kernel_rfl) fun i hi => match i, hi with
  | 0, _ => by
    have h : (loops 0 body_laws_markMailS_L).getD 0 (0, .skip) = (0, lc_laws_markMailS_L_0) := by kernel_rfl
    rw [h]; exact lpok_laws_markMailS_L_0 fu
  | i + 1, hi => absurd hi (by omega)
def S_laws_markMailS_L (fu : Nat) (xs : List (D RT den)) (ins : List (Ob RT den)) : Option (OutX RT den) := match xs, ins with | [.emp true .impl_Mail, .int .i64 a1_0], [] => some ⟨Int, F_laws_markMailS_L fu a1_0, enc_laws_markMailS_L⟩ | _, _ => none
theorem hpc_laws_markMailS_L (fu : Nat) : ∀ f xs o, pcf_laws_markMailS_L fu f xs = some o → ∀ y, o.x = some y → Good E Try.prog f xs (o.g y) := by
  intro f xs o h
  cases h
theorem hpx_laws_markMailS_L (fu : Nat) : ∀ f xs ins o, pcx_laws_markMailS_L fu f xs ins = some o → ∀ y, o.x = some y → GoodX E Try.prog f xs ins (o.g y).1 (o.g y).2 := by
  intro f xs ins o h
  cases h
theorem goodv_laws_markMailS_L (fu : Nat) (k_1_0 : Int) (y : Int) (hy : F_laws_markMailS_L fu k_1_0 = some y) : GoodX E Try.prog 54 [(.emp true .impl_Mail), (.int .i64 k_1_0)] [] (enc_laws_markMailS_L y).1 (enc_laws_markMailS_L y).2 :=
  funX_good (ke := false) E_ok (pc_good (pc := pc_laws_markMailS_L fu) (hpc_laws_markMailS_L fu) (hpx_laws_markMailS_L fu)) (fn := Try.f54) (c := body_laws_markMailS_L) (out := out_laws_markMailS_L) (y := y) (by kernel_rfl) (by kernel_rfl) (by kernel_rfl) (lpok_laws_markMailS_L fu) (by kernel_rfl) (Nat.le_refl _) (fun d os hd => out_laws_markMailS_L_enc d os _ hd) ((ev_laws_markMailS_L fu k_1_0).trans hy)
theorem good_laws_markMailS_L (fu : Nat) : ∀ xs ins o, S_laws_markMailS_L fu xs ins = some o → ∀ y, o.x = some y → GoodX E Try.prog 54 xs ins (o.g y).1 (o.g y).2 := by
  intro xs ins o h y hy
  unfold S_laws_markMailS_L at h
  split at h
  · rename_i a1_0
    cases h
    exact goodv_laws_markMailS_L fu a1_0 y hy
  · cases h

/-! laws.markNodeResult -/
def F_laws_markNodeResult_L (fu : Nat) (a_0_0 : Int) (a_0_1 : Int) (a_0_2 : Int) (a_0_3 : Int) (a_0_4 : Int) (a_0_5 : Nat) (a_0_6 : Int) (a_0_7 : Int) (a_0_8 : Nat) (a_0_9 : Nat) (a_0_10 : Nat) (k_1_11 : Int) (rn0 : Nat) (rf0 : (Nat → S_impl_Entry)) (rn1 : Nat) (rf1 : (Nat → Int)) (rn2 : Nat) (rf2 : (Nat → Int)) (rn3 : Nat) (rf3 : (Nat → Int)) : Option (Int × (Nat × (Nat → S_impl_Entry)) × (Nat × (Nat → Int)) × (Nat × (Nat → Int)) × (Nat × (Nat → Int))) :=
  ((F_laws_markNode_L fu a_0_1 a_0_2 a_0_3 a_0_4 a_0_5 a_0_6 a_0_7 a_0_8 a_0_9 a_0_10 k_1_11 rn0 rf0 rn1 rf1 rn2 rf2 rn3 rf3).bind fun y281 => ((F_laws_markMailS_L fu y281.1).bind fun y282 =>
    (some (y282, (y281.2.1.1, y281.2.1.2), (y281.2.2.1.1, y281.2.2.1.2), (y281.2.2.2.1.1, y281.2.2.2.1.2), (y281.2.2.2.2.1, y281.2.2.2.2.2)))))
def pcf_laws_markNodeResult_L (fu : Nat) (f : Nat) (xs : List (D RT den)) : Option (Out RT den) := none
def pcx_laws_markNodeResult_L (fu : Nat) (f : Nat) (xs : List (D RT den)) (ins : List (Ob RT den)) : Option (OutX RT den) := match f with | 14 => S_laws_markNode_L fu xs ins | 54 => S_laws_markMailS_L fu xs ins | _ => none
def pc_laws_markNodeResult_L (fu : Nat) : Pc RT den := ⟨pcf_laws_markNodeResult_L fu, fun f => match f with | 14 => true | 54 => true | _ => false, fun f => match f with | 14 => true | 54 => true | _ => false, pcx_laws_markNodeResult_L fu⟩
def msk_laws_markNodeResult_L (b : Nat) : List Nat := []
def lp_laws_markNodeResult_L (fu : Nat) : Lp RT den (Int × (Nat × (Nat → S_impl_Entry)) × (Nat × (Nat → Int)) × (Nat × (Nat → Int)) × (Nat × (Nat → Int))) := fun b s k => none
def out_laws_markNodeResult_L (d : D RT den) (os : List (Ob RT den)) : Option (Int × (Nat × (Nat → S_impl_Entry)) × (Nat × (Nat → Int)) × (Nat × (Nat → Int)) × (Nat × (Nat → Int))) := match d, os with | .int .i64 a0_0, [.row true .impl_Entry n0 f0, .row true .i64 n1 f1, .row true .i64 n2 f2, .row true .i64 n3 f3] => some (a0_0, (n0, f0), (n1, f1), (n2, f2), (n3, f3)) | _, _ => none
def enc_laws_markNodeResult_L (y : Int × (Nat × (Nat → S_impl_Entry)) × (Nat × (Nat → Int)) × (Nat × (Nat → Int)) × (Nat × (Nat → Int))) : D RT den × List (Ob RT den) := ((.int .i64 y.1), [(.row true .impl_Entry y.2.1.1 y.2.1.2), (.row true .i64 y.2.2.1.1 y.2.2.1.2), (.row true .i64 y.2.2.2.1.1 y.2.2.2.1.2), (.row true .i64 y.2.2.2.2.1 y.2.2.2.2.2)])
theorem out_laws_markNodeResult_L_enc (d : D RT den) (os : List (Ob RT den)) (y : Int × (Nat × (Nat → S_impl_Entry)) × (Nat × (Nat → Int)) × (Nat × (Nat → Int)) × (Nat × (Nat → Int))) (h : out_laws_markNodeResult_L d os = some y) : (unh 4 d).1 = (enc_laws_markNodeResult_L y).1 ∧ os ++ (unh 4 d).2 = (enc_laws_markNodeResult_L y).2 := by
  unfold out_laws_markNodeResult_L at h
  split at h
  · cases h; exact ⟨rfl, rfl⟩
  · cases h
theorem ev_laws_markNodeResult_L (fu : Nat) (a_0_0 : Int) (a_0_1 : Int) (a_0_2 : Int) (a_0_3 : Int) (a_0_4 : Int) (a_0_5 : Nat) (a_0_6 : Int) (a_0_7 : Int) (a_0_8 : Nat) (a_0_9 : Nat) (a_0_10 : Nat) (k_1_11 : Int) (rn0 : Nat) (rf0 : (Nat → S_impl_Entry)) (rn1 : Nat) (rf1 : (Nat → Int)) (rn2 : Nat) (rf2 : (Nat → Int)) (rn3 : Nat) (rf3 : (Nat → Int)) : evFunX E false (pc_laws_markNodeResult_L fu) msk_laws_markNodeResult_L (lp_laws_markNodeResult_L fu) out_laws_markNodeResult_L 15 [(.agg [(.int .i64 a_0_0), (.int .i64 a_0_1), (.int .i64 a_0_2), (.int .i64 a_0_3), (.int .i64 a_0_4), (.os 0 a_0_5), (.int .i64 a_0_6), (.int .i64 a_0_7), (.os 1 a_0_8), (.os 2 a_0_9), (.os 3 a_0_10), (.emp true .impl_Mail)]), (.int .i64 k_1_11)] [(.row true .impl_Entry rn0 rf0), (.row true .i64 rn1 rf1), (.row true .i64 rn2 rf2), (.row true .i64 rn3 rf3)] = F_laws_markNodeResult_L fu a_0_0 a_0_1 a_0_2 a_0_3 a_0_4 a_0_5 a_0_6 a_0_7 a_0_8 a_0_9 a_0_10 k_1_11 rn0 rf0 rn1 rf1 rn2 rf2 rn3 rf3 := by kernel_rfl
noncomputable def body_laws_markNodeResult_L : Code := Try.f15.body.getD .skip
theorem lpok_laws_markNodeResult_L (fu : Nat) : LpOk E (pc_laws_markNodeResult_L fu) msk_laws_markNodeResult_L (lp_laws_markNodeResult_L fu) (loops 0 body_laws_markNodeResult_L) := by
  have h : loops 0 body_laws_markNodeResult_L = [] := by kernel_rfl
  rw [h]; intro p hp; cases hp
def S_laws_markNodeResult_L (fu : Nat) (xs : List (D RT den)) (ins : List (Ob RT den)) : Option (OutX RT den) := match xs, ins with | [.agg [.int .i64 a0_0, .int .i64 a0_1, .int .i64 a0_2, .int .i64 a0_3, .int .i64 a0_4, .os 0 a0_5, .int .i64 a0_6, .int .i64 a0_7, .os 1 a0_8, .os 2 a0_9, .os 3 a0_10, .emp true .impl_Mail], .int .i64 a1_0], [.row true .impl_Entry rn0 rf0, .row true .i64 rn1 rf1, .row true .i64 rn2 rf2, .row true .i64 rn3 rf3] => some ⟨Int × (Nat × (Nat → S_impl_Entry)) × (Nat × (Nat → Int)) × (Nat × (Nat → Int)) × (Nat × (Nat → Int)), F_laws_markNodeResult_L fu a0_0 a0_1 a0_2 a0_3 a0_4 a0_5 a0_6 a0_7 a0_8 a0_9 a0_10 a1_0 rn0 rf0 rn1 rf1 rn2 rf2 rn3 rf3, enc_laws_markNodeResult_L⟩ | _, _ => none
theorem hpc_laws_markNodeResult_L (fu : Nat) : ∀ f xs o, pcf_laws_markNodeResult_L fu f xs = some o → ∀ y, o.x = some y → Good E Try.prog f xs (o.g y) := by
  intro f xs o h
  cases h
theorem hpx_laws_markNodeResult_L (fu : Nat) : ∀ f xs ins o, pcx_laws_markNodeResult_L fu f xs ins = some o → ∀ y, o.x = some y → GoodX E Try.prog f xs ins (o.g y).1 (o.g y).2 := by
  intro f xs ins o h
  unfold pcx_laws_markNodeResult_L at h
  split at h
  · exact good_laws_markNode_L fu xs ins o h
  · exact good_laws_markMailS_L fu xs ins o h
  · cases h
theorem goodv_laws_markNodeResult_L (fu : Nat) (a_0_0 : Int) (a_0_1 : Int) (a_0_2 : Int) (a_0_3 : Int) (a_0_4 : Int) (a_0_5 : Nat) (a_0_6 : Int) (a_0_7 : Int) (a_0_8 : Nat) (a_0_9 : Nat) (a_0_10 : Nat) (k_1_11 : Int) (rn0 : Nat) (rf0 : (Nat → S_impl_Entry)) (rn1 : Nat) (rf1 : (Nat → Int)) (rn2 : Nat) (rf2 : (Nat → Int)) (rn3 : Nat) (rf3 : (Nat → Int)) (y : Int × (Nat × (Nat → S_impl_Entry)) × (Nat × (Nat → Int)) × (Nat × (Nat → Int)) × (Nat × (Nat → Int))) (hy : F_laws_markNodeResult_L fu a_0_0 a_0_1 a_0_2 a_0_3 a_0_4 a_0_5 a_0_6 a_0_7 a_0_8 a_0_9 a_0_10 k_1_11 rn0 rf0 rn1 rf1 rn2 rf2 rn3 rf3 = some y) : GoodX E Try.prog 15 [(.agg [(.int .i64 a_0_0), (.int .i64 a_0_1), (.int .i64 a_0_2), (.int .i64 a_0_3), (.int .i64 a_0_4), (.os 0 a_0_5), (.int .i64 a_0_6), (.int .i64 a_0_7), (.os 1 a_0_8), (.os 2 a_0_9), (.os 3 a_0_10), (.emp true .impl_Mail)]), (.int .i64 k_1_11)] [(.row true .impl_Entry rn0 rf0), (.row true .i64 rn1 rf1), (.row true .i64 rn2 rf2), (.row true .i64 rn3 rf3)] (enc_laws_markNodeResult_L y).1 (enc_laws_markNodeResult_L y).2 :=
  funX_good (ke := false) E_ok (pc_good (pc := pc_laws_markNodeResult_L fu) (hpc_laws_markNodeResult_L fu) (hpx_laws_markNodeResult_L fu)) (fn := Try.f15) (c := body_laws_markNodeResult_L) (out := out_laws_markNodeResult_L) (y := y) (by kernel_rfl) (by kernel_rfl) (by kernel_rfl) (lpok_laws_markNodeResult_L fu) (by kernel_rfl) (Nat.le_refl _) (fun d os hd => out_laws_markNodeResult_L_enc d os _ hd) ((ev_laws_markNodeResult_L fu a_0_0 a_0_1 a_0_2 a_0_3 a_0_4 a_0_5 a_0_6 a_0_7 a_0_8 a_0_9 a_0_10 k_1_11 rn0 rf0 rn1 rf1 rn2 rf2 rn3 rf3).trans hy)
theorem good_laws_markNodeResult_L (fu : Nat) : ∀ xs ins o, S_laws_markNodeResult_L fu xs ins = some o → ∀ y, o.x = some y → GoodX E Try.prog 15 xs ins (o.g y).1 (o.g y).2 := by
  intro xs ins o h y hy
  unfold S_laws_markNodeResult_L at h
  split at h
  · rename_i a0_0 a0_1 a0_2 a0_3 a0_4 a0_5 a0_6 a0_7 a0_8 a0_9 a0_10 a1_0 rn0 rf0 rn1 rf1 rn2 rf2 rn3 rf3
    cases h
    exact goodv_laws_markNodeResult_L fu a0_0 a0_1 a0_2 a0_3 a0_4 a0_5 a0_6 a0_7 a0_8 a0_9 a0_10 a1_0 rn0 rf0 rn1 rf1 rn2 rf2 rn3 rf3 y hy
  · cases h

/-! laws.szEntryS -/
def F_laws_szEntryS (fu : Nat) (a_0 : (Sl S_laws_Entry)) (left_1 : Int) : Option (Int) :=
  (bif (decide ((IntKind.wrap .i64 (left_1 - ((a_0.n : Nat) : Int))) < 0)) then (some (-1)) else (some (IntKind.wrap .i64 (left_1 - ((a_0.n : Nat) : Int)))))
def pcf_laws_szEntryS (fu : Nat) (f : Nat) (xs : List (D RT den)) : Option (Out RT den) := none
def pcx_laws_szEntryS (fu : Nat) (f : Nat) (xs : List (D RT den)) (ins : List (Ob RT den)) : Option (OutX RT den) := none
def pc_laws_szEntryS (fu : Nat) : Pc RT den := ⟨pcf_laws_szEntryS fu, fun _ => false, fun _ => false, pcx_laws_szEntryS fu⟩
def msk_laws_szEntryS (b : Nat) : List Nat := []
def lp_laws_szEntryS (fu : Nat) : Lp RT den (Int) := fun b s k => none
theorem ev_laws_szEntryS (fu : Nat) (a_0 : (Sl S_laws_Entry)) (left_1 : Int) : evFun E (pc_laws_szEntryS fu) msk_laws_szEntryS (lp_laws_szEntryS fu) out_i64 34 [(.rs a_0.z .laws_Entry a_0.n a_0.f), (.int .i64 left_1)] = F_laws_szEntryS fu a_0 left_1 := by kernel_rfl
noncomputable def body_laws_szEntryS : Code := Try.f34.body.getD .skip
theorem lpok_laws_szEntryS (fu : Nat) : LpOk E (pc_laws_szEntryS fu) msk_laws_szEntryS (lp_laws_szEntryS fu) (loops 0 body_laws_szEntryS) := by
  have h : loops 0 body_laws_szEntryS = [] := by kernel_rfl
  rw [h]; intro p hp; cases hp
def S_laws_szEntryS (fu : Nat) (xs : List (D RT den)) : Option (Out RT den) := match xs with | [.rs za0_0 .laws_Entry na0_0 fa0_0, .int .i64 a1_0] => some ⟨Int, F_laws_szEntryS fu (⟨za0_0, na0_0, fa0_0⟩ : (Sl S_laws_Entry)) a1_0, enc_i64, fun _ => true⟩ | _ => none
theorem hpc_laws_szEntryS (fu : Nat) : ∀ f xs o, pcf_laws_szEntryS fu f xs = some o → ∀ y, o.x = some y → Good E Try.prog f xs (o.g y) := by
  intro f xs o h
  cases h
theorem hpx_laws_szEntryS (fu : Nat) : ∀ f xs ins o, pcx_laws_szEntryS fu f xs ins = some o → ∀ y, o.x = some y → GoodX E Try.prog f xs ins (o.g y).1 (o.g y).2 := by
  intro f xs ins o h
  cases h
theorem goodv_laws_szEntryS (fu : Nat) (a_0 : (Sl S_laws_Entry)) (left_1 : Int) (y : Int) (hy : F_laws_szEntryS fu a_0 left_1 = some y) : Good E Try.prog 34 [(.rs a_0.z .laws_Entry a_0.n a_0.f), (.int .i64 left_1)] (enc_i64 y) :=
  fun_good E_ok (pc_good (pc := pc_laws_szEntryS fu) (hpc_laws_szEntryS fu) (hpx_laws_szEntryS fu)) (fn := Try.f34) (c := body_laws_szEntryS) (out := out_i64) (y := y) (by kernel_rfl) (by kernel_rfl) (by kernel_rfl) (lpok_laws_szEntryS fu) (fun d hd => out_i64_enc d _ hd) ((ev_laws_szEntryS fu a_0 left_1).trans hy)
theorem good_laws_szEntryS (fu : Nat) : ∀ xs o, S_laws_szEntryS fu xs = some o → ∀ y, o.x = some y → Good E Try.prog 34 xs (o.g y) := by
  intro xs o h y hy
  unfold S_laws_szEntryS at h
  split at h
  · rename_i za0_0 na0_0 fa0_0 a1_0
    cases h
    exact goodv_laws_szEntryS fu (⟨za0_0, na0_0, fa0_0⟩ : (Sl S_laws_Entry)) a1_0 y hy
  · cases h

/-! laws.szInt64S -/
def F_laws_szInt64S (fu : Nat) (a_0 : (Sl Int)) (left_1 : Int) : Option (Int) :=
  (bif (decide ((IntKind.wrap .i64 (left_1 - ((a_0.n : Nat) : Int))) < 0)) then (some (-1)) else (some (IntKind.wrap .i64 (left_1 - ((a_0.n : Nat) : Int)))))
def pcf_laws_szInt64S (fu : Nat) (f : Nat) (xs : List (D RT den)) : Option (Out RT den) := none
def pcx_laws_szInt64S (fu : Nat) (f : Nat) (xs : List (D RT den)) (ins : List (Ob RT den)) : Option (OutX RT den) := none
def pc_laws_szInt64S (fu : Nat) : Pc RT den := ⟨pcf_laws_szInt64S fu, fun _ => false, fun _ => false, pcx_laws_szInt64S fu⟩
def msk_laws_szInt64S (b : Nat) : List Nat := []
def lp_laws_szInt64S (fu : Nat) : Lp RT den (Int) := fun b s k => none
theorem ev_laws_szInt64S (fu : Nat) (a_0 : (Sl Int)) (left_1 : Int) : evFun E (pc_laws_szInt64S fu) msk_laws_szInt64S (lp_laws_szInt64S fu) out_i64 35 [(.rs a_0.z .i64 a_0.n a_0.f), (.int .i64 left_1)] = F_laws_szInt64S fu a_0 left_1 := by kernel_rfl
noncomputable def body_laws_szInt64S : Code := Try.f35.body.getD .skip
theorem lpok_laws_szInt64S (fu : Nat) : LpOk E (pc_laws_szInt64S fu) msk_laws_szInt64S (lp_laws_szInt64S fu) (loops 0 body_laws_szInt64S) := by
  have h : loops 0 body_laws_szInt64S = [] := by kernel_rfl
  rw [h]; intro p hp; cases hp
def S_laws_szInt64S (fu : Nat) (xs : List (D RT den)) : Option (Out RT den) := match xs with | [.rs za0_0 .i64 na0_0 fa0_0, .int .i64 a1_0] => some ⟨Int, F_laws_szInt64S fu (⟨za0_0, na0_0, fa0_0⟩ : (Sl Int)) a1_0, enc_i64, fun _ => true⟩ | _ => none
theorem hpc_laws_szInt64S (fu : Nat) : ∀ f xs o, pcf_laws_szInt64S fu f xs = some o → ∀ y, o.x = some y → Good E Try.prog f xs (o.g y) := by
  intro f xs o h
  cases h
theorem hpx_laws_szInt64S (fu : Nat) : ∀ f xs ins o, pcx_laws_szInt64S fu f xs ins = some o → ∀ y, o.x = some y → GoodX E Try.prog f xs ins (o.g y).1 (o.g y).2 := by
  intro f xs ins o h
  cases h
theorem goodv_laws_szInt64S (fu : Nat) (a_0 : (Sl Int)) (left_1 : Int) (y : Int) (hy : F_laws_szInt64S fu a_0 left_1 = some y) : Good E Try.prog 35 [(.rs a_0.z .i64 a_0.n a_0.f), (.int .i64 left_1)] (enc_i64 y) :=
  fun_good E_ok (pc_good (pc := pc_laws_szInt64S fu) (hpc_laws_szInt64S fu) (hpx_laws_szInt64S fu)) (fn := Try.f35) (c := body_laws_szInt64S) (out := out_i64) (y := y) (by kernel_rfl) (by kernel_rfl) (by kernel_rfl) (lpok_laws_szInt64S fu) (fun d hd => out_i64_enc d _ hd) ((ev_laws_szInt64S fu a_0 left_1).trans hy)
theorem good_laws_szInt64S (fu : Nat) : ∀ xs o, S_laws_szInt64S fu xs = some o → ∀ y, o.x = some y → Good E Try.prog 35 xs (o.g y) := by
  intro xs o h y hy
  unfold S_laws_szInt64S at h
  split at h
  · rename_i za0_0 na0_0 fa0_0 a1_0
    cases h
    exact goodv_laws_szInt64S fu (⟨za0_0, na0_0, fa0_0⟩ : (Sl Int)) a1_0 y hy
  · cases h

/-! laws.szNode -/
def F_laws_szNode (fu : Nat) (a_0 : S_laws_Node) (left_1 : Int) : Option (Int) :=
  ((F_laws_szEntryS fu a_0.Log left_1).bind fun y290 => (bif (decide (y290 < 0)) then (some (-1)) else ((F_laws_szInt64S fu a_0.Votes y290).bind fun y291 => (bif (decide (y291 < 0)) then
    (some (-1)) else ((F_laws_szInt64S fu a_0.Next y291).bind fun y292 => (bif (decide (y292 < 0)) then (some (-1)) else ((F_laws_szInt64S fu a_0.Match y292).bind fun y293 => (bif (decide (y293 < 0)) then
    (some (-1)) else (some y293)))))))))
def pcf_laws_szNode (fu : Nat) (f : Nat) (xs : List (D RT den)) : Option (Out RT den) := match f with | 34 => S_laws_szEntryS fu xs | 35 => S_laws_szInt64S fu xs | _ => none
def pcx_laws_szNode (fu : Nat) (f : Nat) (xs : List (D RT den)) (ins : List (Ob RT den)) : Option (OutX RT den) := none
def pc_laws_szNode (fu : Nat) : Pc RT den := ⟨pcf_laws_szNode fu, fun _ => false, fun _ => false, pcx_laws_szNode fu⟩
def msk_laws_szNode (b : Nat) : List Nat := []
def lp_laws_szNode (fu : Nat) : Lp RT den (Int) := fun b s k => none
theorem ev_laws_szNode (fu : Nat) (a_0 : S_laws_Node) (left_1 : Int) : evFun E (pc_laws_szNode fu) msk_laws_szNode (lp_laws_szNode fu) out_i64 8 [(.agg [(.int .i64 a_0.Id), (.int .i64 a_0.Peers), (.int .i64 a_0.Term), (.int .i64 a_0.Voted), (.rs a_0.Log.z .laws_Entry a_0.Log.n a_0.Log.f), (.int .i64 a_0.Role), (.int .i64 a_0.Commit), (.rs a_0.Votes.z .i64 a_0.Votes.n a_0.Votes.f), (.rs a_0.Next.z .i64 a_0.Next.n a_0.Next.f), (.rs a_0.Match.z .i64 a_0.Match.n a_0.Match.f)]), (.int .i64 left_1)] = F_laws_szNode fu a_0 left_1 := by kernel_rfl
noncomputable def body_laws_szNode : Code := Try.f8.body.getD .skip
theorem lpok_laws_szNode (fu : Nat) : LpOk E (pc_laws_szNode fu) msk_laws_szNode (lp_laws_szNode fu) (loops 0 body_laws_szNode) := by
  have h : loops 0 body_laws_szNode = [] := by kernel_rfl
  rw [h]; intro p hp; cases hp
def S_laws_szNode (fu : Nat) (xs : List (D RT den)) : Option (Out RT den) := match xs with | [.agg [.int .i64 a0_1, .int .i64 a0_2, .int .i64 a0_3, .int .i64 a0_4, .rs za0_5 .laws_Entry na0_5 fa0_5, .int .i64 a0_6, .int .i64 a0_7, .rs za0_8 .i64 na0_8 fa0_8, .rs za0_9 .i64 na0_9 fa0_9, .rs za0_10 .i64 na0_10 fa0_10], .int .i64 a1_0] => some ⟨Int, F_laws_szNode fu (⟨a0_1, a0_2, a0_3, a0_4, (⟨za0_5, na0_5, fa0_5⟩ : (Sl S_laws_Entry)), a0_6, a0_7, (⟨za0_8, na0_8, fa0_8⟩ : (Sl Int)), (⟨za0_9, na0_9, fa0_9⟩ : (Sl Int)), (⟨za0_10, na0_10, fa0_10⟩ : (Sl Int))⟩ : S_laws_Node) a1_0, enc_i64, fun _ => true⟩ | _ => none
theorem hpc_laws_szNode (fu : Nat) : ∀ f xs o, pcf_laws_szNode fu f xs = some o → ∀ y, o.x = some y → Good E Try.prog f xs (o.g y) := by
  intro f xs o h
  unfold pcf_laws_szNode at h
  split at h
  · exact good_laws_szEntryS fu xs o h
  · exact good_laws_szInt64S fu xs o h
  · cases h
theorem hpx_laws_szNode (fu : Nat) : ∀ f xs ins o, pcx_laws_szNode fu f xs ins = some o → ∀ y, o.x = some y → GoodX E Try.prog f xs ins (o.g y).1 (o.g y).2 := by
  intro f xs ins o h
  cases h
theorem goodv_laws_szNode (fu : Nat) (a_0 : S_laws_Node) (left_1 : Int) (y : Int) (hy : F_laws_szNode fu a_0 left_1 = some y) : Good E Try.prog 8 [(.agg [(.int .i64 a_0.Id), (.int .i64 a_0.Peers), (.int .i64 a_0.Term), (.int .i64 a_0.Voted), (.rs a_0.Log.z .laws_Entry a_0.Log.n a_0.Log.f), (.int .i64 a_0.Role), (.int .i64 a_0.Commit), (.rs a_0.Votes.z .i64 a_0.Votes.n a_0.Votes.f), (.rs a_0.Next.z .i64 a_0.Next.n a_0.Next.f), (.rs a_0.Match.z .i64 a_0.Match.n a_0.Match.f)]), (.int .i64 left_1)] (enc_i64 y) :=
  fun_good E_ok (pc_good (pc := pc_laws_szNode fu) (hpc_laws_szNode fu) (hpx_laws_szNode fu)) (fn := Try.f8) (c := body_laws_szNode) (out := out_i64) (y := y) (by kernel_rfl) (by kernel_rfl) (by kernel_rfl) (lpok_laws_szNode fu) (fun d hd => out_i64_enc d _ hd) ((ev_laws_szNode fu a_0 left_1).trans hy)
theorem good_laws_szNode (fu : Nat) : ∀ xs o, S_laws_szNode fu xs = some o → ∀ y, o.x = some y → Good E Try.prog 8 xs (o.g y) := by
  intro xs o h y hy
  unfold S_laws_szNode at h
  split at h
  · rename_i a0_1 a0_2 a0_3 a0_4 za0_5 na0_5 fa0_5 a0_6 a0_7 za0_8 na0_8 fa0_8 za0_9 na0_9 fa0_9 za0_10 na0_10 fa0_10 a1_0
    cases h
    exact goodv_laws_szNode fu (⟨a0_1, a0_2, a0_3, a0_4, (⟨za0_5, na0_5, fa0_5⟩ : (Sl S_laws_Entry)), a0_6, a0_7, (⟨za0_8, na0_8, fa0_8⟩ : (Sl Int)), (⟨za0_9, na0_9, fa0_9⟩ : (Sl Int)), (⟨za0_10, na0_10, fa0_10⟩ : (Sl Int))⟩ : S_laws_Node) a1_0 y hy
  · cases h

/-! laws.eqCmd -/
def F_laws_eqCmd (fu : Nat) (a_0 : S_impl_Cmd) (b_1 : S_impl_Cmd) : Option (Bool) :=
  (bif (a_0.Kind != b_1.Kind) then (some false) else (bif (a_0.Expect != b_1.Expect) then (some false) else (bif (a_0.Name != b_1.Name) then (some false) else (bif (a_0.Addr != b_1.Addr) then
    (some false) else (bif (a_0.Number != b_1.Number) then (some false) else (bif (a_0.Proto != b_1.Proto) then (some false) else (some true)))))))
def pcf_laws_eqCmd (fu : Nat) (f : Nat) (xs : List (D RT den)) : Option (Out RT den) := none
def pcx_laws_eqCmd (fu : Nat) (f : Nat) (xs : List (D RT den)) (ins : List (Ob RT den)) : Option (OutX RT den) := none
def pc_laws_eqCmd (fu : Nat) : Pc RT den := ⟨pcf_laws_eqCmd fu, fun _ => false, fun _ => false, pcx_laws_eqCmd fu⟩
def msk_laws_eqCmd (b : Nat) : List Nat := []
def lp_laws_eqCmd (fu : Nat) : Lp RT den (Bool) := fun b s k => none
theorem ev_laws_eqCmd (fu : Nat) (a_0 : S_impl_Cmd) (b_1 : S_impl_Cmd) : evFun E (pc_laws_eqCmd fu) msk_laws_eqCmd (lp_laws_eqCmd fu) out_bo 109 [(.agg [(.int .i64 a_0.Kind), (.int .i64 a_0.Expect), (.int .i64 a_0.Name), (.int .i64 a_0.Addr), (.int .i64 a_0.Number), (.int .i64 a_0.Proto)]), (.agg [(.int .i64 b_1.Kind), (.int .i64 b_1.Expect), (.int .i64 b_1.Name), (.int .i64 b_1.Addr), (.int .i64 b_1.Number), (.int .i64 b_1.Proto)])] = F_laws_eqCmd fu a_0 b_1 := by kernel_rfl
noncomputable def body_laws_eqCmd : Code := Try.f109.body.getD .skip
theorem lpok_laws_eqCmd (fu : Nat) : LpOk E (pc_laws_eqCmd fu) msk_laws_eqCmd (lp_laws_eqCmd fu) (loops 0 body_laws_eqCmd) := by
  have h : loops 0 body_laws_eqCmd = [] := by kernel_rfl
  rw [h]; intro p hp; cases hp
def S_laws_eqCmd (fu : Nat) (xs : List (D RT den)) : Option (Out RT den) := match xs with | [.agg [.int .i64 a0_1, .int .i64 a0_2, .int .i64 a0_3, .int .i64 a0_4, .int .i64 a0_5, .int .i64 a0_6], .agg [.int .i64 a1_1, .int .i64 a1_2, .int .i64 a1_3, .int .i64 a1_4, .int .i64 a1_5, .int .i64 a1_6]] => some ⟨Bool, F_laws_eqCmd fu (⟨a0_1, a0_2, a0_3, a0_4, a0_5, a0_6⟩ : S_impl_Cmd) (⟨a1_1, a1_2, a1_3, a1_4, a1_5, a1_6⟩ : S_impl_Cmd), enc_bo, fun _ => true⟩ | _ => none
theorem hpc_laws_eqCmd (fu : Nat) : ∀ f xs o, pcf_laws_eqCmd fu f xs = some o → ∀ y, o.x = some y → Good E Try.prog f xs (o.g y) := by
  intro f xs o h
  cases h
theorem hpx_laws_eqCmd (fu : Nat) : ∀ f xs ins o, pcx_laws_eqCmd fu f xs ins = some o → ∀ y, o.x = some y → GoodX E Try.prog f xs ins (o.g y).1 (o.g y).2 := by
  intro f xs ins o h
  cases h
theorem goodv_laws_eqCmd (fu : Nat) (a_0 : S_impl_Cmd) (b_1 : S_impl_Cmd) (y : Bool) (hy : F_laws_eqCmd fu a_0 b_1 = some y) : Good E Try.prog 109 [(.agg [(.int .i64 a_0.Kind), (.int .i64 a_0.Expect), (.int .i64 a_0.Name), (.int .i64 a_0.Addr), (.int .i64 a_0.Number), (.int .i64 a_0.Proto)]), (.agg [(.int .i64 b_1.Kind), (.int .i64 b_1.Expect), (.int .i64 b_1.Name), (.int .i64 b_1.Addr), (.int .i64 b_1.Number), (.int .i64 b_1.Proto)])] (enc_bo y) :=
  fun_good E_ok (pc_good (pc := pc_laws_eqCmd fu) (hpc_laws_eqCmd fu) (hpx_laws_eqCmd fu)) (fn := Try.f109) (c := body_laws_eqCmd) (out := out_bo) (y := y) (by kernel_rfl) (by kernel_rfl) (by kernel_rfl) (lpok_laws_eqCmd fu) (fun d hd => out_bo_enc d _ hd) ((ev_laws_eqCmd fu a_0 b_1).trans hy)
theorem good_laws_eqCmd (fu : Nat) : ∀ xs o, S_laws_eqCmd fu xs = some o → ∀ y, o.x = some y → Good E Try.prog 109 xs (o.g y) := by
  intro xs o h y hy
  unfold S_laws_eqCmd at h
  split at h
  · rename_i a0_1 a0_2 a0_3 a0_4 a0_5 a0_6 a1_1 a1_2 a1_3 a1_4 a1_5 a1_6
    cases h
    exact goodv_laws_eqCmd fu (⟨a0_1, a0_2, a0_3, a0_4, a0_5, a0_6⟩ : S_impl_Cmd) (⟨a1_1, a1_2, a1_3, a1_4, a1_5, a1_6⟩ : S_impl_Cmd) y hy
  · cases h

/-! laws.eqEntry -/
def F_laws_eqEntry (fu : Nat) (a_0 : S_impl_Entry) (b_1 : S_impl_Entry) : Option (Bool) :=
  (bif (a_0.Term != b_1.Term) then (some false) else (bif (a_0.Client != b_1.Client) then (some false) else (bif (a_0.Seq != b_1.Seq) then (some false) else ((F_laws_eqCmd fu a_0.Cmd b_1.Cmd).bind fun y301 =>
    (bif (!y301) then (some false) else (some true))))))
def pcf_laws_eqEntry (fu : Nat) (f : Nat) (xs : List (D RT den)) : Option (Out RT den) := match f with | 109 => S_laws_eqCmd fu xs | _ => none
def pcx_laws_eqEntry (fu : Nat) (f : Nat) (xs : List (D RT den)) (ins : List (Ob RT den)) : Option (OutX RT den) := none
def pc_laws_eqEntry (fu : Nat) : Pc RT den := ⟨pcf_laws_eqEntry fu, fun _ => false, fun _ => false, pcx_laws_eqEntry fu⟩
def msk_laws_eqEntry (b : Nat) : List Nat := []
def lp_laws_eqEntry (fu : Nat) : Lp RT den (Bool) := fun b s k => none
theorem ev_laws_eqEntry (fu : Nat) (a_0 : S_impl_Entry) (b_1 : S_impl_Entry) : evFun E (pc_laws_eqEntry fu) msk_laws_eqEntry (lp_laws_eqEntry fu) out_bo 97 [(.agg [(.int .i64 a_0.Term), (.int .i64 a_0.Client), (.int .i64 a_0.Seq), (.int .i64 a_0.Cmd.Kind), (.int .i64 a_0.Cmd.Expect), (.int .i64 a_0.Cmd.Name), (.int .i64 a_0.Cmd.Addr), (.int .i64 a_0.Cmd.Number), (.int .i64 a_0.Cmd.Proto)]), (.agg [(.int .i64 b_1.Term), (.int .i64 b_1.Client), (.int .i64 b_1.Seq), (.int .i64 b_1.Cmd.Kind), (.int .i64 b_1.Cmd.Expect), (.int .i64 b_1.Cmd.Name), (.int .i64 b_1.Cmd.Addr), (.int .i64 b_1.Cmd.Number), (.int .i64 b_1.Cmd.Proto)])] = F_laws_eqEntry fu a_0 b_1 := by kernel_rfl
noncomputable def body_laws_eqEntry : Code := Try.f97.body.getD .skip
theorem lpok_laws_eqEntry (fu : Nat) : LpOk E (pc_laws_eqEntry fu) msk_laws_eqEntry (lp_laws_eqEntry fu) (loops 0 body_laws_eqEntry) := by
  have h : loops 0 body_laws_eqEntry = [] := by kernel_rfl
  rw [h]; intro p hp; cases hp
def S_laws_eqEntry (fu : Nat) (xs : List (D RT den)) : Option (Out RT den) := match xs with | [.agg [.int .i64 a0_1, .int .i64 a0_2, .int .i64 a0_3, .int .i64 a0_5, .int .i64 a0_6, .int .i64 a0_7, .int .i64 a0_8, .int .i64 a0_9, .int .i64 a0_10], .agg [.int .i64 a1_1, .int .i64 a1_2, .int .i64 a1_3, .int .i64 a1_5, .int .i64 a1_6, .int .i64 a1_7, .int .i64 a1_8, .int .i64 a1_9, .int .i64 a1_10]] => some ⟨Bool, F_laws_eqEntry fu (⟨a0_1, a0_2, a0_3, (⟨a0_5, a0_6, a0_7, a0_8, a0_9, a0_10⟩ : S_impl_Cmd)⟩ : S_impl_Entry) (⟨a1_1, a1_2, a1_3, (⟨a1_5, a1_6, a1_7, a1_8, a1_9, a1_10⟩ : S_impl_Cmd)⟩ : S_impl_Entry), enc_bo, fun _ => true⟩ | _ => none
theorem hpc_laws_eqEntry (fu : Nat) : ∀ f xs o, pcf_laws_eqEntry fu f xs = some o → ∀ y, o.x = some y → Good E Try.prog f xs (o.g y) := by
  intro f xs o h
  unfold pcf_laws_eqEntry at h
  split at h
  · exact good_laws_eqCmd fu xs o h
  · cases h
theorem hpx_laws_eqEntry (fu : Nat) : ∀ f xs ins o, pcx_laws_eqEntry fu f xs ins = some o → ∀ y, o.x = some y → GoodX E Try.prog f xs ins (o.g y).1 (o.g y).2 := by
  intro f xs ins o h
  cases h
theorem goodv_laws_eqEntry (fu : Nat) (a_0 : S_impl_Entry) (b_1 : S_impl_Entry) (y : Bool) (hy : F_laws_eqEntry fu a_0 b_1 = some y) : Good E Try.prog 97 [(.agg [(.int .i64 a_0.Term), (.int .i64 a_0.Client), (.int .i64 a_0.Seq), (.int .i64 a_0.Cmd.Kind), (.int .i64 a_0.Cmd.Expect), (.int .i64 a_0.Cmd.Name), (.int .i64 a_0.Cmd.Addr), (.int .i64 a_0.Cmd.Number), (.int .i64 a_0.Cmd.Proto)]), (.agg [(.int .i64 b_1.Term), (.int .i64 b_1.Client), (.int .i64 b_1.Seq), (.int .i64 b_1.Cmd.Kind), (.int .i64 b_1.Cmd.Expect), (.int .i64 b_1.Cmd.Name), (.int .i64 b_1.Cmd.Addr), (.int .i64 b_1.Cmd.Number), (.int .i64 b_1.Cmd.Proto)])] (enc_bo y) :=
  fun_good E_ok (pc_good (pc := pc_laws_eqEntry fu) (hpc_laws_eqEntry fu) (hpx_laws_eqEntry fu)) (fn := Try.f97) (c := body_laws_eqEntry) (out := out_bo) (y := y) (by kernel_rfl) (by kernel_rfl) (by kernel_rfl) (lpok_laws_eqEntry fu) (fun d hd => out_bo_enc d _ hd) ((ev_laws_eqEntry fu a_0 b_1).trans hy)
theorem good_laws_eqEntry (fu : Nat) : ∀ xs o, S_laws_eqEntry fu xs = some o → ∀ y, o.x = some y → Good E Try.prog 97 xs (o.g y) := by
  intro xs o h y hy
  unfold S_laws_eqEntry at h
  split at h
  · rename_i a0_1 a0_2 a0_3 a0_5 a0_6 a0_7 a0_8 a0_9 a0_10 a1_1 a1_2 a1_3 a1_5 a1_6 a1_7 a1_8 a1_9 a1_10
    cases h
    exact goodv_laws_eqEntry fu (⟨a0_1, a0_2, a0_3, (⟨a0_5, a0_6, a0_7, a0_8, a0_9, a0_10⟩ : S_impl_Cmd)⟩ : S_impl_Entry) (⟨a1_1, a1_2, a1_3, (⟨a1_5, a1_6, a1_7, a1_8, a1_9, a1_10⟩ : S_impl_Cmd)⟩ : S_impl_Entry) y hy
  · cases h

/-! laws.eqEntryS -/
def F_laws_eqEntryS_B0 {ρ : Type} (fu : Nat) (a0_0 : (Sl S_impl_Entry)) (b1_1 : (Sl S_impl_Entry)) (k0 : Option ρ) (k1 : Option ρ) (i5_2 : Int) (go : Int → Option ρ) : Option ρ :=
  (bif (decide (i5_2 < ((a0_0.n : Nat) : Int))) then ((bif (decide (0 ≤ i5_2) && decide ((Int.toNat i5_2) < a0_0.n)) then some () else none : Option Unit).bind fun _ => ((bif (decide (0 ≤ i5_2) &&
    decide ((Int.toNat i5_2) < b1_1.n)) then some () else none : Option Unit).bind fun _ => ((F_laws_eqEntry fu (a0_0.f (Int.toNat i5_2)) (b1_1.f (Int.toNat i5_2))).bind fun y300 =>
    (bif (!y300) then k0 else (go (IntKind.wrap .i64 (i5_2 + 1))))))) else k1)
def F_laws_eqEntryS (fu : Nat) (a_0 : (Sl S_impl_Entry)) (b_1 : (Sl S_impl_Entry)) : Option (Bool) :=
  (bif (((a_0.n : Nat) : Int) != ((b_1.n : Nat) : Int)) then (some false) else (L (fun w0 go0 => F_laws_eqEntryS_B0 fu a_0 b_1 (some false) (some true) w0 go0) fu (0 : Int)))
def pcf_laws_eqEntryS (fu : Nat) (f : Nat) (xs : List (D RT den)) : Option (Out RT den) := match f with | 97 => S_laws_eqEntry fu xs | _ => none
def pcx_laws_eqEntryS (fu : Nat) (f : Nat) (xs : List (D RT den)) (ins : List (Ob RT den)) : Option (OutX RT den) := none
def pc_laws_eqEntryS (fu : Nat) : Pc RT den := ⟨pcf_laws_eqEntryS fu, fun _ => false, fun _ => false, pcx_laws_eqEntryS fu⟩
def msk_laws_eqEntryS (b : Nat) : List Nat := match b with | 0 => [2, 3, 4, 6, 7, 8, 9, 10, 11, 12, 13, 14, 15, 16, 17, 18, 19, 20, 21, 22, 23, 24, 25, 26] | 100000 => [0, 1, 2, 3, 5, 6, 7, 8, 9, 10, 11, 12, 13, 14, 15, 16, 17, 18, 19, 20, 21, 22, 23, 24, 25, 26] | _ => []
def ps_laws_eqEntryS_0 : List (Pat RT) := [.flat (.rs .impl_Entry), .flat (.rs .impl_Entry), .flat .dead, .flat .dead, .flat .dead, .flat (.int .i64), .flat .dead, .flat .dead, .flat .dead, .flat .dead, .flat .dead, .flat .dead, .flat .dead, .flat .dead, .flat .dead, .flat .dead, .flat .dead, .flat .dead, .flat .dead, .flat .dead, .flat .dead, .flat .dead, .flat .dead, .flat .dead, .flat .dead, .flat .dead, .flat .dead]
def os_laws_eqEntryS_0 : List (OP RT) := []
def conv_laws_eqEntryS_0 (r : Raw den ps_laws_eqEntryS_0 os_laws_eqEntryS_0) : ((Sl S_impl_Entry) × (Sl S_impl_Entry)) × (Int) := ((r.1.1, r.1.2.1), r.1.2.2.2.2.2.1)
def back_laws_eqEntryS_0 (c : (Sl S_impl_Entry) × (Sl S_impl_Entry)) (w : Int) : St RT den := ⟨[(.rs c.1.z .impl_Entry c.1.n c.1.f), (.rs c.2.z .impl_Entry c.2.n c.2.f), .dead, .dead, .dead, (.int .i64 w), .dead, .dead, .dead, .dead, .dead, .dead, .dead, .dead, .dead, .dead, .dead, .dead, .dead, .dead, .dead, .dead, .dead, .dead, .dead, .dead, .dead], []⟩
def Bk_laws_eqEntryS_0 {ρ : Type} (fu : Nat) (c : (Sl S_impl_Entry) × (Sl S_impl_Entry)) (k : Ex → St RT den → Option ρ) (w : Int) (go : (Int) → Option ρ) : Option ρ := F_laws_eqEntryS_B0 fu c.1 c.2 (k .ret ⟨[.dead, .dead, .dead, .dead, (.bool false), .dead, .dead, .dead, .dead, .dead, .dead, .dead, .dead, .dead, .dead, .dead, .dead, .dead, .dead, .dead, .dead, .dead, .dead, .dead, .dead, .dead, .dead], []⟩) (k (.exit 0) ⟨[.dead, .dead, .dead, .dead, .dead, .dead, .dead, .dead, .dead, .dead, .dead, .dead, .dead, .dead, .dead, .dead, .dead, .dead, .dead, .dead, .dead, .dead, .dead, .dead, .dead, .dead, .dead], []⟩) w go
def lp_laws_eqEntryS (fu : Nat) : Lp RT den (Bool) := fun b s k => match b with | 0 => handle ps_laws_eqEntryS_0 os_laws_eqEntryS_0 conv_laws_eqEntryS_0 (Bk_laws_eqEntryS_0 fu) fu s k | _ => none
theorem ev_laws_eqEntryS (fu : Nat) (a_0 : (Sl S_impl_Entry)) (b_1 : (Sl S_impl_Entry)) : evFun E (pc_laws_eqEntryS fu) msk_laws_eqEntryS (lp_laws_eqEntryS fu) out_bo 50 [(.rs a_0.z .impl_Entry a_0.n a_0.f), (.rs b_1.z .impl_Entry b_1.n b_1.f)] = F_laws_eqEntryS fu a_0 b_1 := by kernel_rfl
noncomputable def body_laws_eqEntryS : Code := Try.f50.body.getD .skip
noncomputable def lc_laws_eqEntryS_0 : Code := ((loops 0 body_laws_eqEntryS).getD 0 (0, .skip)).2
theorem round_laws_eqEntryS_0 (fu : Nat) (it : St RT den → Option (Bool)) (k : Ex → St RT den → Option (Bool)) c w : evCode E (pc_laws_eqEntryS fu) msk_laws_eqEntryS (lp_laws_eqEntryS fu) 0 lc_laws_eqEntryS_0 (back_laws_eqEntryS_0 c w) (after (msk_laws_eqEntryS 0) (msk_laws_eqEntryS 100000) 0 it k) = Bk_laws_eqEntryS_0 fu c k w (fun w => it (back_laws_eqEntryS_0 c w)) := by kernel_rfl
theorem lpok_laws_eqEntryS_0 (fu : Nat) : ∀ s k r, lp_laws_eqEntryS fu 0 s k = some r → ∃ fuel, iter (msk_laws_eqEntryS 0) (msk_laws_eqEntryS 100000) s.objs.length (evCode E (pc_laws_eqEntryS fu) msk_laws_eqEntryS (lp_laws_eqEntryS fu) 0 lc_laws_eqEntryS_0) fuel s k = some r :=
  handle_ok (ps := ps_laws_eqEntryS_0) (os := os_laws_eqEntryS_0) (conv := conv_laws_eqEntryS_0) (B := Bk_laws_eqEntryS_0 fu) (fu := fu) back_laws_eqEntryS_0 (fun raw => by kernel_rfl) 0 (fun c w => by kernel_rfl) (round_laws_eqEntryS_0 fu)
theorem lpok_laws_eqEntryS (fu : Nat) : LpOk E (pc_laws_eqEntryS fu) msk_laws_eqEntryS (lp_laws_eqEntryS fu) (loops 0 body_laws_eqEntryS) := loop_all 1 (by kernel_rfl) fun i hi => match i, hi with
  | 0, _ => by
    have h : (loops 0 body_laws_eqEntryS).getD 0 (0, .skip) = (0, lc_laws_eqEntryS_0) := by kernel_rfl
    rw [h]; exact lpok_laws_eqEntryS_0 fu
  | i + 1, hi => absurd hi (by omega)
def S_laws_eqEntryS (fu : Nat) (xs : List (D RT den)) : Option (Out RT den) := match xs with | [.rs za0_0 .impl_Entry na0_0 fa0_0, .rs za1_0 .impl_Entry na1_0 fa1_0] => some ⟨Bool, F_laws_eqEntryS fu (⟨za0_0, na0_0, fa0_0⟩ : (Sl S_impl_Entry)) (⟨za1_0, na1_0, fa1_0⟩ : (Sl S_impl_Entry)), enc_bo, fun _ => true⟩ | _ => none
theorem hpc_laws_eqEntryS (fu : Nat) : ∀ f xs o, pcf_laws_eqEntryS fu f xs = some o → ∀ y, o.x = some y → Good E Try.prog f xs (o.g y) := by
  intro f xs o h
  unfold pcf_laws_eqEntryS at h
  split at h
  · exact good_laws_eqEntry fu xs o h
  · cases h
theorem hpx_laws_eqEntryS (fu : Nat) : ∀ f xs ins o, pcx_laws_eqEntryS fu f xs ins = some o → ∀ y, o.x = some y → GoodX E Try.prog f xs ins (o.g y).1 (o.g y).2 := by
  intro f xs ins o h
  cases h
theorem goodv_laws_eqEntryS (fu : Nat) (a_0 : (Sl S_impl_Entry)) (b_1 : (Sl S_impl_Entry)) (y : Bool) (hy : F_laws_eqEntryS fu a_0 b_1 = some y) : Good E Try.prog 50 [(.rs a_0.z .impl_Entry a_0.n a_0.f), (.rs b_1.z .impl_Entry b_1.n b_1.f)] (enc_bo y) :=
  fun_good E_ok (pc_good (pc := pc_laws_eqEntryS fu) (hpc_laws_eqEntryS fu) (hpx_laws_eqEntryS fu)) (fn := Try.f50) (c := body_laws_eqEntryS) (out := out_bo) (y := y) (by kernel_rfl) (by kernel_rfl) (by kernel_rfl) (lpok_laws_eqEntryS fu) (fun d hd => out_bo_enc d _ hd) ((ev_laws_eqEntryS fu a_0 b_1).trans hy)
theorem good_laws_eqEntryS (fu : Nat) : ∀ xs o, S_laws_eqEntryS fu xs = some o → ∀ y, o.x = some y → Good E Try.prog 50 xs (o.g y) := by
  intro xs o h y hy
  unfold S_laws_eqEntryS at h
  split at h
  · rename_i za0_0 na0_0 fa0_0 za1_0 na1_0 fa1_0
    cases h
    exact goodv_laws_eqEntryS fu (⟨za0_0, na0_0, fa0_0⟩ : (Sl S_impl_Entry)) (⟨za1_0, na1_0, fa1_0⟩ : (Sl S_impl_Entry)) y hy
  · cases h

/-! laws.eqInt64S -/
def F_laws_eqInt64S_B0 {ρ : Type} (fu : Nat) (a0_0 : (Sl Int)) (b1_1 : (Sl Int)) (k0 : Option ρ) (k1 : Option ρ) (i5_2 : Int) (go : Int → Option ρ) : Option ρ :=
  (bif (decide (i5_2 < ((a0_0.n : Nat) : Int))) then ((bif (decide (0 ≤ i5_2) && decide ((Int.toNat i5_2) < a0_0.n)) then some () else none : Option Unit).bind fun _ => ((bif (decide (0 ≤ i5_2) &&
    decide ((Int.toNat i5_2) < b1_1.n)) then some () else none : Option Unit).bind fun _ => (bif ((a0_0.f (Int.toNat i5_2)) != (b1_1.f (Int.toNat i5_2))) then k0 else (go (IntKind.wrap .i64 (i5_2 + 1)))))) else
    k1)
def F_laws_eqInt64S (fu : Nat) (a_0 : (Sl Int)) (b_1 : (Sl Int)) : Option (Bool) :=
  (bif (((a_0.n : Nat) : Int) != ((b_1.n : Nat) : Int)) then (some false) else (L (fun w0 go0 => F_laws_eqInt64S_B0 fu a_0 b_1 (some false) (some true) w0 go0) fu (0 : Int)))
def pcf_laws_eqInt64S (fu : Nat) (f : Nat) (xs : List (D RT den)) : Option (Out RT den) := none
def pcx_laws_eqInt64S (fu : Nat) (f : Nat) (xs : List (D RT den)) (ins : List (Ob RT den)) : Option (OutX RT den) := none
def pc_laws_eqInt64S (fu : Nat) : Pc RT den := ⟨pcf_laws_eqInt64S fu, fun _ => false, fun _ => false, pcx_laws_eqInt64S fu⟩
def msk_laws_eqInt64S (b : Nat) : List Nat := match b with | 0 => [2, 3, 4, 6, 7, 8, 9, 10, 11, 12, 13, 14, 15, 16, 17, 18, 19, 20, 21, 22, 23, 24, 25] | 100000 => [0, 1, 2, 3, 5, 6, 7, 8, 9, 10, 11, 12, 13, 14, 15, 16, 17, 18, 19, 20, 21, 22, 23, 24, 25] | _ => []
def ps_laws_eqInt64S_0 : List (Pat RT) := [.flat (.rs .i64), .flat (.rs .i64), .flat .dead, .flat .dead, .flat .dead, .flat (.int .i64), .flat .dead, .flat .dead, .flat .dead, .flat .dead, .flat .dead, .flat .dead, .flat .dead, .flat .dead, .flat .dead, .flat .dead, .flat .dead, .flat .dead, .flat .dead, .flat .dead, .flat .dead, .flat .dead, .flat .dead, .flat .dead, .flat .dead, .flat .dead]
def os_laws_eqInt64S_0 : List (OP RT) := []
def conv_laws_eqInt64S_0 (r : Raw den ps_laws_eqInt64S_0 os_laws_eqInt64S_0) : ((Sl Int) × (Sl Int)) × (Int) := ((r.1.1, r.1.2.1), r.1.2.2.2.2.2.1)
def back_laws_eqInt64S_0 (c : (Sl Int) × (Sl Int)) (w : Int) : St RT den := ⟨[(.rs c.1.z .i64 c.1.n c.1.f), (.rs c.2.z .i64 c.2.n c.2.f), .dead, .dead, .dead, (.int .i64 w), .dead, .dead, .dead, .dead, .dead, .dead, .dead, .dead, .dead, .dead, .dead, .dead, .dead, .dead, .dead, .dead, .dead, .dead, .dead, .dead], []⟩
def Bk_laws_eqInt64S_0 {ρ : Type} (fu : Nat) (c : (Sl Int) × (Sl Int)) (k : Ex → St RT den → Option ρ) (w : Int) (go : (Int) → Option ρ) : Option ρ := F_laws_eqInt64S_B0 fu c.1 c.2 (k .ret ⟨[.dead, .dead, .dead, .dead, (.bool false), .dead, .dead, .dead, .dead, .dead, .dead, .dead, .dead, .dead, .dead, .dead, .dead, .dead, .dead, .dead, .dead, .dead, .dead, .dead, .dead, .dead], []⟩) (k (.exit 0) ⟨[.dead, .dead, .dead, .dead, .dead, .dead, .dead, .dead, .dead, .dead, .dead, .dead, .dead, .dead, .dead, .dead, .dead, .dead, .dead, .dead, .dead, .dead, .dead, .dead, .dead, .dead], []⟩) w go
def lp_laws_eqInt64S (fu : Nat) : Lp RT den (Bool) := fun b s k => match b with | 0 => handle ps_laws_eqInt64S_0 os_laws_eqInt64S_0 conv_laws_eqInt64S_0 (Bk_laws_eqInt64S_0 fu) fu s k | _ => none
theorem ev_laws_eqInt64S (fu : Nat) (a_0 : (Sl Int)) (b_1 : (Sl Int)) : evFun E (pc_laws_eqInt64S fu) msk_laws_eqInt64S (lp_laws_eqInt64S fu) out_bo 51 [(.rs a_0.z .i64 a_0.n a_0.f), (.rs b_1.z .i64 b_1.n b_1.f)] = F_laws_eqInt64S fu a_0 b_1 := by kernel_rfl
noncomputable def body_laws_eqInt64S : Code := Try.f51.body.getD .skip
noncomputable def lc_laws_eqInt64S_0 : Code := ((loops 0 body_laws_eqInt64S).getD 0 (0, .skip)).2
theorem round_laws_eqInt64S_0 (fu : Nat) (it : St RT den → Option (Bool)) (k : Ex → St RT den → Option (Bool)) c w : evCode E (pc_laws_eqInt64S fu) msk_laws_eqInt64S (lp_laws_eqInt64S fu) 0 lc_laws_eqInt64S_0 (back_laws_eqInt64S_0 c w) (after (msk_laws_eqInt64S 0) (msk_laws_eqInt64S 100000) 0 it k) = Bk_laws_eqInt64S_0 fu c k w (fun w => it (back_laws_eqInt64S_0 c w)) := by kernel_rfl
theorem lpok_laws_eqInt64S_0 (fu : Nat) : ∀ s k r, lp_laws_eqInt64S fu 0 s k = some r → ∃ fuel, iter (msk_laws_eqInt64S 0) (msk_laws_eqInt64S 100000) s.objs.length (evCode E (pc_laws_eqInt64S fu) msk_laws_eqInt64S (lp_laws_eqInt64S fu) 0 lc_laws_eqInt64S_0) fuel s k = some r :=
  handle_ok (ps := ps_laws_eqInt64S_0) (os := os_laws_eqInt64S_0) (conv := conv_laws_eqInt64S_0) (B := Bk_laws_eqInt64S_0 fu) (fu := fu) back_laws_eqInt64S_0 (fun raw => by kernel_rfl) 0 (fun c w => by kernel_rfl) (round_laws_eqInt64S_0 fu)
theorem lpok_laws_eqInt64S (fu : Nat) : LpOk E (pc_laws_eqInt64S fu) msk_laws_eqInt64S (lp_laws_eqInt64S fu) (loops 0 body_laws_eqInt64S) := loop_all 1 (by kernel_rfl) fun i hi => match i, hi with
  | 0, _ => by
    have h : (loops 0 body_laws_eqInt64S).getD 0 (0, .skip) = (0, lc_laws_eqInt64S_0) := by kernel_rfl
    rw [h]; exact lpok_laws_eqInt64S_0 fu
  | i + 1, hi => absurd hi (by omega)
def S_laws_eqInt64S (fu : Nat) (xs : List (D RT den)) : Option (Out RT den) := match xs with | [.rs za0_0 .i64 na0_0 fa0_0, .rs za1_0 .i64 na1_0 fa1_0] => some ⟨Bool, F_laws_eqInt64S fu (⟨za0_0, na0_0, fa0_0⟩ : (Sl Int)) (⟨za1_0, na1_0, fa1_0⟩ : (Sl Int)), enc_bo, fun _ => true⟩ | _ => none
theorem hpc_laws_eqInt64S (fu : Nat) : ∀ f xs o, pcf_laws_eqInt64S fu f xs = some o → ∀ y, o.x = some y → Good E Try.prog f xs (o.g y) := by
  intro f xs o h
  cases h
theorem hpx_laws_eqInt64S (fu : Nat) : ∀ f xs ins o, pcx_laws_eqInt64S fu f xs ins = some o → ∀ y, o.x = some y → GoodX E Try.prog f xs ins (o.g y).1 (o.g y).2 := by
  intro f xs ins o h
  cases h
theorem goodv_laws_eqInt64S (fu : Nat) (a_0 : (Sl Int)) (b_1 : (Sl Int)) (y : Bool) (hy : F_laws_eqInt64S fu a_0 b_1 = some y) : Good E Try.prog 51 [(.rs a_0.z .i64 a_0.n a_0.f), (.rs b_1.z .i64 b_1.n b_1.f)] (enc_bo y) :=
  fun_good E_ok (pc_good (pc := pc_laws_eqInt64S fu) (hpc_laws_eqInt64S fu) (hpx_laws_eqInt64S fu)) (fn := Try.f51) (c := body_laws_eqInt64S) (out := out_bo) (y := y) (by kernel_rfl) (by kernel_rfl) (by kernel_rfl) (lpok_laws_eqInt64S fu) (fun d hd => out_bo_enc d _ hd) ((ev_laws_eqInt64S fu a_0 b_1).trans hy)
theorem good_laws_eqInt64S (fu : Nat) : ∀ xs o, S_laws_eqInt64S fu xs = some o → ∀ y, o.x = some y → Good E Try.prog 51 xs (o.g y) := by
  intro xs o h y hy
  unfold S_laws_eqInt64S at h
  split at h
  · rename_i za0_0 na0_0 fa0_0 za1_0 na1_0 fa1_0
    cases h
    exact goodv_laws_eqInt64S fu (⟨za0_0, na0_0, fa0_0⟩ : (Sl Int)) (⟨za1_0, na1_0, fa1_0⟩ : (Sl Int)) y hy
  · cases h

/-! laws.eqNode -/
def F_laws_eqNode (fu : Nat) (a_0 : S_impl_Node) (b_1 : S_impl_Node) : Option (Bool) :=
  (bif (a_0.Id != b_1.Id) then (some false) else (bif (a_0.Peers != b_1.Peers) then (some false) else (bif (a_0.Term != b_1.Term) then (some false) else (bif (a_0.Voted != b_1.Voted) then
    (some false) else ((F_laws_eqEntryS fu a_0.Log b_1.Log).bind fun y296 => (bif (!y296) then (some false) else (bif (a_0.Role != b_1.Role) then (some false) else (bif (a_0.Commit != b_1.Commit) then
    (some false) else ((F_laws_eqInt64S fu a_0.Votes b_1.Votes).bind fun y297 => (bif (!y297) then (some false) else ((F_laws_eqInt64S fu a_0.Next b_1.Next).bind fun y298 => (bif (!y298) then
    (some false) else ((F_laws_eqInt64S fu a_0.Match b_1.Match).bind fun y299 => (bif (!y299) then (some false) else (some true)))))))))))))))
def pcf_laws_eqNode (fu : Nat) (f : Nat) (xs : List (D RT den)) : Option (Out RT den) := match f with | 50 => S_laws_eqEntryS fu xs | 51 => S_laws_eqInt64S fu xs | _ => none
def pcx_laws_eqNode (fu : Nat) (f : Nat) (xs : List (D RT den)) (ins : List (Ob RT den)) : Option (OutX RT den) := none
def pc_laws_eqNode (fu : Nat) : Pc RT den := ⟨pcf_laws_eqNode fu, fun _ => false, fun _ => false, pcx_laws_eqNode fu⟩
def msk_laws_eqNode (b : Nat) : List Nat := []
def lp_laws_eqNode (fu : Nat) : Lp RT den (Bool) := fun b s k => none
theorem ev_laws_eqNode (fu : Nat) (a_0 : S_impl_Node) (b_1 : S_impl_Node) : evFun E (pc_laws_eqNode fu) msk_laws_eqNode (lp_laws_eqNode fu) out_bo 13 [(.agg [(.int .i64 a_0.Id), (.int .i64 a_0.Peers), (.int .i64 a_0.Term), (.int .i64 a_0.Voted), (.rs a_0.Log.z .impl_Entry a_0.Log.n a_0.Log.f), (.int .i64 a_0.Role), (.int .i64 a_0.Commit), (.rs a_0.Votes.z .i64 a_0.Votes.n a_0.Votes.f), (.rs a_0.Next.z .i64 a_0.Next.n a_0.Next.f), (.rs a_0.Match.z .i64 a_0.Match.n a_0.Match.f)]), (.agg [(.int .i64 b_1.Id), (.int .i64 b_1.Peers), (.int .i64 b_1.Term), (.int .i64 b_1.Voted), (.rs b_1.Log.z .impl_Entry b_1.Log.n b_1.Log.f), (.int .i64 b_1.Role), (.int .i64 b_1.Commit), (.rs b_1.Votes.z .i64 b_1.Votes.n b_1.Votes.f), (.rs b_1.Next.z .i64 b_1.Next.n b_1.Next.f), (.rs b_1.Match.z .i64 b_1.Match.n b_1.Match.f)])] = F_laws_eqNode fu a_0 b_1 := by kernel_rfl
noncomputable def body_laws_eqNode : Code := Try.f13.body.getD .skip
theorem lpok_laws_eqNode (fu : Nat) : LpOk E (pc_laws_eqNode fu) msk_laws_eqNode (lp_laws_eqNode fu) (loops 0 body_laws_eqNode) := by
  have h : loops 0 body_laws_eqNode = [] := by kernel_rfl
  rw [h]; intro p hp; cases hp
def S_laws_eqNode (fu : Nat) (xs : List (D RT den)) : Option (Out RT den) := match xs with | [.agg [.int .i64 a0_1, .int .i64 a0_2, .int .i64 a0_3, .int .i64 a0_4, .rs za0_5 .impl_Entry na0_5 fa0_5, .int .i64 a0_6, .int .i64 a0_7, .rs za0_8 .i64 na0_8 fa0_8, .rs za0_9 .i64 na0_9 fa0_9, .rs za0_10 .i64 na0_10 fa0_10], .agg [.int .i64 a1_1, .int .i64 a1_2, .int .i64 a1_3, .int .i64 a1_4, .rs za1_5 .impl_Entry na1_5 fa1_5, .int .i64 a1_6, .int .i64 a1_7, .rs za1_8 .i64 na1_8 fa1_8, .rs za1_9 .i64 na1_9 fa1_9, .rs za1_10 .i64 na1_10 fa1_10]] => some ⟨Bool, F_laws_eqNode fu (⟨a0_1, a0_2, a0_3, a0_4, (⟨za0_5, na0_5, fa0_5⟩ : (Sl S_impl_Entry)), a0_6, a0_7, (⟨za0_8, na0_8, fa0_8⟩ : (Sl Int)), (⟨za0_9, na0_9, fa0_9⟩ : (Sl Int)), (⟨za0_10, na0_10, fa0_10⟩ : (Sl Int))⟩ : S_impl_Node) (⟨a1_1, a1_2, a1_3, a1_4, (⟨za1_5, na1_5, fa1_5⟩ : (Sl S_impl_Entry)), a1_6, a1_7, (⟨za1_8, na1_8, fa1_8⟩ : (Sl Int)), (⟨za1_9, na1_9, fa1_9⟩ : (Sl Int)), (⟨za1_10, na1_10, fa1_10⟩ : (Sl Int))⟩ : S_impl_Node), enc_bo, fun _ => true⟩ | _ => none
theorem hpc_laws_eqNode (fu : Nat) : ∀ f xs o, pcf_laws_eqNode fu f xs = some o → ∀ y, o.x = some y → Good E Try.prog f xs (o.g y) := by
  intro f xs o h
  unfold pcf_laws_eqNode at h
  split at h
  · exact good_laws_eqEntryS fu xs o h
  · exact good_laws_eqInt64S fu xs o h
  · cases h
theorem hpx_laws_eqNode (fu : Nat) : ∀ f xs ins o, pcx_laws_eqNode fu f xs ins = some o → ∀ y, o.x = some y → GoodX E Try.prog f xs ins (o.g y).1 (o.g y).2 := by
  intro f xs ins o h
  cases h
theorem goodv_laws_eqNode (fu : Nat) (a_0 : S_impl_Node) (b_1 : S_impl_Node) (y : Bool) (hy : F_laws_eqNode fu a_0 b_1 = some y) : Good E Try.prog 13 [(.agg [(.int .i64 a_0.Id), (.int .i64 a_0.Peers), (.int .i64 a_0.Term), (.int .i64 a_0.Voted), (.rs a_0.Log.z .impl_Entry a_0.Log.n a_0.Log.f), (.int .i64 a_0.Role), (.int .i64 a_0.Commit), (.rs a_0.Votes.z .i64 a_0.Votes.n a_0.Votes.f), (.rs a_0.Next.z .i64 a_0.Next.n a_0.Next.f), (.rs a_0.Match.z .i64 a_0.Match.n a_0.Match.f)]), (.agg [(.int .i64 b_1.Id), (.int .i64 b_1.Peers), (.int .i64 b_1.Term), (.int .i64 b_1.Voted), (.rs b_1.Log.z .impl_Entry b_1.Log.n b_1.Log.f), (.int .i64 b_1.Role), (.int .i64 b_1.Commit), (.rs b_1.Votes.z .i64 b_1.Votes.n b_1.Votes.f), (.rs b_1.Next.z .i64 b_1.Next.n b_1.Next.f), (.rs b_1.Match.z .i64 b_1.Match.n b_1.Match.f)])] (enc_bo y) :=
  fun_good E_ok (pc_good (pc := pc_laws_eqNode fu) (hpc_laws_eqNode fu) (hpx_laws_eqNode fu)) (fn := Try.f13) (c := body_laws_eqNode) (out := out_bo) (y := y) (by kernel_rfl) (by kernel_rfl) (by kernel_rfl) (lpok_laws_eqNode fu) (fun d hd => out_bo_enc d _ hd) ((ev_laws_eqNode fu a_0 b_1).trans hy)
theorem good_laws_eqNode (fu : Nat) : ∀ xs o, S_laws_eqNode fu xs = some o → ∀ y, o.x = some y → Good E Try.prog 13 xs (o.g y) := by
  intro xs o h y hy
  unfold S_laws_eqNode at h
  split at h
  · rename_i a0_1 a0_2 a0_3 a0_4 za0_5 na0_5 fa0_5 a0_6 a0_7 za0_8 na0_8 fa0_8 za0_9 na0_9 fa0_9 za0_10 na0_10 fa0_10 a1_1 a1_2 a1_3 a1_4 za1_5 na1_5 fa1_5 a1_6 a1_7 za1_8 na1_8 fa1_8 za1_9 na1_9 fa1_9 za1_10 na1_10 fa1_10
    cases h
    exact goodv_laws_eqNode fu (⟨a0_1, a0_2, a0_3, a0_4, (⟨za0_5, na0_5, fa0_5⟩ : (Sl S_impl_Entry)), a0_6, a0_7, (⟨za0_8, na0_8, fa0_8⟩ : (Sl Int)), (⟨za0_9, na0_9, fa0_9⟩ : (Sl Int)), (⟨za0_10, na0_10, fa0_10⟩ : (Sl Int))⟩ : S_impl_Node) (⟨a1_1, a1_2, a1_3, a1_4, (⟨za1_5, na1_5, fa1_5⟩ : (Sl S_impl_Entry)), a1_6, a1_7, (⟨za1_8, na1_8, fa1_8⟩ : (Sl Int)), (⟨za1_9, na1_9, fa1_9⟩ : (Sl Int)), (⟨za1_10, na1_10, fa1_10⟩ : (Sl Int))⟩ : S_impl_Node) y hy
  · cases h

/-! laws.eqMail -/
def F_laws_eqMail (fu : Nat) (a_0 : S_impl_Mail) (b_1 : S_impl_Mail) : Option (Bool) :=
  (bif (a_0.Kind != b_1.Kind) then (some false) else (bif (a_0.From != b_1.From) then (some false) else (bif (a_0.To != b_1.To) then (some false) else (bif (a_0.Term != b_1.Term) then
    (some false) else (bif (a_0.Index != b_1.Index) then (some false) else (bif (a_0.Last != b_1.Last) then (some false) else (bif (a_0.Commit != b_1.Commit) then (some false) else
    (bif (!(a_0.Ok == b_1.Ok)) then (some false) else ((F_laws_eqEntryS fu a_0.Entries b_1.Entries).bind fun y303 => (bif (!y303) then (some false) else (some true)))))))))))
def pcf_laws_eqMail (fu : Nat) (f : Nat) (xs : List (D RT den)) : Option (Out RT den) := match f with | 50 => S_laws_eqEntryS fu xs | _ => none
def pcx_laws_eqMail (fu : Nat) (f : Nat) (xs : List (D RT den)) (ins : List (Ob RT den)) : Option (OutX RT den) := none
def pc_laws_eqMail (fu : Nat) : Pc RT den := ⟨pcf_laws_eqMail fu, fun _ => false, fun _ => false, pcx_laws_eqMail fu⟩
def msk_laws_eqMail (b : Nat) : List Nat := []
def lp_laws_eqMail (fu : Nat) : Lp RT den (Bool) := fun b s k => none
theorem ev_laws_eqMail (fu : Nat) (a_0 : S_impl_Mail) (b_1 : S_impl_Mail) : evFun E (pc_laws_eqMail fu) msk_laws_eqMail (lp_laws_eqMail fu) out_bo 96 [(.agg [(.int .i64 a_0.Kind), (.int .i64 a_0.From), (.int .i64 a_0.To), (.int .i64 a_0.Term), (.int .i64 a_0.Index), (.int .i64 a_0.Last), (.int .i64 a_0.Commit), (.bool a_0.Ok), (.rs a_0.Entries.z .impl_Entry a_0.Entries.n a_0.Entries.f)]), (.agg [(.int .i64 b_1.Kind), (.int .i64 b_1.From), (.int .i64 b_1.To), (.int .i64 b_1.Term), (.int .i64 b_1.Index), (.int .i64 b_1.Last), (.int .i64 b_1.Commit), (.bool b_1.Ok), (.rs b_1.Entries.z .impl_Entry b_1.Entries.n b_1.Entries.f)])] = F_laws_eqMail fu a_0 b_1 := by kernel_rfl
noncomputable def body_laws_eqMail : Code := Try.f96.body.getD .skip
theorem lpok_laws_eqMail (fu : Nat) : LpOk E (pc_laws_eqMail fu) msk_laws_eqMail (lp_laws_eqMail fu) (loops 0 body_laws_eqMail) := by
  have h : loops 0 body_laws_eqMail = [] := by kernel_rfl
  rw [h]; intro p hp; cases hp
def S_laws_eqMail (fu : Nat) (xs : List (D RT den)) : Option (Out RT den) := match xs with | [.agg [.int .i64 a0_1, .int .i64 a0_2, .int .i64 a0_3, .int .i64 a0_4, .int .i64 a0_5, .int .i64 a0_6, .int .i64 a0_7, .bool a0_8, .rs za0_9 .impl_Entry na0_9 fa0_9], .agg [.int .i64 a1_1, .int .i64 a1_2, .int .i64 a1_3, .int .i64 a1_4, .int .i64 a1_5, .int .i64 a1_6, .int .i64 a1_7, .bool a1_8, .rs za1_9 .impl_Entry na1_9 fa1_9]] => some ⟨Bool, F_laws_eqMail fu (⟨a0_1, a0_2, a0_3, a0_4, a0_5, a0_6, a0_7, a0_8, (⟨za0_9, na0_9, fa0_9⟩ : (Sl S_impl_Entry))⟩ : S_impl_Mail) (⟨a1_1, a1_2, a1_3, a1_4, a1_5, a1_6, a1_7, a1_8, (⟨za1_9, na1_9, fa1_9⟩ : (Sl S_impl_Entry))⟩ : S_impl_Mail), enc_bo, fun _ => true⟩ | _ => none
theorem hpc_laws_eqMail (fu : Nat) : ∀ f xs o, pcf_laws_eqMail fu f xs = some o → ∀ y, o.x = some y → Good E Try.prog f xs (o.g y) := by
  intro f xs o h
  unfold pcf_laws_eqMail at h
  split at h
  · exact good_laws_eqEntryS fu xs o h
  · cases h
theorem hpx_laws_eqMail (fu : Nat) : ∀ f xs ins o, pcx_laws_eqMail fu f xs ins = some o → ∀ y, o.x = some y → GoodX E Try.prog f xs ins (o.g y).1 (o.g y).2 := by
  intro f xs ins o h
  cases h
theorem goodv_laws_eqMail (fu : Nat) (a_0 : S_impl_Mail) (b_1 : S_impl_Mail) (y : Bool) (hy : F_laws_eqMail fu a_0 b_1 = some y) : Good E Try.prog 96 [(.agg [(.int .i64 a_0.Kind), (.int .i64 a_0.From), (.int .i64 a_0.To), (.int .i64 a_0.Term), (.int .i64 a_0.Index), (.int .i64 a_0.Last), (.int .i64 a_0.Commit), (.bool a_0.Ok), (.rs a_0.Entries.z .impl_Entry a_0.Entries.n a_0.Entries.f)]), (.agg [(.int .i64 b_1.Kind), (.int .i64 b_1.From), (.int .i64 b_1.To), (.int .i64 b_1.Term), (.int .i64 b_1.Index), (.int .i64 b_1.Last), (.int .i64 b_1.Commit), (.bool b_1.Ok), (.rs b_1.Entries.z .impl_Entry b_1.Entries.n b_1.Entries.f)])] (enc_bo y) :=
  fun_good E_ok (pc_good (pc := pc_laws_eqMail fu) (hpc_laws_eqMail fu) (hpx_laws_eqMail fu)) (fn := Try.f96) (c := body_laws_eqMail) (out := out_bo) (y := y) (by kernel_rfl) (by kernel_rfl) (by kernel_rfl) (lpok_laws_eqMail fu) (fun d hd => out_bo_enc d _ hd) ((ev_laws_eqMail fu a_0 b_1).trans hy)
theorem good_laws_eqMail (fu : Nat) : ∀ xs o, S_laws_eqMail fu xs = some o → ∀ y, o.x = some y → Good E Try.prog 96 xs (o.g y) := by
  intro xs o h y hy
  unfold S_laws_eqMail at h
  split at h
  · rename_i a0_1 a0_2 a0_3 a0_4 a0_5 a0_6 a0_7 a0_8 za0_9 na0_9 fa0_9 a1_1 a1_2 a1_3 a1_4 a1_5 a1_6 a1_7 a1_8 za1_9 na1_9 fa1_9
    cases h
    exact goodv_laws_eqMail fu (⟨a0_1, a0_2, a0_3, a0_4, a0_5, a0_6, a0_7, a0_8, (⟨za0_9, na0_9, fa0_9⟩ : (Sl S_impl_Entry))⟩ : S_impl_Mail) (⟨a1_1, a1_2, a1_3, a1_4, a1_5, a1_6, a1_7, a1_8, (⟨za1_9, na1_9, fa1_9⟩ : (Sl S_impl_Entry))⟩ : S_impl_Mail) y hy
  · cases h

/-! laws.eqMailS -/
def F_laws_eqMailS_B0 {ρ : Type} (fu : Nat) (a0_0 : (Sl S_impl_Mail)) (b1_1 : (Sl S_impl_Mail)) (k0 : Option ρ) (k1 : Option ρ) (i5_2 : Int) (go : Int → Option ρ) : Option ρ :=
  (bif (decide (i5_2 < ((a0_0.n : Nat) : Int))) then ((bif (decide (0 ≤ i5_2) && decide ((Int.toNat i5_2) < a0_0.n)) then some () else none : Option Unit).bind fun _ => ((bif (decide (0 ≤ i5_2) &&
    decide ((Int.toNat i5_2) < b1_1.n)) then some () else none : Option Unit).bind fun _ => ((F_laws_eqMail fu (a0_0.f (Int.toNat i5_2)) (b1_1.f (Int.toNat i5_2))).bind fun y302 =>
    (bif (!y302) then k0 else (go (IntKind.wrap .i64 (i5_2 + 1))))))) else k1)
def F_laws_eqMailS (fu : Nat) (a_0 : (Sl S_impl_Mail)) (b_1 : (Sl S_impl_Mail)) : Option (Bool) :=
  (bif (((a_0.n : Nat) : Int) != ((b_1.n : Nat) : Int)) then (some false) else (L (fun w0 go0 => F_laws_eqMailS_B0 fu a_0 b_1 (some false) (some true) w0 go0) fu (0 : Int)))
def pcf_laws_eqMailS (fu : Nat) (f : Nat) (xs : List (D RT den)) : Option (Out RT den) := match f with | 96 => S_laws_eqMail fu xs | _ => none
def pcx_laws_eqMailS (fu : Nat) (f : Nat) (xs : List (D RT den)) (ins : List (Ob RT den)) : Option (OutX RT den) := none
def pc_laws_eqMailS (fu : Nat) : Pc RT den := ⟨pcf_laws_eqMailS fu, fun _ => false, fun _ => false, pcx_laws_eqMailS fu⟩
def msk_laws_eqMailS (b : Nat) : List Nat := match b with | 0 => [2, 3, 4, 6, 7, 8, 9, 10, 11, 12, 13, 14, 15, 16, 17, 18, 19, 20, 21, 22, 23, 24, 25, 26] | 100000 => [0, 1, 2, 3, 5, 6, 7, 8, 9, 10, 11, 12, 13, 14, 15, 16, 17, 18, 19, 20, 21, 22, 23, 24, 25, 26] | _ => []
def ps_laws_eqMailS_0 : List (Pat RT) := [.flat (.rs .impl_Mail), .flat (.rs .impl_Mail), .flat .dead, .flat .dead, .flat .dead, .flat (.int .i64), .flat .dead, .flat .dead, .flat .dead, .flat .dead, .flat .dead, .flat .dead, .flat .dead, .flat .dead, .flat .dead, .flat .dead, .flat .dead, .flat .dead, .flat .dead, .flat .dead, .flat .dead, .flat .dead, .flat .dead, .flat .dead, .flat .dead, .flat .dead, .flat .dead]
def os_laws_eqMailS_0 : List (OP RT) := []
def conv_laws_eqMailS_0 (r : Raw den ps_laws_eqMailS_0 os_laws_eqMailS_0) : ((Sl S_impl_Mail) × (Sl S_impl_Mail)) × (Int) := ((r.1.1, r.1.2.1), r.1.2.2.2.2.2.1)
def back_laws_eqMailS_0 (c : (Sl S_impl_Mail) × (Sl S_impl_Mail)) (w : Int) : St RT den := ⟨[(.rs c.1.z .impl_Mail c.1.n c.1.f), (.rs c.2.z .impl_Mail c.2.n c.2.f), .dead, .dead, .dead, (.int .i64 w), .dead, .dead, .dead, .dead, .dead, .dead, .dead, .dead, .dead, .dead, .dead, .dead, .dead, .dead, .dead, .dead, .dead, .dead, .dead, .dead, .dead], []⟩
def Bk_laws_eqMailS_0 {ρ : Type} (fu : Nat) (c : (Sl S_impl_Mail) × (Sl S_impl_Mail)) (k : Ex → St RT den → Option ρ) (w : Int) (go : (Int) → Option ρ) : Option ρ := F_laws_eqMailS_B0 fu c.1 c.2 (k .ret ⟨[.dead, .dead, .dead, .dead, (.bool false), .dead, .dead, .dead, .dead, .dead, .dead, .dead, .dead, .dead, .dead, .dead, .dead, .dead, .dead, .dead, .dead, .dead, .dead, .dead, .dead, .dead, .dead], []⟩) (k (.exit 0) ⟨[.dead, .dead, .dead, .dead, .dead, .dead, .dead, .dead, .dead, .dead, .dead, .dead, .dead, .dead, .dead, .dead, .dead, .dead, .dead, .dead, .dead, .dead, .dead, .dead, .dead, .dead, .dead], []⟩) w go
def lp_laws_eqMailS (fu : Nat) : Lp RT den (Bool) := fun b s k => match b with | 0 => handle ps_laws_eqMailS_0 os_laws_eqMailS_0 conv_laws_eqMailS_0 (Bk_laws_eqMailS_0 fu) fu s k | _ => none
theorem ev_laws_eqMailS (fu : Nat) (a_0 : (Sl S_impl_Mail)) (b_1 : (Sl S_impl_Mail)) : evFun E (pc_laws_eqMailS fu) msk_laws_eqMailS (lp_laws_eqMailS fu) out_bo 49 [(.rs a_0.z .impl_Mail a_0.n a_0.f), (.rs b_1.z .impl_Mail b_1.n b_1.f)] = F_laws_eqMailS fu a_0 b_1 := by kernel_rfl
noncomputable def body_laws_eqMailS : Code := Try.f49.body.getD .skip
noncomputable def lc_laws_eqMailS_0 : Code := ((loops 0 body_laws_eqMailS).getD 0 (0, .skip)).2
theorem round_laws_eqMailS_0 (fu : Nat) (it : St RT den → Option (Bool)) (k : Ex → St RT den → Option (Bool)) c w : evCode E (pc_laws_eqMailS fu) msk_laws_eqMailS (lp_laws_eqMailS fu) 0 lc_laws_eqMailS_0 (back_laws_eqMailS_0 c w) (after (msk_laws_eqMailS 0) (msk_laws_eqMailS 100000) 0 it k) = Bk_laws_eqMailS_0 fu c k w (fun w => it (back_laws_eqMailS_0 c w)) := by kernel_rfl
theorem lpok_laws_eqMailS_0 (fu : Nat) : ∀ s k r, lp_laws_eqMailS fu 0 s k = some r → ∃ fuel, iter (msk_laws_eqMailS 0) (msk_laws_eqMailS 100000) s.objs.length (evCode E (pc_laws_eqMailS fu) msk_laws_eqMailS (lp_laws_eqMailS fu) 0 lc_laws_eqMailS_0) fuel s k = some r :=
  handle_ok (ps := ps_laws_eqMailS_0) (os := os_laws_eqMailS_0) (conv := conv_laws_eqMailS_0) (B := Bk_laws_eqMailS_0 fu) (fu := fu) back_laws_eqMailS_0 (fun raw => by kernel_rfl) 0 (fun c w => by kernel_rfl) (round_laws_eqMailS_0 fu)
theorem lpok_laws_eqMailS (fu : Nat) : LpOk E (pc_laws_eqMailS fu) msk_laws_eqMailS (lp_laws_eqMailS fu) (loops 0 body_laws_eqMailS) := loop_all 1 (by kernel_rfl) fun i hi => match i, hi with
  | 0, _ => by
    have h : (loops 0 body_laws_eqMailS).getD 0 (0, .skip) = (0, lc_laws_eqMailS_0) := by kernel_rfl
    rw [h]; exact lpok_laws_eqMailS_0 fu
  | i + 1, hi => absurd hi (by omega)
def S_laws_eqMailS (fu : Nat) (xs : List (D RT den)) : Option (Out RT den) := match xs with | [.rs za0_0 .impl_Mail na0_0 fa0_0, .rs za1_0 .impl_Mail na1_0 fa1_0] => some ⟨Bool, F_laws_eqMailS fu (⟨za0_0, na0_0, fa0_0⟩ : (Sl S_impl_Mail)) (⟨za1_0, na1_0, fa1_0⟩ : (Sl S_impl_Mail)), enc_bo, fun _ => true⟩ | _ => none
theorem hpc_laws_eqMailS (fu : Nat) : ∀ f xs o, pcf_laws_eqMailS fu f xs = some o → ∀ y, o.x = some y → Good E Try.prog f xs (o.g y) := by
  intro f xs o h
  unfold pcf_laws_eqMailS at h
  split at h
  · exact good_laws_eqMail fu xs o h
  · cases h
theorem hpx_laws_eqMailS (fu : Nat) : ∀ f xs ins o, pcx_laws_eqMailS fu f xs ins = some o → ∀ y, o.x = some y → GoodX E Try.prog f xs ins (o.g y).1 (o.g y).2 := by
  intro f xs ins o h
  cases h
theorem goodv_laws_eqMailS (fu : Nat) (a_0 : (Sl S_impl_Mail)) (b_1 : (Sl S_impl_Mail)) (y : Bool) (hy : F_laws_eqMailS fu a_0 b_1 = some y) : Good E Try.prog 49 [(.rs a_0.z .impl_Mail a_0.n a_0.f), (.rs b_1.z .impl_Mail b_1.n b_1.f)] (enc_bo y) :=
  fun_good E_ok (pc_good (pc := pc_laws_eqMailS fu) (hpc_laws_eqMailS fu) (hpx_laws_eqMailS fu)) (fn := Try.f49) (c := body_laws_eqMailS) (out := out_bo) (y := y) (by kernel_rfl) (by kernel_rfl) (by kernel_rfl) (lpok_laws_eqMailS fu) (fun d hd => out_bo_enc d _ hd) ((ev_laws_eqMailS fu a_0 b_1).trans hy)
theorem good_laws_eqMailS (fu : Nat) : ∀ xs o, S_laws_eqMailS fu xs = some o → ∀ y, o.x = some y → Good E Try.prog 49 xs (o.g y) := by
  intro xs o h y hy
  unfold S_laws_eqMailS at h
  split at h
  · rename_i za0_0 na0_0 fa0_0 za1_0 na1_0 fa1_0
    cases h
    exact goodv_laws_eqMailS fu (⟨za0_0, na0_0, fa0_0⟩ : (Sl S_impl_Mail)) (⟨za1_0, na1_0, fa1_0⟩ : (Sl S_impl_Mail)) y hy
  · cases h

/-! laws.eqNodeResult -/
def F_laws_eqNodeResult (fu : Nat) (a_0 : S_impl_NodeResult) (b_1 : S_impl_NodeResult) : Option (Bool) :=
  (bif (a_0.Code != b_1.Code) then (some false) else ((F_laws_eqNode fu a_0.Node b_1.Node).bind fun y294 => (bif (!y294) then (some false) else ((F_laws_eqMailS fu a_0.Send b_1.Send).bind fun y295 =>
    (bif (!y295) then (some false) else (some true))))))
def pcf_laws_eqNodeResult (fu : Nat) (f : Nat) (xs : List (D RT den)) : Option (Out RT den) := match f with | 13 => S_laws_eqNode fu xs | 49 => S_laws_eqMailS fu xs | _ => none
def pcx_laws_eqNodeResult (fu : Nat) (f : Nat) (xs : List (D RT den)) (ins : List (Ob RT den)) : Option (OutX RT den) := none
def pc_laws_eqNodeResult (fu : Nat) : Pc RT den := ⟨pcf_laws_eqNodeResult fu, fun _ => false, fun _ => false, pcx_laws_eqNodeResult fu⟩
def msk_laws_eqNodeResult (b : Nat) : List Nat := []
def lp_laws_eqNodeResult (fu : Nat) : Lp RT den (Bool) := fun b s k => none
theorem ev_laws_eqNodeResult (fu : Nat) (a_0 : S_impl_NodeResult) (b_1 : S_impl_NodeResult) : evFun E (pc_laws_eqNodeResult fu) msk_laws_eqNodeResult (lp_laws_eqNodeResult fu) out_bo 12 [(.agg [(.int .i64 a_0.Code), (.int .i64 a_0.Node.Id), (.int .i64 a_0.Node.Peers), (.int .i64 a_0.Node.Term), (.int .i64 a_0.Node.Voted), (.rs a_0.Node.Log.z .impl_Entry a_0.Node.Log.n a_0.Node.Log.f), (.int .i64 a_0.Node.Role), (.int .i64 a_0.Node.Commit), (.rs a_0.Node.Votes.z .i64 a_0.Node.Votes.n a_0.Node.Votes.f), (.rs a_0.Node.Next.z .i64 a_0.Node.Next.n a_0.Node.Next.f), (.rs a_0.Node.Match.z .i64 a_0.Node.Match.n a_0.Node.Match.f), (.rs a_0.Send.z .impl_Mail a_0.Send.n a_0.Send.f)]), (.agg [(.int .i64 b_1.Code), (.int .i64 b_1.Node.Id), (.int .i64 b_1.Node.Peers), (.int .i64 b_1.Node.Term), (.int .i64 b_1.Node.Voted), (.rs b_1.Node.Log.z .impl_Entry b_1.Node.Log.n b_1.Node.Log.f), (.int .i64 b_1.Node.Role), (.int .i64 b_1.Node.Commit), (.rs b_1.Node.Votes.z .i64 b_1.Node.Votes.n b_1.Node.Votes.f), (.rs b_1.Node.Next.z .i64 b_1.Node.Next.n b_1.Node.Next.f), (.rs b_1.Node.Match.z .i64 b_1.Node.Match.n b_1.Node.Match.f), (.rs b_1.Send.z .impl_Mail b_1.Send.n b_1.Send.f)])] = F_laws_eqNodeResult fu a_0 b_1 := by kernel_rfl
noncomputable def body_laws_eqNodeResult : Code := Try.f12.body.getD .skip
theorem lpok_laws_eqNodeResult (fu : Nat) : LpOk E (pc_laws_eqNodeResult fu) msk_laws_eqNodeResult (lp_laws_eqNodeResult fu) (loops 0 body_laws_eqNodeResult) := by
  have h : loops 0 body_laws_eqNodeResult = [] := by kernel_rfl
  rw [h]; intro p hp; cases hp
def S_laws_eqNodeResult (fu : Nat) (xs : List (D RT den)) : Option (Out RT den) := match xs with | [.agg [.int .i64 a0_1, .int .i64 a0_3, .int .i64 a0_4, .int .i64 a0_5, .int .i64 a0_6, .rs za0_7 .impl_Entry na0_7 fa0_7, .int .i64 a0_8, .int .i64 a0_9, .rs za0_10 .i64 na0_10 fa0_10, .rs za0_11 .i64 na0_11 fa0_11, .rs za0_12 .i64 na0_12 fa0_12, .rs za0_13 .impl_Mail na0_13 fa0_13], .agg [.int .i64 a1_1, .int .i64 a1_3, .int .i64 a1_4, .int .i64 a1_5, .int .i64 a1_6, .rs za1_7 .impl_Entry na1_7 fa1_7, .int .i64 a1_8, .int .i64 a1_9, .rs za1_10 .i64 na1_10 fa1_10, .rs za1_11 .i64 na1_11 fa1_11, .rs za1_12 .i64 na1_12 fa1_12, .rs za1_13 .impl_Mail na1_13 fa1_13]] => some ⟨Bool, F_laws_eqNodeResult fu (⟨a0_1, (⟨a0_3, a0_4, a0_5, a0_6, (⟨za0_7, na0_7, fa0_7⟩ : (Sl S_impl_Entry)), a0_8, a0_9, (⟨za0_10, na0_10, fa0_10⟩ : (Sl Int)), (⟨za0_11, na0_11, fa0_11⟩ : (Sl Int)), (⟨za0_12, na0_12, fa0_12⟩ : (Sl Int))⟩ : S_impl_Node), (⟨za0_13, na0_13, fa0_13⟩ : (Sl S_impl_Mail))⟩ : S_impl_NodeResult) (⟨a1_1, (⟨a1_3, a1_4, a1_5, a1_6, (⟨za1_7, na1_7, fa1_7⟩ : (Sl S_impl_Entry)), a1_8, a1_9, (⟨za1_10, na1_10, fa1_10⟩ : (Sl Int)), (⟨za1_11, na1_11, fa1_11⟩ : (Sl Int)), (⟨za1_12, na1_12, fa1_12⟩ : (Sl Int))⟩ : S_impl_Node), (⟨za1_13, na1_13, fa1_13⟩ : (Sl S_impl_Mail))⟩ : S_impl_NodeResult), enc_bo, fun _ => true⟩ | _ => none
theorem hpc_laws_eqNodeResult (fu : Nat) : ∀ f xs o, pcf_laws_eqNodeResult fu f xs = some o → ∀ y, o.x = some y → Good E Try.prog f xs (o.g y) := by
  intro f xs o h
  unfold pcf_laws_eqNodeResult at h
  split at h
  · exact good_laws_eqNode fu xs o h
  · exact good_laws_eqMailS fu xs o h
  · cases h
theorem hpx_laws_eqNodeResult (fu : Nat) : ∀ f xs ins o, pcx_laws_eqNodeResult fu f xs ins = some o → ∀ y, o.x = some y → GoodX E Try.prog f xs ins (o.g y).1 (o.g y).2 := by
  intro f xs ins o h
  cases h
theorem goodv_laws_eqNodeResult (fu : Nat) (a_0 : S_impl_NodeResult) (b_1 : S_impl_NodeResult) (y : Bool) (hy : F_laws_eqNodeResult fu a_0 b_1 = some y) : Good E Try.prog 12 [(.agg [(.int .i64 a_0.Code), (.int .i64 a_0.Node.Id), (.int .i64 a_0.Node.Peers), (.int .i64 a_0.Node.Term), (.int .i64 a_0.Node.Voted), (.rs a_0.Node.Log.z .impl_Entry a_0.Node.Log.n a_0.Node.Log.f), (.int .i64 a_0.Node.Role), (.int .i64 a_0.Node.Commit), (.rs a_0.Node.Votes.z .i64 a_0.Node.Votes.n a_0.Node.Votes.f), (.rs a_0.Node.Next.z .i64 a_0.Node.Next.n a_0.Node.Next.f), (.rs a_0.Node.Match.z .i64 a_0.Node.Match.n a_0.Node.Match.f), (.rs a_0.Send.z .impl_Mail a_0.Send.n a_0.Send.f)]), (.agg [(.int .i64 b_1.Code), (.int .i64 b_1.Node.Id), (.int .i64 b_1.Node.Peers), (.int .i64 b_1.Node.Term), (.int .i64 b_1.Node.Voted), (.rs b_1.Node.Log.z .impl_Entry b_1.Node.Log.n b_1.Node.Log.f), (.int .i64 b_1.Node.Role), (.int .i64 b_1.Node.Commit), (.rs b_1.Node.Votes.z .i64 b_1.Node.Votes.n b_1.Node.Votes.f), (.rs b_1.Node.Next.z .i64 b_1.Node.Next.n b_1.Node.Next.f), (.rs b_1.Node.Match.z .i64 b_1.Node.Match.n b_1.Node.Match.f), (.rs b_1.Send.z .impl_Mail b_1.Send.n b_1.Send.f)])] (enc_bo y) :=
  fun_good E_ok (pc_good (pc := pc_laws_eqNodeResult fu) (hpc_laws_eqNodeResult fu) (hpx_laws_eqNodeResult fu)) (fn := Try.f12) (c := body_laws_eqNodeResult) (out := out_bo) (y := y) (by kernel_rfl) (by kernel_rfl) (by kernel_rfl) (lpok_laws_eqNodeResult fu) (fun d hd => out_bo_enc d _ hd) ((ev_laws_eqNodeResult fu a_0 b_1).trans hy)
theorem good_laws_eqNodeResult (fu : Nat) : ∀ xs o, S_laws_eqNodeResult fu xs = some o → ∀ y, o.x = some y → Good E Try.prog 12 xs (o.g y) := by
  intro xs o h y hy
  unfold S_laws_eqNodeResult at h
  split at h
  · rename_i a0_1 a0_3 a0_4 a0_5 a0_6 za0_7 na0_7 fa0_7 a0_8 a0_9 za0_10 na0_10 fa0_10 za0_11 na0_11 fa0_11 za0_12 na0_12 fa0_12 za0_13 na0_13 fa0_13 a1_1 a1_3 a1_4 a1_5 a1_6 za1_7 na1_7 fa1_7 a1_8 a1_9 za1_10 na1_10 fa1_10 za1_11 na1_11 fa1_11 za1_12 na1_12 fa1_12 za1_13 na1_13 fa1_13
    cases h
    exact goodv_laws_eqNodeResult fu (⟨a0_1, (⟨a0_3, a0_4, a0_5, a0_6, (⟨za0_7, na0_7, fa0_7⟩ : (Sl S_impl_Entry)), a0_8, a0_9, (⟨za0_10, na0_10, fa0_10⟩ : (Sl Int)), (⟨za0_11, na0_11, fa0_11⟩ : (Sl Int)), (⟨za0_12, na0_12, fa0_12⟩ : (Sl Int))⟩ : S_impl_Node), (⟨za0_13, na0_13, fa0_13⟩ : (Sl S_impl_Mail))⟩ : S_impl_NodeResult) (⟨a1_1, (⟨a1_3, a1_4, a1_5, a1_6, (⟨za1_7, na1_7, fa1_7⟩ : (Sl S_impl_Entry)), a1_8, a1_9, (⟨za1_10, na1_10, fa1_10⟩ : (Sl Int)), (⟨za1_11, na1_11, fa1_11⟩ : (Sl Int)), (⟨za1_12, na1_12, fa1_12⟩ : (Sl Int))⟩ : S_impl_Node), (⟨za1_13, na1_13, fa1_13⟩ : (Sl S_impl_Mail))⟩ : S_impl_NodeResult) y hy
  · cases h
end Go.Proofs.Ytohlgllpplbehaa.Pc
